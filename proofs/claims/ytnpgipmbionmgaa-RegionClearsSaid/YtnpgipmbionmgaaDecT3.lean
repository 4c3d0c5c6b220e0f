/-
  The functions of the program, run on symbols; printed by decomp.py.
-/
import Derived.Test.YtnpgipmbionmgaaDecT2
set_option linter.all false
set_option maxRecDepth 1000000
set_option maxHeartbeats 4000000
namespace Go.Eng.R13
open Go Go.RowKit Go.Eng
/-- shipyard/shipyardlaw13.alive -/
def A15v1 : AC := (.seq (.region 7 [o1 54 (.load 25 (some 2) (tm 1)), o1 55 (.build 34 [.c (.i .i64 0), .c (.i .i64 0)] [(0, 1), (1, 1)] 0 [(0, (ic 3)), (1, (ic 3))]), o1 56 (.call 22 [(tm 54), (tm 55)] [25, 34] .snap), o1 57 (.binOp .eql 3 (tm 56) (ic (-1)) 3), mv 58 57, og 59 (.load 25 (some 2) (tm 1)) 58 true, og 60 (.build 34 [.c (.i .i64 0), .c (.i .i64 0)] [(0, 1), (1, 1)] 0 [(0, (ic 2)), (1, (ic 3))]) 58 true, og 61 (.call 22 [(tm 59), (tm 60)] [25, 34] .snap) 58 true, og 62 (.binOp .eql 3 (tm 61) (ic 0) 3) 58 true, o1 63 (.pick (tm 58) (tm 62) (.const (.bool false))), mv 64 63, og 65 (.load 25 (some 2) (tm 1)) 64 true, og 66 (.build 34 [.c (.i .i64 0), .c (.i .i64 0)] [(0, 1), (1, 1)] 0 [(0, (ic 1)), (1, (ic 1))]) 64 true, og 67 (.call 22 [(tm 65), (tm 66)] [25, 34] .snap) 64 true, og 68 (.binOp .eql 3 (tm 67) (ic 1) 3) 64 true, o1 69 (.pick (tm 64) (tm 68) (.const (.bool false))), mv 70 69, og 71 (.load 25 (some 2) (tm 2)) 70 true, og 72 (.load 25 (some 2) (tm 3)) 70 true, og 73 (.call 27 [(tm 71), (tm 72), (ic 5)] [25, 25, 3] .snap) 70 true, o1 74 (.pick (tm 70) (tm 73) (.const (.bool false))), mv 75 74, og 76 (.load 25 (some 2) (tm 2)) 75 true, og 77 (.load 25 (some 2) (tm 3)) 75 true, og 78 (.call 27 [(tm 76), (tm 77), (ic 6)] [25, 25, 3] .snap) 75 true, og 79 (.unOp .not 4 (tm 78)) 75 true, o1 80 (.pick (tm 75) (tm 79) (.const (.bool false))), mv 81 80, og 82 (.load 25 (some 2) (tm 2)) 81 true, og 83 (.call 29 [(tm 82), (ic 12), (ic 13), (ic 0)] [25, 3, 3, 3] .snap) 81 true, o1 84 (.pick (tm 81) (tm 83) (.const (.bool false))), mv 85 84, og 86 (.load 25 (some 2) (tm 2)) 85 true, og 87 (.call 29 [(tm 86), (ic 12), (ic 13), (ic 1)] [25, 3, 3, 3] .snap) 85 true, og 88 (.unOp .not 4 (tm 87)) 85 true, o1 89 (.pick (tm 85) (tm 88) (.const (.bool false))), mv 90 89, og 91 (.load 25 (some 2) (tm 3)) 90 true, og 92 (.call 20 [(tm 91)] [25] .snap) 90 true, og 93 (.build 34 [.c (.i .i64 0), .c (.i .i64 0)] [(0, 1), (1, 1)] 0 [(0, (ic 15))]) 90 true, og 94 (.build 34 [.c (.i .i64 0), .c (.i .i64 0)] [(0, 1), (1, 1)] 0 [(0, (ic 20)), (1, (ic 5))]) 90 true, og 95 (.build 36 [.c (.i .i64 0), .c (.i .i64 0), .c (.i .i64 0), .c (.i .i64 0)] [(0, 2), (2, 2)] 0 [(0, (tm 93)), (1, (tm 94))]) 90 true, og 96 (.eqA false (.pr (.int .i64) (.pr (.int .i64) (.pr (.int .i64) (.pr (.int .i64) .nil)))) 36 (tm 92) (tm 95) 36) 90 true, o1 97 (.pick (tm 90) (tm 96) (.const (.bool false))), o1 0 (.assign (tm 97))] 0 none) []
  (.ret (rl 1 97 [])))
def A15 : AF := ⟨98, [.tmp 0],
  (.seq (.region 0 [o1 0 (.assign (.const (.bool false)))] 0 none) []
  (.seq (.region 1 [o1 7 (.call 41 [(ic 0), (ic 0), (ic 10)] [3, 3, 3] .freeze), o1 8 (.build 34 [.c (.i .i64 0), .c (.i .i64 0)] [(0, 1), (1, 1)] 0 [(0, (ic 2)), (1, (ic 2))]), o1 9 (.build 34 [.c (.i .i64 0), .c (.i .i64 0)] [(0, 1), (1, 1)] 0 [(0, (ic 2)), (1, (ic 4))]), o1 10 (.build 34 [.c (.i .i64 0), .c (.i .i64 0)] [(0, 1), (1, 1)] 0 [(0, (ic 4)), (1, (ic 4))]), o1 11 (.build 34 [.c (.i .i64 0), .c (.i .i64 0)] [(0, 1), (1, 1)] 0 [(0, (ic 4)), (1, (ic 2))]), o1 12 (.buildSlice 0 22 34 (.pr (.int .i64) (.pr (.int .i64) .nil)) 4 [.c (.i .i64 0), .c (.i .i64 0)] [(0, (tm 8)), (1, (tm 9)), (2, (tm 10)), (3, (tm 11))]), o1 13 (.buildSlice 1 23 22 (.pr (.sl (.pr (.int .i64) (.pr (.int .i64) .nil))) .nil) 1 [.c (.ro true .nil 0 (fun _ _ => .any))] [(0, (tm 12))]), o1 14 (.build 25 [.c (.ro true .nil 0 (fun _ _ => .any)), .c (.ro true .nil 0 (fun _ _ => .any))] [(0, 1), (1, 1)] 0 [(0, (tm 7)), (1, (tm 13))]), o1 1 (.alloc 2 25 [.c (.ro true .nil 0 (fun _ _ => .any)), .c (.ro true .nil 0 (fun _ _ => .any))]), o0 (.store 25 2 (tm 1) (tm 14))] 3 none) []
  (.seq (.region 2 [o1 15 (.call 41 [(ic 0), (ic 0), (ic 10)] [3, 3, 3] .freeze), o1 16 (.build 25 [.c (.ro true .nil 0 (fun _ _ => .any)), .c (.ro true .nil 0 (fun _ _ => .any))] [(0, 1), (1, 1)] 0 [(0, (tm 15))]), o1 17 (.call 41 [(ic 15), (ic 0), (ic 5)] [3, 3, 3] .freeze), o1 18 (.build 25 [.c (.ro true .nil 0 (fun _ _ => .any)), .c (.ro true .nil 0 (fun _ _ => .any))] [(0, 1), (1, 1)] 0 [(0, (tm 17))]), o1 2 (.alloc 0 25 [.c (.ro true .nil 0 (fun _ _ => .any)), .c (.ro true .nil 0 (fun _ _ => .any))]), o1 3 (.alloc 1 25 [.c (.ro true .nil 0 (fun _ _ => .any)), .c (.ro true .nil 0 (fun _ _ => .any))]), o0 (.store 25 2 (tm 2) (tm 16)), o0 (.store 25 2 (tm 3) (tm 18))] 2 none) []
  (.seq (.region 3 [o1 19 (.build 34 [.c (.i .i64 0), .c (.i .i64 0)] [(0, 1), (1, 1)] 0 [(0, (ic 3)), (1, (ic 1))]), o1 20 (.buildSlice 0 22 34 (.pr (.int .i64) (.pr (.int .i64) .nil)) 1 [.c (.i .i64 0), .c (.i .i64 0)] [(0, (tm 19))]), o1 21 (.build 25 [.c (.ro true .nil 0 (fun _ _ => .any)), .c (.ro true .nil 0 (fun _ _ => .any))] [(0, 1), (1, 1)] 0 [(0, (tm 20))]), o1 22 (.build 34 [.c (.i .i64 0), .c (.i .i64 0)] [(0, 1), (1, 1)] 0 [(0, (ic 10))]), o1 23 (.build 41 [.c (.s ByteArray.empty), .c (.i .i64 0), .c (.i .i64 0), .c (.i .i64 0), .c (.b false)] [(0, 1), (1, 2), (3, 1), (4, 1)] 0 [(1, (tm 22)), (2, (ic 1)), (3, (.const (.bool true)))]), o1 24 (.call 25 [(tm 21), (tm 23)] [25, 41] .freeze), o1 4 (.alloc 1 25 [.c (.ro true .nil 0 (fun _ _ => .any)), .c (.ro true .nil 0 (fun _ _ => .any))]), o0 (.store 25 2 (tm 4) (tm 24))] 2 none) []
  (.seq (.region 4 [o1 26 (.load 25 (some 2) (tm 2)), o1 27 (.call 16 [(tm 26)] [25] .snap), mv 25 27, o1 28 (.extract (tm 25) 0), o1 29 (.extract (tm 25) 1), o1 5 (.assign (tm 28)), o1 6 (.assign (tm 29))] 0 none) []
  (.seq (.seq (.region 5 [o1 30 (.load 25 (some 2) (tm 1)), o1 31 (.call 13 [(tm 30)] [25] .snap), o1 32 (.binOp .neq 27 (tm 31) (ic 0) 27), mv 33 32, og 34 (.load 25 (some 2) (tm 1)) 33 false, og 35 (.call 18 [(tm 34)] [25] .snap) 33 false, og 36 (.binOp .neq 3 (tm 35) (ic 192) 3) 33 false, o1 37 (.pick (tm 33) (.const (.bool true)) (tm 36)), mv 38 37, og 39 (.move (tm 5)) 38 false, og 40 (.binOp .neq 3 (tm 39) (ic 3000) 3) 38 false, o1 41 (.pick (tm 38) (.const (.bool true)) (tm 40)), mv 42 41, og 43 (.move (tm 6)) 42 false, og 44 (.binOp .neq 3 (tm 43) (ic 3000) 3) 42 false, o1 45 (.pick (tm 42) (.const (.bool true)) (tm 44)), mv 46 45, og 47 (.load 25 (some 2) (tm 4)) 46 false, og 48 (.build 34 [.c (.i .i64 0), .c (.i .i64 0)] [(0, 1), (1, 1)] 0 [(0, (ic 9)), (1, (ic (-3)))]) 46 false, og 49 (.buildSlice 0 22 34 (.pr (.int .i64) (.pr (.int .i64) .nil)) 1 [.c (.i .i64 0), .c (.i .i64 0)] [(0, (tm 48))]) 46 false, og 50 (.build 25 [.c (.ro true .nil 0 (fun _ _ => .any)), .c (.ro true .nil 0 (fun _ _ => .any))] [(0, 1), (1, 1)] 0 [(0, (tm 49))]) 46 false, og 51 (.call 24 [(tm 47), (tm 50)] [25, 25] .snap) 46 false, og 52 (.unOp .not 4 (tm 51)) 46 false, o1 53 (.pick (tm 46) (.const (.bool true)) (tm 52))] 1 none) []
  (.cond (tm 53)
  (.seq (.region 6 [o1 0 (.assign (.const (.bool false)))] 0 none) []
    (.ret (rl 1 97 [])))
  .skip)) (0 :: (rl 30 24 []))
  A15v1))))))⟩

def D15 {ρ : Type} (fuel : Nat) (k : Bool → Option ρ) : Option ρ :=
  (ob (F41 fuel 0 0 10) fun x1 => (ob (F41 fuel 0 0 10) fun x2 => (ob (F41 fuel 15 0 5) fun x3 => (ob (F25 fuel 1 (rowsF 2 [(.i .i64 3), (.i .i64 1)]) 0 (fun _ _ => .any) ByteArray.empty 10 0 1 true) fun x4 => (ob (F16 fuel x2.1 x2.2 0 (fun _ _ => .any)) fun x5 => (ob (F13 fuel x1.1 x1.2 1 (rowsF 1 [(.ro false (.pr (.int .i64) (.pr (.int .i64) .nil)) 4 (rowsF 2 [(.i .i64 2), (.i .i64 2), (.i .i64 2), (.i .i64 4), (.i .i64 4), (.i .i64 4), (.i .i64 4), (.i .i64 2)]))])) fun x6 => (bif ((x6 != 0) == false) then (ob (F18 fuel x1.1 x1.2 1 (rowsF 1 [(.ro false (.pr (.int .i64) (.pr (.int .i64) .nil)) 4 (rowsF 2 [(.i .i64 2), (.i .i64 2), (.i .i64 2), (.i .i64 4), (.i .i64 4), (.i .i64 4), (.i .i64 4), (.i .i64 2)]))])) fun x7 => (bif ((x7 != 192) == false) then (bif ((x5.1 != 3000) == false) then (bif ((x5.2 != 3000) == false) then (ob (F24 fuel x4.1 x4.2.1 x4.2.2.1 x4.2.2.2 1 (rowsF 2 [(.i .i64 9), (.i .i64 (-3))]) 0 (fun _ _ => .any)) fun x8 => (bif (!x8) then (k false) else (ob (F22 fuel x1.1 x1.2 1 (rowsF 1 [(.ro false (.pr (.int .i64) (.pr (.int .i64) .nil)) 4 (rowsF 2 [(.i .i64 2), (.i .i64 2), (.i .i64 2), (.i .i64 4), (.i .i64 4), (.i .i64 4), (.i .i64 4), (.i .i64 2)]))]) 3 3) fun x9 => (bif ((x9 == (-1)) == true) then (ob (F22 fuel x1.1 x1.2 1 (rowsF 1 [(.ro false (.pr (.int .i64) (.pr (.int .i64) .nil)) 4 (rowsF 2 [(.i .i64 2), (.i .i64 2), (.i .i64 2), (.i .i64 4), (.i .i64 4), (.i .i64 4), (.i .i64 4), (.i .i64 2)]))]) 2 3) fun x10 => (bif ((x10 == 0) == true) then (ob (F22 fuel x1.1 x1.2 1 (rowsF 1 [(.ro false (.pr (.int .i64) (.pr (.int .i64) .nil)) 4 (rowsF 2 [(.i .i64 2), (.i .i64 2), (.i .i64 2), (.i .i64 4), (.i .i64 4), (.i .i64 4), (.i .i64 4), (.i .i64 2)]))]) 1 1) fun x11 => (bif ((x11 == 1) == true) then (ob (F27 fuel x2.1 x2.2 0 (fun _ _ => .any) x3.1 x3.2 0 (fun _ _ => .any) 5) fun x12 => (bif (x12 == true) then (ob (F27 fuel x2.1 x2.2 0 (fun _ _ => .any) x3.1 x3.2 0 (fun _ _ => .any) 6) fun x13 => (bif ((!x13) == true) then (ob (F29 fuel x2.1 x2.2 0 (fun _ _ => .any) 12 13 0) fun x14 => (bif (x14 == true) then (ob (F29 fuel x2.1 x2.2 0 (fun _ _ => .any) 12 13 1) fun x15 => (bif ((!x15) == true) then (ob (F20 fuel x3.1 x3.2 0 (fun _ _ => .any)) fun x16 => (k ((x16.1 == 15) && ((x16.2.1 == 0) && ((x16.2.2.1 == 20) && ((x16.2.2.2 == 5) && true)))))) else (k false))) else (k false))) else (k false))) else (k false))) else (k false))) else (k false))) else (k false))))) else (k false)) else (k false)) else (k false))) else (k false))))))))

def F15 (fuel : Nat) : Option (Bool) := D15 fuel some

theorem n15 {ρ σ : Type} (fuel : Nat) (k : (Bool) → Option ρ) (g : ρ → Option σ) : ob (D15 fuel k) g = D15 fuel fun t => ob (k t) g := by
  simp only [D15, ob_bif, ob_ob, ob_none]

theorem f15 {ρ : Type} (fuel : Nat) (k : (Bool) → Option ρ) : D15 fuel k = ob (F15 fuel) k := by
  unfold F15
  rw [n15]
  simp only [ob_some]

theorem walk15 (fuel : Nat) :
    evalF (C67 fuel) fuel A15 [] =
    (ob (F41 fuel 0 0 10) fun x1 => (ob (F41 fuel 0 0 10) fun x2 => (ob (F41 fuel 15 0 5) fun x3 => (ob (F25 fuel 1 (rowsF 2 [(.i .i64 3), (.i .i64 1)]) 0 (fun _ _ => .any) ByteArray.empty 10 0 1 true) fun x4 => (ob (F16 fuel x2.1 x2.2 0 (fun _ _ => .any)) fun x5 => (ob (F13 fuel x1.1 x1.2 1 (rowsF 1 [(.ro false (.pr (.int .i64) (.pr (.int .i64) .nil)) 4 (rowsF 2 [(.i .i64 2), (.i .i64 2), (.i .i64 2), (.i .i64 4), (.i .i64 4), (.i .i64 4), (.i .i64 4), (.i .i64 2)]))])) fun x6 => (bif ((x6 != 0) == false) then (ob (F18 fuel x1.1 x1.2 1 (rowsF 1 [(.ro false (.pr (.int .i64) (.pr (.int .i64) .nil)) 4 (rowsF 2 [(.i .i64 2), (.i .i64 2), (.i .i64 2), (.i .i64 4), (.i .i64 4), (.i .i64 4), (.i .i64 4), (.i .i64 2)]))])) fun x7 => (bif ((x7 != 192) == false) then (bif ((x5.1 != 3000) == false) then (bif ((x5.2 != 3000) == false) then (ob (F24 fuel x4.1 x4.2.1 x4.2.2.1 x4.2.2.2 1 (rowsF 2 [(.i .i64 9), (.i .i64 (-3))]) 0 (fun _ _ => .any)) fun x8 => (bif (!x8) then (some [.v (.b false)]) else (ob (F22 fuel x1.1 x1.2 1 (rowsF 1 [(.ro false (.pr (.int .i64) (.pr (.int .i64) .nil)) 4 (rowsF 2 [(.i .i64 2), (.i .i64 2), (.i .i64 2), (.i .i64 4), (.i .i64 4), (.i .i64 4), (.i .i64 4), (.i .i64 2)]))]) 3 3) fun x9 => (bif ((x9 == (-1)) == true) then (ob (F22 fuel x1.1 x1.2 1 (rowsF 1 [(.ro false (.pr (.int .i64) (.pr (.int .i64) .nil)) 4 (rowsF 2 [(.i .i64 2), (.i .i64 2), (.i .i64 2), (.i .i64 4), (.i .i64 4), (.i .i64 4), (.i .i64 4), (.i .i64 2)]))]) 2 3) fun x10 => (bif ((x10 == 0) == true) then (ob (F22 fuel x1.1 x1.2 1 (rowsF 1 [(.ro false (.pr (.int .i64) (.pr (.int .i64) .nil)) 4 (rowsF 2 [(.i .i64 2), (.i .i64 2), (.i .i64 2), (.i .i64 4), (.i .i64 4), (.i .i64 4), (.i .i64 4), (.i .i64 2)]))]) 1 1) fun x11 => (bif ((x11 == 1) == true) then (ob (F27 fuel x2.1 x2.2 0 (fun _ _ => .any) x3.1 x3.2 0 (fun _ _ => .any) 5) fun x12 => (bif (x12 == true) then (ob (F27 fuel x2.1 x2.2 0 (fun _ _ => .any) x3.1 x3.2 0 (fun _ _ => .any) 6) fun x13 => (bif ((!x13) == true) then (ob (F29 fuel x2.1 x2.2 0 (fun _ _ => .any) 12 13 0) fun x14 => (bif (x14 == true) then (ob (F29 fuel x2.1 x2.2 0 (fun _ _ => .any) 12 13 1) fun x15 => (bif ((!x15) == true) then (ob (F20 fuel x3.1 x3.2 0 (fun _ _ => .any)) fun x16 => (some [.v (.b ((x16.1 == 15) && ((x16.2.1 == 0) && ((x16.2.2.1 == 20) && ((x16.2.2.2 == 5) && true)))))])) else (some [.v (.b false)]))) else (some [.v (.b false)]))) else (some [.v (.b false)]))) else (some [.v (.b false)]))) else (some [.v (.b false)]))) else (some [.v (.b false)]))) else (some [.v (.b false)]))))) else (some [.v (.b false)])) else (some [.v (.b false)])) else (some [.v (.b false)]))) else (some [.v (.b false)])))))))) := by kernel_rfl

theorem e15 (fuel : Nat) : evalF (C67 fuel) fuel A15 [] = ob (F15 fuel) fun t => some [.v (.b t)] := by
  rw [walk15, ← f15]
  simp only [D15]

def O15 (fuel : Nat) : Ora where
  o := fun args {ρ} K =>
    wn args <|
    (ob (F15 fuel) fun t => K [.v (.b t)])
  nat := fun args {ρ} K => by
    simp only [bind_wc, bind_wn, bind_wv, bind_wagg, bind_wI, bind_wB, bind_wS, bind_wL, bind_wP, bind_wFn, bind_ob, Option.bind_some]

theorem d15 {P : Program} (fuel : Nat) (hmix : P.follows .mixedOrders = true) (hC : Sound P (C67 fuel)) (hF : FFits P 15 A15) (args res : List A) (h : (O15 fuel).o args some = some res) : Den P 15 args res := by
  obtain ⟨hn, z0⟩ := inv_wn h
  cases hn
  exact Den.weaken .nil (evalF_sound hmix hC hF ((e15 fuel).trans z0))

def C68 (fuel : Nat) : Oracle := (C67 fuel).add 15 (fun _ => true) (O15 fuel)

/-- shipyard/shipyardref13.contours -/
def A44 : AF := ⟨9, [.tmp 2],
  (.seq (.region 0 [o1 1 (.box 0 25 (tm 0)), o1 2 (.assign (.const (.slice none 0 0)))] 1 none) []
  (.seq (.region 1 [o1 3 (.fieldAddr 25 (tm 1) 0 0), o1 4 (.load 22 none (tm 3)), o1 5 (.buildSlice 0 23 22 (.pr (.sl (.pr (.int .i64) (.pr (.int .i64) .nil))) .nil) 1 [.c (.ro true .nil 0 (fun _ _ => .any))] [(0, (tm 4))]), o1 6 (.fieldAddr 25 (tm 1) 1 1), o1 7 (.load 23 none (tm 6)), o1 8 (.append 1 23 22 (.pr (.sl (.pr (.int .i64) (.pr (.int .i64) .nil))) .nil) 24 (tm 5) (tm 7)), o1 2 (.assign (tm 8))] 2 none) []
  (.ret (0 :: 1 :: (rl 3 6 [])))))⟩

def D44 {ρ : Type} (fuel : Nat) (x1 : Nat) (x2 : Nat → Nat → CV) (x3 : Nat) (x4 : Nat → Nat → CV) (k : (Nat × (Nat → Nat → CV)) → Option ρ) : Option ρ :=
  (bif (Nat.ble (1 + x3) 1073741824) then (k ((1 + x3), (joinF 1 (rowsF 1 [(.ro false (.pr (.int .i64) (.pr (.int .i64) .nil)) x1 x2)]) x4))) else none)

def F44 (fuel : Nat) (x1 : Nat) (x2 : Nat → Nat → CV) (x3 : Nat) (x4 : Nat → Nat → CV) : Option (Nat × (Nat → Nat → CV)) := D44 fuel x1 x2 x3 x4 some

theorem n44 {ρ σ : Type} (fuel : Nat) (x1 : Nat) (x2 : Nat → Nat → CV) (x3 : Nat) (x4 : Nat → Nat → CV) (k : (Nat × (Nat → Nat → CV)) → Option ρ) (g : ρ → Option σ) : ob (D44 fuel x1 x2 x3 x4 k) g = D44 fuel x1 x2 x3 x4 fun t => ob (k t) g := by
  simp only [D44, ob_bif, ob_ob, ob_none]

theorem f44 {ρ : Type} (fuel : Nat) (x1 : Nat) (x2 : Nat → Nat → CV) (x3 : Nat) (x4 : Nat → Nat → CV) (k : (Nat × (Nat → Nat → CV)) → Option ρ) : D44 fuel x1 x2 x3 x4 k = ob (F44 fuel x1 x2 x3 x4) k := by
  unfold F44
  rw [n44]
  simp only [ob_some]

theorem walk44 (fuel : Nat) (x1 : Nat) (x2 : Nat → Nat → CV) (x3 : Nat) (x4 : Nat → Nat → CV) :
    evalF (C68 fuel) fuel A44 [.agg [(.ro false (.pr (.int .i64) (.pr (.int .i64) .nil)) x1 x2), (.ro false (.pr (.sl (.pr (.int .i64) (.pr (.int .i64) .nil))) .nil) x3 x4)]] =
    (bif (Nat.ble (1 + x3) 1073741824) then (some [.v (.ro false (.pr (.sl (.pr (.int .i64) (.pr (.int .i64) .nil))) .nil) (1 + x3) (joinF 1 (rowsF 1 [(.ro false (.pr (.int .i64) (.pr (.int .i64) .nil)) x1 x2)]) x4))]) else none) := by kernel_rfl

theorem e44 (fuel : Nat) (x1 : Nat) (x2 : Nat → Nat → CV) (x3 : Nat) (x4 : Nat → Nat → CV) : evalF (C68 fuel) fuel A44 [.agg [(.ro false (.pr (.int .i64) (.pr (.int .i64) .nil)) x1 x2), (.ro false (.pr (.sl (.pr (.int .i64) (.pr (.int .i64) .nil))) .nil) x3 x4)]] = ob (F44 fuel x1 x2 x3 x4) fun t => some [.v (.ro false (.pr (.sl (.pr (.int .i64) (.pr (.int .i64) .nil))) .nil) t.1 t.2)] := by
  rw [walk44, ← f44]
  simp only [D44]

def O44 (fuel : Nat) : Ora where
  o := fun args {ρ} K =>
    wc args fun a1 l2 =>
    wagg a1 fun l3 =>
    wc l3 fun c4 l5 =>
    wL (.pr (.int .i64) (.pr (.int .i64) .nil)) c4 fun y6 y7 =>
    wc l5 fun c9 l10 =>
    wL (.pr (.sl (.pr (.int .i64) (.pr (.int .i64) .nil))) .nil) c9 fun y11 y12 =>
    wn l10 <|
    wn l2 <|
    (ob (F44 fuel y6 y7 y11 y12) fun t => K [.v (.ro false (.pr (.sl (.pr (.int .i64) (.pr (.int .i64) .nil))) .nil) t.1 t.2)])
  nat := fun args {ρ} K => by
    simp only [bind_wc, bind_wn, bind_wv, bind_wagg, bind_wI, bind_wB, bind_wS, bind_wL, bind_wP, bind_wFn, bind_ob, Option.bind_some]

theorem d44 {P : Program} (fuel : Nat) (hmix : P.follows .mixedOrders = true) (hC : Sound P (C68 fuel)) (hF : FFits P 44 A44) (args res : List A) (h : (O44 fuel).o args some = some res) : Den P 44 args res := by
  obtain ⟨a1, l2, rfl, z0⟩ := inv_wc h
  obtain ⟨l3, rfl, z1⟩ := inv_wagg z0
  obtain ⟨c4, l5, rfl, z2⟩ := inv_wc z1
  obtain ⟨y6, y7, h8, z3⟩ := inv_wL z2
  obtain ⟨c9, l10, rfl, z4⟩ := inv_wc z3
  obtain ⟨y11, y12, h13, z5⟩ := inv_wL z4
  obtain ⟨hn, z6⟩ := inv_wn z5
  cases hn
  obtain ⟨hn, z7⟩ := inv_wn z6
  cases hn
  exact Den.weaken (.cons (WkA.agg (.cons h8 (.cons h13 .nil))) .nil) (evalF_sound hmix hC hF ((e44 fuel y6 y7 y11 y12).trans z7))

def C69 (fuel : Nat) : Oracle := (C68 fuel).add 44 (fun _ => true) (O44 fuel)

/-- shipyard/shipyardref13.Where -/
def A23v1 : AC := (.seq (.block 1
  (.region 7 [mv 21 5, o1 22 (.fieldAddr 25 (tm 2) 1 1), o1 23 (.load 23 none (tm 22)), mv 24 6, o1 25 (.indexAddr 23 22 1 (tm 23) (tm 24)), o1 26 (.load 22 none (tm 25)), o1 27 (.load 34 (some 2) (tm 3)), o1 28 (.call 40 [(tm 26), (tm 27)] [22, 34] .snap), o1 29 (.unOp .neg 3 (tm 28)), o1 30 (.mm false [(tm 21), (tm 29)] [3, 3]), o1 5 (.assign (tm 30))] 0 (some [[], [], [1], [], [1, 2, 3], (rl 1 4 []), [], (rl 1 6 []), (rl 1 7 []), (rl 0 9 []), (rl 0 10 [])]))) []
  (.region 6 [mv 19 6, o1 20 (.binOp .add 3 (tm 19) (ic 1) 3), o1 6 (.assign (tm 20))] 0 none))
def A23v2 : AC := (.seq (.seq (.region 5 [mv 14 6, o1 15 (.fieldAddr 25 (tm 2) 1 1), o1 16 (.load 23 none (tm 15)), o1 17 (.len 23 false (tm 16)), o1 18 (.binOp .lss 3 (tm 14) (tm 17) 3)] 0 none) []
  (.cond (tm 18)
  .skip
  (.exit 0 (rl 0 5 (rl 6 26 []))))) (rl 14 5 [])
  A23v1)
def A23v3 : AC := (.seq (.region 8 [mv 31 5, o1 4 (.assign (tm 31))] 0 none) []
  (.ret (rl 0 4 (rl 5 27 []))))
def A23v4 : AC := (.seq (.region 3 [o1 10 (.fieldAddr 25 (tm 2) 0 0), o1 11 (.load 22 none (tm 10)), o1 12 (.load 34 (some 2) (tm 3)), o1 13 (.call 40 [(tm 11), (tm 12)] [22, 34] .snap), o1 5 (.assign (tm 13))] 0 none) []
  (.seq (.seq (.region 4 [o1 6 (.assign (ic 0))] 0 none) []
  (.block 0
  (.loop [] (0 :: 1 :: 4 :: (rl 7 25 []))
    A23v2))) (6 :: (rl 14 17 []))
  A23v3))
def A23 : AF := ⟨32, [.tmp 4],
  (.seq (.region 0 [o1 2 (.box 0 25 (tm 0)), o1 3 (.box 1 34 (tm 1)), o1 4 (.assign (ic 0))] 2 none) []
  (.seq (.seq (.region 1 [o1 7 (.load 25 (some 2) (tm 2)), o1 8 (.call 14 [(tm 7)] [25] .snap), o1 9 (.binOp .neq 27 (tm 8) (ic 0) 27)] 0 none) []
  (.cond (tm 9)
  (.seq (.region 2 [o1 4 (.assign (ic (-1)))] 0 none) []
    (.ret (rl 0 4 (rl 5 27 []))))
  .skip)) [4, 7, 8, 9]
  A23v4))⟩

def B23v1 (C : Oracle) (fuel : Nat) {ρ : Type} : St → (Ex → St → Option ρ) → Option ρ := fun st k => evalC C fuel A23v2 st k
def N23v1 : St → Option St := fun s => s.norm (0 :: 1 :: 4 :: (rl 7 25 [])) 2

def s23v0 (x17 : Int) (x18 : Int) (x19 : Nat) (x20 : Nat → Nat → CV) (x21 : Nat) (x22 : Nat → Nat → CV) (x23 : Int) (x24 : Int) : St := ⟨(.u :: .u :: .x (.ptr 0 0) :: .x (.ptr 1 0) :: .u :: .x (.c (.i .i64 x17)) :: .x (.c (.i .i64 x18)) :: (us 25 [])), [.box [(.c (.ro false (.pr (.int .i64) (.pr (.int .i64) .nil)) x19 x20)), (.c (.ro false (.pr (.sl (.pr (.int .i64) (.pr (.int .i64) .nil))) .nil) x21 x22))], .box [(.c (.i .i64 x23)), (.c (.i .i64 x24))]]⟩

def s23v1 (x26 : Int) (x19 : Nat) (x20 : Nat → Nat → CV) (x21 : Nat) (x22 : Nat → Nat → CV) (x23 : Int) (x24 : Int) : St := ⟨(us 5 (.x (.c (.i .i64 x26)) :: (us 26 []))), [.box [(.c (.ro false (.pr (.int .i64) (.pr (.int .i64) .nil)) x19 x20)), (.c (.ro false (.pr (.sl (.pr (.int .i64) (.pr (.int .i64) .nil))) .nil) x21 x22))], .box [(.c (.i .i64 x23)), (.c (.i .i64 x24))]]⟩

def L23v1 {ρ : Type} (fuel : Nat) (x19 : Nat) (x20 : Nat → Nat → CV) (x21 : Nat) (x22 : Nat → Nat → CV) (x23 : Int) (x24 : Int) : Nat → Int → Int → (Int → Option ρ) → Option ρ
  | 0, _, _, _ => none
  | m + 1, x17, x18, k0 =>
    (bif (decide (x18 < (Int.ofNat x21))) then (bif (inb x18 x21) then (ob (F40 fuel (CV.len (x22 (Int.toNat x18) 0)) (CV.el (x22 (Int.toNat x18) 0)) x23 x24) fun x25 => (L23v1 fuel x19 x20 x21 x22 x23 x24 m (if (w64 (0 - x25)) < x17 then (w64 (0 - x25)) else x17) (w64 (x18 + 1)) k0)) else none) else (k0 x17))

theorem nl23v1 {ρ σ : Type} (fuel : Nat) (x19 : Nat) (x20 : Nat → Nat → CV) (x21 : Nat) (x22 : Nat → Nat → CV) (x23 : Int) (x24 : Int) (g : ρ → Option σ) : ∀ (m : Nat) (x17 : Int) (x18 : Int) (k0 : Int → Option ρ), ob (L23v1 fuel x19 x20 x21 x22 x23 x24 m x17 x18 k0) g = L23v1 fuel x19 x20 x21 x22 x23 x24 m x17 x18 (fun x26 => ob (k0 x26) g)
  | 0, _, _, _ => rfl
  | m + 1, x17, x18, k0 => by
    simp only [L23v1, ob_bif, ob_ob, ob_none, nl23v1 fuel x19 x20 x21 x22 x23 x24 g m]

theorem r23v1 (fuel : Nat) (m : Nat) {ρ : Type} (k : Ex → St → Option ρ) (x19 : Nat) (x20 : Nat → Nat → CV) (x21 : Nat) (x22 : Nat → Nat → CV) (x23 : Int) (x24 : Int) (x17 : Int) (x18 : Int) :
    loopH (B23v1 (C69 fuel) fuel) N23v1 (m + 1) (s23v0 x17 x18 x19 x20 x21 x22 x23 x24) k =
    (bif (decide (x18 < (Int.ofNat x21))) then (bif (inb x18 x21) then (ob (F40 fuel (CV.len (x22 (Int.toNat x18) 0)) (CV.el (x22 (Int.toNat x18) 0)) x23 x24) fun x25 => (loopH (B23v1 (C69 fuel) fuel) N23v1 m (s23v0 (if (w64 (0 - x25)) < x17 then (w64 (0 - x25)) else x17) (w64 (x18 + 1)) x19 x20 x21 x22 x23 x24) k)) else none) else (k (.exit 0) (s23v1 x17 x19 x20 x21 x22 x23 x24))) := by kernel_rfl

theorem q23v1 (fuel : Nat) (x19 : Nat) (x20 : Nat → Nat → CV) (x21 : Nat) (x22 : Nat → Nat → CV) (x23 : Int) (x24 : Int) {ρ : Type} (k : Ex → St → Option ρ) : ∀ (m : Nat) (x17 : Int) (x18 : Int),
    loopH (B23v1 (C69 fuel) fuel) N23v1 m (s23v0 x17 x18 x19 x20 x21 x22 x23 x24) k = L23v1 fuel x19 x20 x21 x22 x23 x24 m x17 x18 (fun x26 => k (.exit 0) (s23v1 x26 x19 x20 x21 x22 x23 x24))
  | 0, _, _ => rfl
  | m + 1, x17, x18 => by
    rw [r23v1]
    simp only [L23v1, q23v1 fuel x19 x20 x21 x22 x23 x24 k m]

def D23 {ρ : Type} (fuel : Nat) (x1 : Nat) (x2 : Nat → Nat → CV) (x3 : Nat) (x4 : Nat → Nat → CV) (x5 : Int) (x6 : Int) (k : Int → Option ρ) : Option ρ :=
  (ob (F14 fuel x1 x2 x3 x4) fun x7 => (bif (x7 != 0) then (k (-1)) else (ob (F40 fuel x1 x2 x5 x6) fun x8 => (L23v1 fuel x1 x2 x3 x4 x5 x6 fuel x8 0
    (fun x27 => (k x27))))))

def F23 (fuel : Nat) (x1 : Nat) (x2 : Nat → Nat → CV) (x3 : Nat) (x4 : Nat → Nat → CV) (x5 : Int) (x6 : Int) : Option (Int) := D23 fuel x1 x2 x3 x4 x5 x6 some

theorem n23 {ρ σ : Type} (fuel : Nat) (x1 : Nat) (x2 : Nat → Nat → CV) (x3 : Nat) (x4 : Nat → Nat → CV) (x5 : Int) (x6 : Int) (k : (Int) → Option ρ) (g : ρ → Option σ) : ob (D23 fuel x1 x2 x3 x4 x5 x6 k) g = D23 fuel x1 x2 x3 x4 x5 x6 fun t => ob (k t) g := by
  simp only [D23, ob_bif, ob_ob, ob_none, nl23v1]

theorem f23 {ρ : Type} (fuel : Nat) (x1 : Nat) (x2 : Nat → Nat → CV) (x3 : Nat) (x4 : Nat → Nat → CV) (x5 : Int) (x6 : Int) (k : (Int) → Option ρ) : D23 fuel x1 x2 x3 x4 x5 x6 k = ob (F23 fuel x1 x2 x3 x4 x5 x6) k := by
  unfold F23
  rw [n23]
  simp only [ob_some]

def s23v2 (x1 : Nat) (x2 : Nat → Nat → CV) (x3 : Nat) (x4 : Nat → Nat → CV) (x5 : Int) (x6 : Int) (x8 : Int) : St := ⟨(.agg [(.c (.ro false (.pr (.int .i64) (.pr (.int .i64) .nil)) x1 x2)), (.c (.ro false (.pr (.sl (.pr (.int .i64) (.pr (.int .i64) .nil))) .nil) x3 x4))] :: .agg [(.c (.i .i64 x5)), (.c (.i .i64 x6))] :: .x (.ptr 0 0) :: .x (.ptr 1 0) :: .u :: .x (.c (.i .i64 x8)) :: .x (.c (.i .i64 0)) :: (us 3 [.x (.ptr 0 0), .x (.c (.ro false (.pr (.int .i64) (.pr (.int .i64) .nil)) x1 x2)), .agg [(.c (.i .i64 x5)), (.c (.i .i64 x6))], .x (.c (.i .i64 x8)), .undef, .undef, .undef, .undef, .undef, .undef, .undef, .undef, .undef, .undef, .undef, .undef, .undef, .undef, .undef, .undef, .undef, .undef])), [.box [(.c (.ro false (.pr (.int .i64) (.pr (.int .i64) .nil)) x1 x2)), (.c (.ro false (.pr (.sl (.pr (.int .i64) (.pr (.int .i64) .nil))) .nil) x3 x4))], .box [(.c (.i .i64 x5)), (.c (.i .i64 x6))]]⟩

theorem walk23 (fuel : Nat) (x1 : Nat) (x2 : Nat → Nat → CV) (x3 : Nat) (x4 : Nat → Nat → CV) (x5 : Int) (x6 : Int) :
    evalF (C69 fuel) fuel A23 [.agg [(.ro false (.pr (.int .i64) (.pr (.int .i64) .nil)) x1 x2), (.ro false (.pr (.sl (.pr (.int .i64) (.pr (.int .i64) .nil))) .nil) x3 x4)], .agg [(.i .i64 x5), (.i .i64 x6)]] =
    (ob (F14 fuel x1 x2 x3 x4) fun x7 => (bif (x7 != 0) then (some [.v (.i .i64 (-1))]) else (ob (F40 fuel x1 x2 x5 x6) fun x8 => (loopN (B23v1 (C69 fuel) fuel) N23v1 fuel (s23v2 x1 x2 x3 x4 x5 x6 x8) (kBlk 0 (kSeq (C69 fuel) fuel (6 :: (rl 14 17 [])) A23v3 (finish A23))))))) := by kernel_rfl

theorem t23v1 (fuel : Nat) {ρ : Type} (k : Ex → St → Option ρ) (x1 : Nat) (x2 : Nat → Nat → CV) (x3 : Nat) (x4 : Nat → Nat → CV) (x5 : Int) (x6 : Int) (x8 : Int) :
    loopN (B23v1 (C69 fuel) fuel) N23v1 fuel (s23v2 x1 x2 x3 x4 x5 x6 x8) k =
    L23v1 fuel x1 x2 x3 x4 x5 x6 fuel x8 0 (fun x26 => k (.exit 0) (s23v1 x26 x1 x2 x3 x4 x5 x6)) :=
  (loopN_at (st' := (s23v0 x8 0 x1 x2 x3 x4 x5 x6)) (by kernel_rfl)).trans (q23v1 fuel x1 x2 x3 x4 x5 x6 k fuel x8 0)

theorem g23v2 (fuel : Nat) (x27 : Int) (x1 : Nat) (x2 : Nat → Nat → CV) (x3 : Nat) (x4 : Nat → Nat → CV) (x5 : Int) (x6 : Int) :
    (kBlk 0 (kSeq (C69 fuel) fuel (6 :: (rl 14 17 [])) A23v3 (finish A23))) (.exit 0) (s23v1 x27 x1 x2 x3 x4 x5 x6) =
    (some [.v (.i .i64 x27)]) := by kernel_rfl

theorem e23 (fuel : Nat) (x1 : Nat) (x2 : Nat → Nat → CV) (x3 : Nat) (x4 : Nat → Nat → CV) (x5 : Int) (x6 : Int) : evalF (C69 fuel) fuel A23 [.agg [(.ro false (.pr (.int .i64) (.pr (.int .i64) .nil)) x1 x2), (.ro false (.pr (.sl (.pr (.int .i64) (.pr (.int .i64) .nil))) .nil) x3 x4)], .agg [(.i .i64 x5), (.i .i64 x6)]] = ob (F23 fuel x1 x2 x3 x4 x5 x6) fun t => some [.v (.i .i64 t)] := by
  rw [walk23, ← f23]
  simp only [D23, t23v1, g23v2]

def O23 (fuel : Nat) : Ora where
  o := fun args {ρ} K =>
    wc args fun a1 l2 =>
    wagg a1 fun l3 =>
    wc l3 fun c4 l5 =>
    wL (.pr (.int .i64) (.pr (.int .i64) .nil)) c4 fun y6 y7 =>
    wc l5 fun c9 l10 =>
    wL (.pr (.sl (.pr (.int .i64) (.pr (.int .i64) .nil))) .nil) c9 fun y11 y12 =>
    wn l10 <|
    wc l2 fun a14 l15 =>
    wagg a14 fun l16 =>
    wc l16 fun c17 l18 =>
    wI .i64 c17 fun y19 =>
    wc l18 fun c21 l22 =>
    wI .i64 c21 fun y23 =>
    wn l22 <|
    wn l15 <|
    (ob (F23 fuel y6 y7 y11 y12 y19 y23) fun t => K [.v (.i .i64 t)])
  nat := fun args {ρ} K => by
    simp only [bind_wc, bind_wn, bind_wv, bind_wagg, bind_wI, bind_wB, bind_wS, bind_wL, bind_wP, bind_wFn, bind_ob, Option.bind_some]

theorem d23 {P : Program} (fuel : Nat) (hmix : P.follows .mixedOrders = true) (hC : Sound P (C69 fuel)) (hF : FFits P 23 A23) (args res : List A) (h : (O23 fuel).o args some = some res) : Den P 23 args res := by
  obtain ⟨a1, l2, rfl, z0⟩ := inv_wc h
  obtain ⟨l3, rfl, z1⟩ := inv_wagg z0
  obtain ⟨c4, l5, rfl, z2⟩ := inv_wc z1
  obtain ⟨y6, y7, h8, z3⟩ := inv_wL z2
  obtain ⟨c9, l10, rfl, z4⟩ := inv_wc z3
  obtain ⟨y11, y12, h13, z5⟩ := inv_wL z4
  obtain ⟨hn, z6⟩ := inv_wn z5
  cases hn
  obtain ⟨a14, l15, rfl, z7⟩ := inv_wc z6
  obtain ⟨l16, rfl, z8⟩ := inv_wagg z7
  obtain ⟨c17, l18, rfl, z9⟩ := inv_wc z8
  obtain ⟨y19, h20, z10⟩ := inv_wI z9
  obtain ⟨c21, l22, rfl, z11⟩ := inv_wc z10
  obtain ⟨y23, h24, z12⟩ := inv_wI z11
  obtain ⟨hn, z13⟩ := inv_wn z12
  cases hn
  obtain ⟨hn, z14⟩ := inv_wn z13
  cases hn
  exact Den.weaken (.cons (WkA.agg (.cons h8 (.cons h13 .nil))) (.cons (WkA.agg (.cons (Wk.i h20) (.cons (Wk.i h24) .nil))) .nil)) (evalF_sound hmix hC hF ((e23 fuel y6 y7 y11 y12 y19 y23).trans z14))

def C70 (fuel : Nat) : Oracle := (C69 fuel).add 23 (fun _ => true) (O23 fuel)

/-- shipyard/shipyardref13.near -/
def A78v1 : AC := (.seq (.region 12 [mv 100 17, o1 101 (.binOp .lss 3 (tm 100) (ic 2147483648) 3), mv 102 101, og 103 (.move (tm 17)) 102 true, og 104 (.move (tm 17)) 102 true, og 105 (.binOp .mul 3 (tm 103) (tm 104) 3) 102 true, og 106 (.move (tm 3)) 102 true, og 107 (.move (tm 3)) 102 true, og 108 (.binOp .mul 3 (tm 106) (tm 107) 3) 102 true, og 109 (.move (tm 13)) 102 true, og 110 (.binOp .mul 3 (tm 108) (tm 109) 3) 102 true, og 111 (.binOp .lss 3 (tm 105) (tm 110) 3) 102 true, o1 112 (.pick (tm 102) (tm 111) (.const (.bool false))), o1 8 (.assign (tm 112))] 0 none) []
  (.ret (rl 0 8 (rl 9 104 []))))
def A78v2 : AC := (.seq (.region 9 [mv 89 9, mv 90 12, o1 91 (.binOp .mul 3 (tm 89) (tm 90) 3), mv 92 10, mv 93 11, o1 94 (.binOp .mul 3 (tm 92) (tm 93) 3), o1 95 (.binOp .sub 3 (tm 91) (tm 94) 3), o1 17 (.assign (tm 95))] 0 none) []
  (.seq (.seq (.region 10 [mv 96 17, o1 97 (.binOp .lss 3 (tm 96) (ic 0) 3)] 0 none) []
  (.cond (tm 97)
  (.region 11 [mv 98 17, o1 99 (.unOp .neg 3 (tm 98)), o1 17 (.assign (tm 99))] 0 none)
  .skip)) (rl 96 4 [])
  A78v1))
def A78v3 : AC := (.seq (.seq (.region 6 [mv 65 14, mv 66 13, o1 67 (.binOp .geq 3 (tm 65) (tm 66) 3)] 0 none) []
  (.cond (tm 67)
  (.seq (.region 7 [o1 68 (.fieldAddr 34 (tm 6) 0 0), o1 69 (.load 3 none (tm 68)), o1 70 (.fieldAddr 34 (tm 5) 0 0), o1 71 (.load 3 none (tm 70)), o1 72 (.binOp .sub 3 (tm 69) (tm 71) 3), o1 73 (.fieldAddr 34 (tm 6) 1 1), o1 74 (.load 3 none (tm 73)), o1 75 (.fieldAddr 34 (tm 5) 1 1), o1 76 (.load 3 none (tm 75)), o1 77 (.binOp .sub 3 (tm 74) (tm 76) 3), o1 15 (.assign (tm 72)), o1 16 (.assign (tm 77))] 0 (some [[], [0], [], [2], (rl 0 4 []), [], [5], [], [7], (rl 5 4 []), (rl 0 5 []), (rl 0 11 [])])) []
    (.seq (.region 8 [mv 78 15, mv 79 15, o1 80 (.binOp .mul 3 (tm 78) (tm 79) 3), mv 81 16, mv 82 16, o1 83 (.binOp .mul 3 (tm 81) (tm 82) 3), o1 84 (.binOp .add 3 (tm 80) (tm 83) 3), mv 85 3, mv 86 3, o1 87 (.binOp .mul 3 (tm 85) (tm 86) 3), o1 88 (.binOp .lss 3 (tm 84) (tm 87) 3), o1 8 (.assign (tm 88))] 0 none) []
    (.ret (rl 0 8 (rl 9 104 [])))))
  .skip)) (8 :: 15 :: 16 :: (rl 65 24 []))
  A78v2)
def A78 : AF := ⟨113, [.tmp 8],
  (.seq (.region 0 [o1 4 (.box 0 34 (tm 0)), o1 5 (.box 1 34 (tm 1)), o1 6 (.box 2 34 (tm 2)), o1 8 (.assign (.const (.bool false)))] 3 none) []
  (.seq (.region 1 [o1 18 (.fieldAddr 34 (tm 5) 0 0), o1 19 (.load 3 none (tm 18)), o1 20 (.fieldAddr 34 (tm 4) 0 0), o1 21 (.load 3 none (tm 20)), o1 22 (.binOp .sub 3 (tm 19) (tm 21) 3), o1 23 (.fieldAddr 34 (tm 5) 1 1), o1 24 (.load 3 none (tm 23)), o1 25 (.fieldAddr 34 (tm 4) 1 1), o1 26 (.load 3 none (tm 25)), o1 27 (.binOp .sub 3 (tm 24) (tm 26) 3), o1 28 (.fieldAddr 34 (tm 6) 0 0), o1 29 (.load 3 none (tm 28)), o1 30 (.fieldAddr 34 (tm 4) 0 0), o1 31 (.load 3 none (tm 30)), o1 32 (.binOp .sub 3 (tm 29) (tm 31) 3), o1 33 (.fieldAddr 34 (tm 6) 1 1), o1 34 (.load 3 none (tm 33)), o1 35 (.fieldAddr 34 (tm 4) 1 1), o1 36 (.load 3 none (tm 35)), o1 37 (.binOp .sub 3 (tm 34) (tm 36) 3), o1 9 (.assign (tm 22)), o1 10 (.assign (tm 27)), o1 11 (.assign (tm 32)), o1 12 (.assign (tm 37))] 0 (some [[], [0], [], [2], (rl 0 4 []), [], [5], [], [7], (rl 5 4 []), [], [10], [], [12], (rl 10 4 []), [], [15], [], [17], (rl 15 4 []), (rl 0 5 []), (rl 0 10 [20]), (rl 0 15 [20, 21]), (rl 0 23 [])])) []
  (.seq (.region 2 [mv 38 9, mv 39 9, o1 40 (.binOp .mul 3 (tm 38) (tm 39) 3), mv 41 10, mv 42 10, o1 43 (.binOp .mul 3 (tm 41) (tm 42) 3), o1 44 (.binOp .add 3 (tm 40) (tm 43) 3), o1 13 (.assign (tm 44))] 0 none) []
  (.seq (.region 3 [mv 45 9, mv 46 11, o1 47 (.binOp .mul 3 (tm 45) (tm 46) 3), mv 48 10, mv 49 12, o1 50 (.binOp .mul 3 (tm 48) (tm 49) 3), o1 51 (.binOp .add 3 (tm 47) (tm 50) 3), o1 14 (.assign (tm 51))] 0 none) []
  (.seq (.seq (.region 4 [mv 52 14, o1 53 (.binOp .leq 3 (tm 52) (ic 0) 3)] 0 none) []
  (.cond (tm 53)
  (.seq (.region 5 [mv 54 11, mv 55 11, o1 56 (.binOp .mul 3 (tm 54) (tm 55) 3), mv 57 12, mv 58 12, o1 59 (.binOp .mul 3 (tm 57) (tm 58) 3), o1 60 (.binOp .add 3 (tm 56) (tm 59) 3), mv 61 3, mv 62 3, o1 63 (.binOp .mul 3 (tm 61) (tm 62) 3), o1 64 (.binOp .lss 3 (tm 60) (tm 63) 3), o1 8 (.assign (tm 64))] 0 none) []
    (.ret (rl 0 8 (rl 9 104 []))))
  .skip)) (8 :: (rl 52 13 []))
  A78v3)))))⟩

def D78 {ρ : Type} (fuel : Nat) (x1 : Int) (x2 : Int) (x3 : Int) (x4 : Int) (x5 : Int) (x6 : Int) (x7 : Int) (k : Bool → Option ρ) : Option ρ :=
  (bif (decide ((w64 ((w64 ((w64 (x3 - x1)) * (w64 (x5 - x1)))) + (w64 ((w64 (x4 - x2)) * (w64 (x6 - x2)))))) ≤ 0)) then (k (decide ((w64 ((w64 ((w64 (x5 - x1)) * (w64 (x5 - x1)))) + (w64 ((w64 (x6 - x2)) * (w64 (x6 - x2)))))) < (w64 (x7 * x7))))) else (bif (decide ((w64 ((w64 ((w64 (x3 - x1)) * (w64 (x5 - x1)))) + (w64 ((w64 (x4 - x2)) * (w64 (x6 - x2)))))) ≥ (w64 ((w64 ((w64 (x3 - x1)) * (w64 (x3 - x1)))) + (w64 ((w64 (x4 - x2)) * (w64 (x4 - x2)))))))) then (k (decide ((w64 ((w64 ((w64 (x5 - x3)) * (w64 (x5 - x3)))) + (w64 ((w64 (x6 - x4)) * (w64 (x6 - x4)))))) < (w64 (x7 * x7))))) else (bif (decide ((w64 ((w64 ((w64 (x3 - x1)) * (w64 (x6 - x2)))) - (w64 ((w64 (x4 - x2)) * (w64 (x5 - x1)))))) < 0)) then (bif ((decide ((w64 (0 - (w64 ((w64 ((w64 (x3 - x1)) * (w64 (x6 - x2)))) - (w64 ((w64 (x4 - x2)) * (w64 (x5 - x1)))))))) < 2147483648)) == true) then (k (decide ((w64 ((w64 (0 - (w64 ((w64 ((w64 (x3 - x1)) * (w64 (x6 - x2)))) - (w64 ((w64 (x4 - x2)) * (w64 (x5 - x1)))))))) * (w64 (0 - (w64 ((w64 ((w64 (x3 - x1)) * (w64 (x6 - x2)))) - (w64 ((w64 (x4 - x2)) * (w64 (x5 - x1)))))))))) < (w64 ((w64 (x7 * x7)) * (w64 ((w64 ((w64 (x3 - x1)) * (w64 (x3 - x1)))) + (w64 ((w64 (x4 - x2)) * (w64 (x4 - x2))))))))))) else (k false)) else (bif ((decide ((w64 ((w64 ((w64 (x3 - x1)) * (w64 (x6 - x2)))) - (w64 ((w64 (x4 - x2)) * (w64 (x5 - x1)))))) < 2147483648)) == true) then (k (decide ((w64 ((w64 ((w64 ((w64 (x3 - x1)) * (w64 (x6 - x2)))) - (w64 ((w64 (x4 - x2)) * (w64 (x5 - x1)))))) * (w64 ((w64 ((w64 (x3 - x1)) * (w64 (x6 - x2)))) - (w64 ((w64 (x4 - x2)) * (w64 (x5 - x1)))))))) < (w64 ((w64 (x7 * x7)) * (w64 ((w64 ((w64 (x3 - x1)) * (w64 (x3 - x1)))) + (w64 ((w64 (x4 - x2)) * (w64 (x4 - x2))))))))))) else (k false)))))

def F78 (fuel : Nat) (x1 : Int) (x2 : Int) (x3 : Int) (x4 : Int) (x5 : Int) (x6 : Int) (x7 : Int) : Option (Bool) := D78 fuel x1 x2 x3 x4 x5 x6 x7 some

theorem n78 {ρ σ : Type} (fuel : Nat) (x1 : Int) (x2 : Int) (x3 : Int) (x4 : Int) (x5 : Int) (x6 : Int) (x7 : Int) (k : (Bool) → Option ρ) (g : ρ → Option σ) : ob (D78 fuel x1 x2 x3 x4 x5 x6 x7 k) g = D78 fuel x1 x2 x3 x4 x5 x6 x7 fun t => ob (k t) g := by
  simp only [D78, ob_bif, ob_ob, ob_none]

theorem f78 {ρ : Type} (fuel : Nat) (x1 : Int) (x2 : Int) (x3 : Int) (x4 : Int) (x5 : Int) (x6 : Int) (x7 : Int) (k : (Bool) → Option ρ) : D78 fuel x1 x2 x3 x4 x5 x6 x7 k = ob (F78 fuel x1 x2 x3 x4 x5 x6 x7) k := by
  unfold F78
  rw [n78]
  simp only [ob_some]

theorem walk78 (fuel : Nat) (x1 : Int) (x2 : Int) (x3 : Int) (x4 : Int) (x5 : Int) (x6 : Int) (x7 : Int) :
    evalF (C70 fuel) fuel A78 [.agg [(.i .i64 x1), (.i .i64 x2)], .agg [(.i .i64 x3), (.i .i64 x4)], .agg [(.i .i64 x5), (.i .i64 x6)], .v (.i .i64 x7)] =
    (bif (decide ((w64 ((w64 ((w64 (x3 - x1)) * (w64 (x5 - x1)))) + (w64 ((w64 (x4 - x2)) * (w64 (x6 - x2)))))) ≤ 0)) then (some [.v (.b (decide ((w64 ((w64 ((w64 (x5 - x1)) * (w64 (x5 - x1)))) + (w64 ((w64 (x6 - x2)) * (w64 (x6 - x2)))))) < (w64 (x7 * x7)))))]) else (bif (decide ((w64 ((w64 ((w64 (x3 - x1)) * (w64 (x5 - x1)))) + (w64 ((w64 (x4 - x2)) * (w64 (x6 - x2)))))) ≥ (w64 ((w64 ((w64 (x3 - x1)) * (w64 (x3 - x1)))) + (w64 ((w64 (x4 - x2)) * (w64 (x4 - x2)))))))) then (some [.v (.b (decide ((w64 ((w64 ((w64 (x5 - x3)) * (w64 (x5 - x3)))) + (w64 ((w64 (x6 - x4)) * (w64 (x6 - x4)))))) < (w64 (x7 * x7)))))]) else (bif (decide ((w64 ((w64 ((w64 (x3 - x1)) * (w64 (x6 - x2)))) - (w64 ((w64 (x4 - x2)) * (w64 (x5 - x1)))))) < 0)) then (bif ((decide ((w64 (0 - (w64 ((w64 ((w64 (x3 - x1)) * (w64 (x6 - x2)))) - (w64 ((w64 (x4 - x2)) * (w64 (x5 - x1)))))))) < 2147483648)) == true) then (some [.v (.b (decide ((w64 ((w64 (0 - (w64 ((w64 ((w64 (x3 - x1)) * (w64 (x6 - x2)))) - (w64 ((w64 (x4 - x2)) * (w64 (x5 - x1)))))))) * (w64 (0 - (w64 ((w64 ((w64 (x3 - x1)) * (w64 (x6 - x2)))) - (w64 ((w64 (x4 - x2)) * (w64 (x5 - x1)))))))))) < (w64 ((w64 (x7 * x7)) * (w64 ((w64 ((w64 (x3 - x1)) * (w64 (x3 - x1)))) + (w64 ((w64 (x4 - x2)) * (w64 (x4 - x2)))))))))))]) else (some [.v (.b false)])) else (bif ((decide ((w64 ((w64 ((w64 (x3 - x1)) * (w64 (x6 - x2)))) - (w64 ((w64 (x4 - x2)) * (w64 (x5 - x1)))))) < 2147483648)) == true) then (some [.v (.b (decide ((w64 ((w64 ((w64 ((w64 (x3 - x1)) * (w64 (x6 - x2)))) - (w64 ((w64 (x4 - x2)) * (w64 (x5 - x1)))))) * (w64 ((w64 ((w64 (x3 - x1)) * (w64 (x6 - x2)))) - (w64 ((w64 (x4 - x2)) * (w64 (x5 - x1)))))))) < (w64 ((w64 (x7 * x7)) * (w64 ((w64 ((w64 (x3 - x1)) * (w64 (x3 - x1)))) + (w64 ((w64 (x4 - x2)) * (w64 (x4 - x2)))))))))))]) else (some [.v (.b false)]))))) := by kernel_rfl

theorem e78 (fuel : Nat) (x1 : Int) (x2 : Int) (x3 : Int) (x4 : Int) (x5 : Int) (x6 : Int) (x7 : Int) : evalF (C70 fuel) fuel A78 [.agg [(.i .i64 x1), (.i .i64 x2)], .agg [(.i .i64 x3), (.i .i64 x4)], .agg [(.i .i64 x5), (.i .i64 x6)], .v (.i .i64 x7)] = ob (F78 fuel x1 x2 x3 x4 x5 x6 x7) fun t => some [.v (.b t)] := by
  rw [walk78, ← f78]
  simp only [D78]

def O78 (fuel : Nat) : Ora where
  o := fun args {ρ} K =>
    wc args fun a1 l2 =>
    wagg a1 fun l3 =>
    wc l3 fun c4 l5 =>
    wI .i64 c4 fun y6 =>
    wc l5 fun c8 l9 =>
    wI .i64 c8 fun y10 =>
    wn l9 <|
    wc l2 fun a12 l13 =>
    wagg a12 fun l14 =>
    wc l14 fun c15 l16 =>
    wI .i64 c15 fun y17 =>
    wc l16 fun c19 l20 =>
    wI .i64 c19 fun y21 =>
    wn l20 <|
    wc l13 fun a23 l24 =>
    wagg a23 fun l25 =>
    wc l25 fun c26 l27 =>
    wI .i64 c26 fun y28 =>
    wc l27 fun c30 l31 =>
    wI .i64 c30 fun y32 =>
    wn l31 <|
    wc l24 fun a34 l35 =>
    wv a34 fun c36 =>
    wI .i64 c36 fun y37 =>
    wn l35 <|
    (ob (F78 fuel y6 y10 y17 y21 y28 y32 y37) fun t => K [.v (.b t)])
  nat := fun args {ρ} K => by
    simp only [bind_wc, bind_wn, bind_wv, bind_wagg, bind_wI, bind_wB, bind_wS, bind_wL, bind_wP, bind_wFn, bind_ob, Option.bind_some]

theorem d78 {P : Program} (fuel : Nat) (hmix : P.follows .mixedOrders = true) (hC : Sound P (C70 fuel)) (hF : FFits P 78 A78) (args res : List A) (h : (O78 fuel).o args some = some res) : Den P 78 args res := by
  obtain ⟨a1, l2, rfl, z0⟩ := inv_wc h
  obtain ⟨l3, rfl, z1⟩ := inv_wagg z0
  obtain ⟨c4, l5, rfl, z2⟩ := inv_wc z1
  obtain ⟨y6, h7, z3⟩ := inv_wI z2
  obtain ⟨c8, l9, rfl, z4⟩ := inv_wc z3
  obtain ⟨y10, h11, z5⟩ := inv_wI z4
  obtain ⟨hn, z6⟩ := inv_wn z5
  cases hn
  obtain ⟨a12, l13, rfl, z7⟩ := inv_wc z6
  obtain ⟨l14, rfl, z8⟩ := inv_wagg z7
  obtain ⟨c15, l16, rfl, z9⟩ := inv_wc z8
  obtain ⟨y17, h18, z10⟩ := inv_wI z9
  obtain ⟨c19, l20, rfl, z11⟩ := inv_wc z10
  obtain ⟨y21, h22, z12⟩ := inv_wI z11
  obtain ⟨hn, z13⟩ := inv_wn z12
  cases hn
  obtain ⟨a23, l24, rfl, z14⟩ := inv_wc z13
  obtain ⟨l25, rfl, z15⟩ := inv_wagg z14
  obtain ⟨c26, l27, rfl, z16⟩ := inv_wc z15
  obtain ⟨y28, h29, z17⟩ := inv_wI z16
  obtain ⟨c30, l31, rfl, z18⟩ := inv_wc z17
  obtain ⟨y32, h33, z19⟩ := inv_wI z18
  obtain ⟨hn, z20⟩ := inv_wn z19
  cases hn
  obtain ⟨a34, l35, rfl, z21⟩ := inv_wc z20
  obtain ⟨c36, rfl, z22⟩ := inv_wv z21
  obtain ⟨y37, h38, z23⟩ := inv_wI z22
  obtain ⟨hn, z24⟩ := inv_wn z23
  cases hn
  exact Den.weaken (.cons (WkA.agg (.cons (Wk.i h7) (.cons (Wk.i h11) .nil))) (.cons (WkA.agg (.cons (Wk.i h18) (.cons (Wk.i h22) .nil))) (.cons (WkA.agg (.cons (Wk.i h29) (.cons (Wk.i h33) .nil))) (.cons (WkA.v (Wk.i h38)) .nil)))) (evalF_sound hmix hC hF ((e78 fuel y6 y10 y17 y21 y28 y32 y37).trans z24))

def C71 (fuel : Nat) : Oracle := (C70 fuel).add 78 (fun _ => true) (O78 fuel)

/-- shipyard/shipyardref13.close -/
def A59v1 : AC := (.region 6 [mv 19 8, o1 20 (.binOp .add 3 (tm 19) (ic 1) 3), o1 8 (.assign (tm 20))] 0 none)
def A59v2 : AC := (.seq (.block 3
  (.seq (.region 7 [mv 21 1, mv 22 8, o1 23 (.indexAddr 22 34 2 (tm 21) (tm 22)), o1 24 (.load 34 (some 2) (tm 23)), mv 25 1, mv 26 8, o1 27 (.binOp .add 3 (tm 26) (ic 1) 3), mv 28 1, o1 29 (.len 22 false (tm 28)), o1 30 (.binOp .rem 3 (tm 27) (tm 29) 3), o1 31 (.indexAddr 22 34 2 (tm 25) (tm 30)), o1 32 (.load 34 (some 2) (tm 31)), mv 33 0, mv 34 7, o1 35 (.indexAddr 22 34 2 (tm 33) (tm 34)), o1 36 (.load 34 (some 2) (tm 35)), mv 37 2, o1 38 (.call 78 [(tm 24), (tm 32), (tm 36), (tm 37)] [34, 34, 34, 3] .snap)] 0 (some [[], [], [0, 1], [0, 1, 2], [], [], [5], [], [7], (rl 5 4 []), (rl 4 6 []), (rl 4 7 []), [], [], [12, 13], [12, 13, 14], [], (rl 0 17 [])])) []
    (.cond (tm 38)
    (.seq (.region 8 [o1 6 (.assign (.const (.bool true)))] 0 none) []
      (.ret (rl 0 6 (rl 7 32 []))))
    .skip))) (6 :: (rl 21 18 []))
  A59v1)
def A59v3 : AC := (.seq (.seq (.region 5 [mv 15 8, mv 16 1, o1 17 (.len 22 false (tm 16)), o1 18 (.binOp .lss 3 (tm 15) (tm 17) 3)] 0 none) []
  (.cond (tm 18)
  .skip
  (.exit 2 (rl 3 4 (rl 8 31 []))))) (rl 15 4 [])
  A59v2)
def A59v4 : AC := (.region 3 [mv 13 7, o1 14 (.binOp .add 3 (tm 13) (ic 1) 3), o1 7 (.assign (tm 14))] 0 none)
def A59v5 : AC := (.seq (.block 1
  (.seq (.region 4 [o1 8 (.assign (ic 0))] 0 none) []
    (.block 2
    (.loop [] (rl 3 4 (rl 9 30 []))
      A59v3)))) (6 :: 8 :: (rl 15 24 []))
  A59v4)
def A59v6 : AC := (.seq (.seq (.region 2 [mv 9 7, mv 10 0, o1 11 (.len 22 false (tm 10)), o1 12 (.binOp .lss 3 (tm 9) (tm 11) 3)] 0 none) []
  (.cond (tm 12)
  .skip
  (.exit 0 (rl 0 39 [])))) (rl 9 4 [])
  A59v5)
def A59v7 : AC := (.seq (.region 9 [o1 6 (.assign (.const (.bool false)))] 0 none) []
  (.ret (rl 0 6 (rl 7 32 []))))
def A59 : AF := ⟨39, [.tmp 6],
  (.seq (.region 0 [o1 6 (.assign (.const (.bool false)))] 0 none) []
  (.seq (.seq (.region 1 [o1 7 (.assign (ic 0))] 0 none) []
  (.block 0
  (.loop [] (rl 3 4 (rl 8 31 []))
    A59v6))) (rl 6 33 [])
  A59v7))⟩

def B59v2 (C : Oracle) (fuel : Nat) {ρ : Type} : St → (Ex → St → Option ρ) → Option ρ := fun st k => evalC C fuel A59v3 st k
def N59v2 : St → Option St := fun s => s.norm (rl 3 4 (rl 9 30 [])) 0

def s59v0 (x37 : Nat) (x38 : Nat → Nat → CV) (x39 : Nat) (x40 : Nat → Nat → CV) (x41 : Int) (x42 : Int) (x43 : Int) : St := ⟨(.x (.c (.ro false (.pr (.int .i64) (.pr (.int .i64) .nil)) x37 x38)) :: .x (.c (.ro false (.pr (.int .i64) (.pr (.int .i64) .nil)) x39 x40)) :: .x (.c (.i .i64 x41)) :: (us 4 (.x (.c (.i .i64 x42)) :: .x (.c (.i .i64 x43)) :: (us 30 [])))), []⟩

def s59v1 : St := ⟨(us 6 (.x (.c (.b true)) :: (us 32 []))), []⟩

def s59v2 (x37 : Nat) (x38 : Nat → Nat → CV) (x39 : Nat) (x40 : Nat → Nat → CV) (x41 : Int) (x42 : Int) : St := ⟨(.x (.c (.ro false (.pr (.int .i64) (.pr (.int .i64) .nil)) x37 x38)) :: .x (.c (.ro false (.pr (.int .i64) (.pr (.int .i64) .nil)) x39 x40)) :: .x (.c (.i .i64 x41)) :: (us 4 (.x (.c (.i .i64 x42)) :: (us 31 [])))), []⟩

def L59v2 {ρ : Type} (fuel : Nat) (x37 : Nat) (x38 : Nat → Nat → CV) (x39 : Nat) (x40 : Nat → Nat → CV) (x41 : Int) (x42 : Int) : Nat → Int → (Option ρ) → (Option ρ) → Option ρ
  | 0, _, _, _ => none
  | m + 1, x43, k0, k1 =>
    (bif (decide (x43 < (Int.ofNat x39))) then (bif (inb x43 x39) then (bif ((Int.ofNat x39) == 0) then none else (bif (inb (Int.tmod (w64 (x43 + 1)) (Int.ofNat x39)) x39) then (bif (inb x42 x37) then (ob (F78 fuel (CV.int (x40 (Int.toNat x43) 0)) (CV.int (x40 (Int.toNat x43) 1)) (CV.int (x40 (Int.toNat (Int.tmod (w64 (x43 + 1)) (Int.ofNat x39))) 0)) (CV.int (x40 (Int.toNat (Int.tmod (w64 (x43 + 1)) (Int.ofNat x39))) 1)) (CV.int (x38 (Int.toNat x42) 0)) (CV.int (x38 (Int.toNat x42) 1)) x41) fun x44 => (bif x44 then k0 else (L59v2 fuel x37 x38 x39 x40 x41 x42 m (w64 (x43 + 1)) k0 k1))) else none) else none)) else none) else k1)

theorem nl59v2 {ρ σ : Type} (fuel : Nat) (x37 : Nat) (x38 : Nat → Nat → CV) (x39 : Nat) (x40 : Nat → Nat → CV) (x41 : Int) (x42 : Int) (g : ρ → Option σ) : ∀ (m : Nat) (x43 : Int) (k0 : Option ρ) (k1 : Option ρ), ob (L59v2 fuel x37 x38 x39 x40 x41 x42 m x43 k0 k1) g = L59v2 fuel x37 x38 x39 x40 x41 x42 m x43 (ob k0 g) (ob k1 g)
  | 0, _, _, _ => rfl
  | m + 1, x43, k0, k1 => by
    simp only [L59v2, ob_bif, ob_ob, ob_none, nl59v2 fuel x37 x38 x39 x40 x41 x42 g m]

theorem r59v2 (fuel : Nat) (m : Nat) {ρ : Type} (k : Ex → St → Option ρ) (x37 : Nat) (x38 : Nat → Nat → CV) (x39 : Nat) (x40 : Nat → Nat → CV) (x41 : Int) (x42 : Int) (x43 : Int) :
    loopH (B59v2 (C71 fuel) fuel) N59v2 (m + 1) (s59v0 x37 x38 x39 x40 x41 x42 x43) k =
    (bif (decide (x43 < (Int.ofNat x39))) then (bif (inb x43 x39) then (bif ((Int.ofNat x39) == 0) then none else (bif (inb (Int.tmod (w64 (x43 + 1)) (Int.ofNat x39)) x39) then (bif (inb x42 x37) then (ob (F78 fuel (CV.int (x40 (Int.toNat x43) 0)) (CV.int (x40 (Int.toNat x43) 1)) (CV.int (x40 (Int.toNat (Int.tmod (w64 (x43 + 1)) (Int.ofNat x39))) 0)) (CV.int (x40 (Int.toNat (Int.tmod (w64 (x43 + 1)) (Int.ofNat x39))) 1)) (CV.int (x38 (Int.toNat x42) 0)) (CV.int (x38 (Int.toNat x42) 1)) x41) fun x44 => (bif x44 then (k .ret s59v1) else (loopH (B59v2 (C71 fuel) fuel) N59v2 m (s59v0 x37 x38 x39 x40 x41 x42 (w64 (x43 + 1))) k))) else none) else none)) else none) else (k (.exit 2) (s59v2 x37 x38 x39 x40 x41 x42))) := by kernel_rfl

theorem q59v2 (fuel : Nat) (x37 : Nat) (x38 : Nat → Nat → CV) (x39 : Nat) (x40 : Nat → Nat → CV) (x41 : Int) (x42 : Int) {ρ : Type} (k : Ex → St → Option ρ) : ∀ (m : Nat) (x43 : Int),
    loopH (B59v2 (C71 fuel) fuel) N59v2 m (s59v0 x37 x38 x39 x40 x41 x42 x43) k = L59v2 fuel x37 x38 x39 x40 x41 x42 m x43 (k .ret s59v1) (k (.exit 2) (s59v2 x37 x38 x39 x40 x41 x42))
  | 0, _ => rfl
  | m + 1, x43 => by
    rw [r59v2]
    simp only [L59v2, q59v2 fuel x37 x38 x39 x40 x41 x42 k m]

def B59v3 (C : Oracle) (fuel : Nat) {ρ : Type} : St → (Ex → St → Option ρ) → Option ρ := fun st k => evalC C fuel A59v6 st k
def N59v3 : St → Option St := fun s => s.norm (rl 3 4 (rl 8 31 [])) 0

def s59v3 (x24 : Nat) (x25 : Nat → Nat → CV) (x26 : Nat) (x27 : Nat → Nat → CV) (x28 : Int) (x29 : Int) : St := ⟨(.x (.c (.ro false (.pr (.int .i64) (.pr (.int .i64) .nil)) x24 x25)) :: .x (.c (.ro false (.pr (.int .i64) (.pr (.int .i64) .nil)) x26 x27)) :: .x (.c (.i .i64 x28)) :: (us 4 (.x (.c (.i .i64 x29)) :: (us 31 [])))), []⟩

def s59v4 : St := ⟨(us 39 []), []⟩

def L59v3 {ρ : Type} (fuel : Nat) (x24 : Nat) (x25 : Nat → Nat → CV) (x26 : Nat) (x27 : Nat → Nat → CV) (x28 : Int) : Nat → Int → (Option ρ) → (Option ρ) → Option ρ
  | 0, _, _, _ => none
  | m + 1, x29, k0, k1 =>
    (bif (decide (x29 < (Int.ofNat x24))) then (L59v2 fuel x24 x25 x26 x27 x28 x29 fuel 0
    k0
    (L59v3 fuel x24 x25 x26 x27 x28 m (w64 (x29 + 1)) k0 k1)) else k1)

theorem nl59v3 {ρ σ : Type} (fuel : Nat) (x24 : Nat) (x25 : Nat → Nat → CV) (x26 : Nat) (x27 : Nat → Nat → CV) (x28 : Int) (g : ρ → Option σ) : ∀ (m : Nat) (x29 : Int) (k0 : Option ρ) (k1 : Option ρ), ob (L59v3 fuel x24 x25 x26 x27 x28 m x29 k0 k1) g = L59v3 fuel x24 x25 x26 x27 x28 m x29 (ob k0 g) (ob k1 g)
  | 0, _, _, _ => rfl
  | m + 1, x29, k0, k1 => by
    simp only [L59v3, ob_bif, ob_ob, ob_none, nl59v3 fuel x24 x25 x26 x27 x28 g m, nl59v2]

def s59v5 (x24 : Nat) (x25 : Nat → Nat → CV) (x26 : Nat) (x27 : Nat → Nat → CV) (x28 : Int) (x29 : Int) : St := ⟨(.x (.c (.ro false (.pr (.int .i64) (.pr (.int .i64) .nil)) x24 x25)) :: .x (.c (.ro false (.pr (.int .i64) (.pr (.int .i64) .nil)) x26 x27)) :: .x (.c (.i .i64 x28)) :: (us 4 (.x (.c (.i .i64 x29)) :: .x (.c (.i .i64 0)) :: (us 30 [])))), []⟩

theorem r59v3 (fuel : Nat) (m : Nat) {ρ : Type} (k : Ex → St → Option ρ) (x24 : Nat) (x25 : Nat → Nat → CV) (x26 : Nat) (x27 : Nat → Nat → CV) (x28 : Int) (x29 : Int) :
    loopH (B59v3 (C71 fuel) fuel) N59v3 (m + 1) (s59v3 x24 x25 x26 x27 x28 x29) k =
    (bif (decide (x29 < (Int.ofNat x24))) then (loopN (B59v2 (C71 fuel) fuel) N59v2 fuel (s59v5 x24 x25 x26 x27 x28 x29) (kBlk 2 (kBlk 1 (kSeq (C71 fuel) fuel (6 :: 8 :: (rl 15 24 [])) A59v4 (kLoop (B59v3 (C71 fuel) fuel) N59v3 m k))))) else (k (.exit 0) s59v4)) := by kernel_rfl

theorem t59v1 (fuel : Nat) {ρ : Type} (k : Ex → St → Option ρ) (x24 : Nat) (x25 : Nat → Nat → CV) (x26 : Nat) (x27 : Nat → Nat → CV) (x28 : Int) (x29 : Int) :
    loopN (B59v2 (C71 fuel) fuel) N59v2 fuel (s59v5 x24 x25 x26 x27 x28 x29) k =
    L59v2 fuel x24 x25 x26 x27 x28 x29 fuel 0 (k .ret s59v1) (k (.exit 2) (s59v2 x24 x25 x26 x27 x28 x29)) :=
  (loopN_at (st' := (s59v0 x24 x25 x26 x27 x28 x29 0)) (by kernel_rfl)).trans (q59v2 fuel x24 x25 x26 x27 x28 x29 k fuel 0)

theorem g59v2 (fuel : Nat) (m : Nat) {ρ : Type} (k : Ex → St → Option ρ) :
    (kBlk 2 (kBlk 1 (kSeq (C71 fuel) fuel (6 :: 8 :: (rl 15 24 [])) A59v4 (kLoop (B59v3 (C71 fuel) fuel) N59v3 m k)))) .ret s59v1 =
    (k .ret s59v1) := by kernel_rfl

theorem g59v3 (fuel : Nat) (m : Nat) {ρ : Type} (k : Ex → St → Option ρ) (x24 : Nat) (x25 : Nat → Nat → CV) (x26 : Nat) (x27 : Nat → Nat → CV) (x28 : Int) (x29 : Int) :
    (kBlk 2 (kBlk 1 (kSeq (C71 fuel) fuel (6 :: 8 :: (rl 15 24 [])) A59v4 (kLoop (B59v3 (C71 fuel) fuel) N59v3 m k)))) (.exit 2) (s59v2 x24 x25 x26 x27 x28 x29) =
    (loopH (B59v3 (C71 fuel) fuel) N59v3 m (s59v3 x24 x25 x26 x27 x28 (w64 (x29 + 1))) k) := by kernel_rfl

theorem q59v3 (fuel : Nat) (x24 : Nat) (x25 : Nat → Nat → CV) (x26 : Nat) (x27 : Nat → Nat → CV) (x28 : Int) {ρ : Type} (k : Ex → St → Option ρ) : ∀ (m : Nat) (x29 : Int),
    loopH (B59v3 (C71 fuel) fuel) N59v3 m (s59v3 x24 x25 x26 x27 x28 x29) k = L59v3 fuel x24 x25 x26 x27 x28 m x29 (k .ret s59v1) (k (.exit 0) s59v4)
  | 0, _ => rfl
  | m + 1, x29 => by
    rw [r59v3]
    simp only [L59v3, q59v3 fuel x24 x25 x26 x27 x28 k m, t59v1, g59v2, g59v3]

def D59 {ρ : Type} (fuel : Nat) (x1 : Nat) (x2 : Nat → Nat → CV) (x3 : Nat) (x4 : Nat → Nat → CV) (x5 : Int) (k : Bool → Option ρ) : Option ρ :=
  (L59v3 fuel x1 x2 x3 x4 x5 fuel 0
    (k true)
    (k false))

def F59 (fuel : Nat) (x1 : Nat) (x2 : Nat → Nat → CV) (x3 : Nat) (x4 : Nat → Nat → CV) (x5 : Int) : Option (Bool) := D59 fuel x1 x2 x3 x4 x5 some

theorem n59 {ρ σ : Type} (fuel : Nat) (x1 : Nat) (x2 : Nat → Nat → CV) (x3 : Nat) (x4 : Nat → Nat → CV) (x5 : Int) (k : (Bool) → Option ρ) (g : ρ → Option σ) : ob (D59 fuel x1 x2 x3 x4 x5 k) g = D59 fuel x1 x2 x3 x4 x5 fun t => ob (k t) g := by
  simp only [D59, ob_bif, ob_ob, ob_none, nl59v3]

theorem f59 {ρ : Type} (fuel : Nat) (x1 : Nat) (x2 : Nat → Nat → CV) (x3 : Nat) (x4 : Nat → Nat → CV) (x5 : Int) (k : (Bool) → Option ρ) : D59 fuel x1 x2 x3 x4 x5 k = ob (F59 fuel x1 x2 x3 x4 x5) k := by
  unfold F59
  rw [n59]
  simp only [ob_some]

def s59v6 (x1 : Nat) (x2 : Nat → Nat → CV) (x3 : Nat) (x4 : Nat → Nat → CV) (x5 : Int) : St := ⟨[.x (.c (.ro false (.pr (.int .i64) (.pr (.int .i64) .nil)) x1 x2)), .x (.c (.ro false (.pr (.int .i64) (.pr (.int .i64) .nil)) x3 x4)), .x (.c (.i .i64 x5)), .undef, .undef, .undef, .x (.c (.b false)), .x (.c (.i .i64 0)), .undef, .undef, .undef, .undef, .undef, .undef, .undef, .undef, .undef, .undef, .undef, .undef, .undef, .undef, .undef, .undef, .undef, .undef, .undef, .undef, .undef, .undef, .undef, .undef, .undef, .undef, .undef, .undef, .undef, .undef, .undef], []⟩

theorem walk59 (fuel : Nat) (x1 : Nat) (x2 : Nat → Nat → CV) (x3 : Nat) (x4 : Nat → Nat → CV) (x5 : Int) :
    evalF (C71 fuel) fuel A59 [.v (.ro false (.pr (.int .i64) (.pr (.int .i64) .nil)) x1 x2), .v (.ro false (.pr (.int .i64) (.pr (.int .i64) .nil)) x3 x4), .v (.i .i64 x5)] =
    (loopN (B59v3 (C71 fuel) fuel) N59v3 fuel (s59v6 x1 x2 x3 x4 x5) (kBlk 0 (kSeq (C71 fuel) fuel (rl 6 33 []) A59v7 (finish A59)))) := by kernel_rfl

theorem t59v4 (fuel : Nat) {ρ : Type} (k : Ex → St → Option ρ) (x1 : Nat) (x2 : Nat → Nat → CV) (x3 : Nat) (x4 : Nat → Nat → CV) (x5 : Int) :
    loopN (B59v3 (C71 fuel) fuel) N59v3 fuel (s59v6 x1 x2 x3 x4 x5) k =
    L59v3 fuel x1 x2 x3 x4 x5 fuel 0 (k .ret s59v1) (k (.exit 0) s59v4) :=
  (loopN_at (st' := (s59v3 x1 x2 x3 x4 x5 0)) (by kernel_rfl)).trans (q59v3 fuel x1 x2 x3 x4 x5 k fuel 0)

theorem g59v5 (fuel : Nat) :
    (kBlk 0 (kSeq (C71 fuel) fuel (rl 6 33 []) A59v7 (finish A59))) .ret s59v1 =
    (some [.v (.b true)]) := by kernel_rfl

theorem g59v6 (fuel : Nat) :
    (kBlk 0 (kSeq (C71 fuel) fuel (rl 6 33 []) A59v7 (finish A59))) (.exit 0) s59v4 =
    (some [.v (.b false)]) := by kernel_rfl

theorem e59 (fuel : Nat) (x1 : Nat) (x2 : Nat → Nat → CV) (x3 : Nat) (x4 : Nat → Nat → CV) (x5 : Int) : evalF (C71 fuel) fuel A59 [.v (.ro false (.pr (.int .i64) (.pr (.int .i64) .nil)) x1 x2), .v (.ro false (.pr (.int .i64) (.pr (.int .i64) .nil)) x3 x4), .v (.i .i64 x5)] = ob (F59 fuel x1 x2 x3 x4 x5) fun t => some [.v (.b t)] := by
  rw [walk59, ← f59]
  simp only [D59, t59v4, g59v5, g59v6]

def O59 (fuel : Nat) : Ora where
  o := fun args {ρ} K =>
    wc args fun a1 l2 =>
    wv a1 fun c3 =>
    wL (.pr (.int .i64) (.pr (.int .i64) .nil)) c3 fun y4 y5 =>
    wc l2 fun a7 l8 =>
    wv a7 fun c9 =>
    wL (.pr (.int .i64) (.pr (.int .i64) .nil)) c9 fun y10 y11 =>
    wc l8 fun a13 l14 =>
    wv a13 fun c15 =>
    wI .i64 c15 fun y16 =>
    wn l14 <|
    (ob (F59 fuel y4 y5 y10 y11 y16) fun t => K [.v (.b t)])
  nat := fun args {ρ} K => by
    simp only [bind_wc, bind_wn, bind_wv, bind_wagg, bind_wI, bind_wB, bind_wS, bind_wL, bind_wP, bind_wFn, bind_ob, Option.bind_some]

theorem d59 {P : Program} (fuel : Nat) (hmix : P.follows .mixedOrders = true) (hC : Sound P (C71 fuel)) (hF : FFits P 59 A59) (args res : List A) (h : (O59 fuel).o args some = some res) : Den P 59 args res := by
  obtain ⟨a1, l2, rfl, z0⟩ := inv_wc h
  obtain ⟨c3, rfl, z1⟩ := inv_wv z0
  obtain ⟨y4, y5, h6, z2⟩ := inv_wL z1
  obtain ⟨a7, l8, rfl, z3⟩ := inv_wc z2
  obtain ⟨c9, rfl, z4⟩ := inv_wv z3
  obtain ⟨y10, y11, h12, z5⟩ := inv_wL z4
  obtain ⟨a13, l14, rfl, z6⟩ := inv_wc z5
  obtain ⟨c15, rfl, z7⟩ := inv_wv z6
  obtain ⟨y16, h17, z8⟩ := inv_wI z7
  obtain ⟨hn, z9⟩ := inv_wn z8
  cases hn
  exact Den.weaken (.cons (WkA.v h6) (.cons (WkA.v h12) (.cons (WkA.v (Wk.i h17)) .nil))) (evalF_sound hmix hC hF ((e59 fuel y4 y5 y10 y11 y16).trans z9))

def C72 (fuel : Nat) : Oracle := (C71 fuel).add 59 (fun _ => true) (O59 fuel)

/-- shipyard/shipyardref13.Clear -/
def A28v1 : AC := (.region 11 [mv 57 10, o1 58 (.binOp .add 3 (tm 57) (ic 1) 3), o1 10 (.assign (tm 58))] 0 none)
def A28v2 : AC := (.seq (.block 3
  (.seq (.region 12 [mv 59 7, mv 60 9, o1 61 (.indexAddr 23 22 1 (tm 59) (tm 60)), o1 62 (.load 22 none (tm 61)), mv 63 8, mv 64 10, o1 65 (.indexAddr 23 22 1 (tm 63) (tm 64)), o1 66 (.load 22 none (tm 65)), o1 67 (.call 39 [(tm 62), (tm 66)] [22, 22] .snap), mv 68 67, og 69 (.move (tm 7)) 68 false, og 70 (.move (tm 9)) 68 false, og 71 (.indexAddr 23 22 1 (tm 69) (tm 70)) 68 false, og 72 (.load 22 none (tm 71)) 68 false, og 73 (.move (tm 8)) 68 false, og 74 (.move (tm 10)) 68 false, og 75 (.indexAddr 23 22 1 (tm 73) (tm 74)) 68 false, og 76 (.load 22 none (tm 75)) 68 false, og 77 (.move (tm 2)) 68 false, og 78 (.call 59 [(tm 72), (tm 76), (tm 77)] [22, 22, 3] .snap) 68 false, o1 79 (.pick (tm 68) (.const (.bool true)) (tm 78)), mv 80 79, og 81 (.move (tm 8)) 80 false, og 82 (.move (tm 10)) 80 false, og 83 (.indexAddr 23 22 1 (tm 81) (tm 82)) 80 false, og 84 (.load 22 none (tm 83)) 80 false, og 85 (.move (tm 7)) 80 false, og 86 (.move (tm 9)) 80 false, og 87 (.indexAddr 23 22 1 (tm 85) (tm 86)) 80 false, og 88 (.load 22 none (tm 87)) 80 false, og 89 (.move (tm 2)) 80 false, og 90 (.call 59 [(tm 84), (tm 88), (tm 89)] [22, 22, 3] .snap) 80 false, o1 91 (.pick (tm 80) (.const (.bool true)) (tm 90))] 0 (some [[], [], [0, 1], [0, 1, 2], [], [], [4, 5], [4, 5, 6], (rl 0 8 []), (rl 0 9 []), (rl 0 10 []), (rl 0 10 []), (rl 0 12 []), (rl 0 13 []), (rl 0 10 []), (rl 0 10 []), (rl 0 10 [14, 15]), (rl 0 10 [14, 15, 16]), (rl 0 10 []), (rl 0 19 []), (rl 0 20 []), (rl 0 21 []), (rl 0 22 []), (rl 0 22 []), (rl 0 24 []), (rl 0 25 []), (rl 0 22 []), (rl 0 22 []), (rl 0 22 [26, 27]), (rl 0 22 [26, 27, 28]), (rl 0 22 []), (rl 0 31 []), (rl 0 32 [])])) []
    (.cond (tm 91)
    (.seq (.region 13 [o1 6 (.assign (.const (.bool false)))] 0 none) []
      (.ret (rl 0 6 (rl 7 85 []))))
    .skip))) (6 :: (rl 59 33 []))
  A28v1)
def A28v3 : AC := (.seq (.seq (.region 10 [mv 53 10, mv 54 8, o1 55 (.len 23 false (tm 54)), o1 56 (.binOp .lss 3 (tm 53) (tm 55) 3)] 0 none) []
  (.cond (tm 56)
  .skip
  (.exit 2 (0 :: 1 :: (rl 3 4 (rl 10 82 [])))))) (rl 53 4 [])
  A28v2)
def A28v4 : AC := (.region 8 [mv 51 9, o1 52 (.binOp .add 3 (tm 51) (ic 1) 3), o1 9 (.assign (tm 52))] 0 none)
def A28v5 : AC := (.seq (.block 1
  (.seq (.region 9 [o1 10 (.assign (ic 0))] 0 none) []
    (.block 2
    (.loop [] (0 :: 1 :: (rl 3 4 (rl 11 81 [])))
      A28v3)))) (6 :: 10 :: (rl 53 39 []))
  A28v4)
def A28v6 : AC := (.seq (.seq (.region 7 [mv 47 9, mv 48 7, o1 49 (.len 23 false (tm 48)), o1 50 (.binOp .lss 3 (tm 47) (tm 49) 3)] 0 none) []
  (.cond (tm 50)
  .skip
  (.exit 0 (rl 0 92 [])))) (rl 47 4 [])
  A28v5)
def A28v7 : AC := (.seq (.region 14 [o1 6 (.assign (.const (.bool true)))] 0 none) []
  (.ret (rl 0 6 (rl 7 85 []))))
def A28v8 : AC := (.seq (.region 5 [o1 43 (.load 25 (some 2) (tm 3)), o1 44 (.call 44 [(tm 43)] [25] .freeze), o1 45 (.load 25 (some 2) (tm 4)), o1 46 (.call 44 [(tm 45)] [25] .freeze), o1 7 (.assign (tm 44)), o1 8 (.assign (tm 46))] 0 (some [[], [0], [], [0, 1, 2], (rl 0 4 []), (rl 0 5 [])])) []
  (.seq (.seq (.region 6 [o1 9 (.assign (ic 0))] 0 none) []
  (.block 0
  (.loop [] (0 :: 1 :: (rl 3 4 (rl 10 82 [])))
    A28v6))) (6 :: 9 :: 10 :: (rl 47 45 []))
  A28v7))
def A28v9 : AC := (.seq (.seq (.region 3 [o1 27 (.load 25 (some 2) (tm 3)), o1 28 (.fieldAddr 25 (tm 4) 0 0), o1 29 (.load 22 none (tm 28)), o1 30 (.indexAddr 22 34 2 (tm 29) (ic 0)), o1 31 (.load 34 (some 2) (tm 30)), o1 32 (.call 23 [(tm 27), (tm 31)] [25, 34] .snap), o1 33 (.binOp .geq 3 (tm 32) (ic 0) 3), mv 34 33, og 35 (.load 25 (some 2) (tm 4)) 34 false, og 36 (.fieldAddr 25 (tm 3) 0 0) 34 false, og 37 (.load 22 none (tm 36)) 34 false, og 38 (.indexAddr 22 34 2 (tm 37) (ic 0)) 34 false, og 39 (.load 34 (some 2) (tm 38)) 34 false, og 40 (.call 23 [(tm 35), (tm 39)] [25, 34] .snap) 34 false, og 41 (.binOp .geq 3 (tm 40) (ic 0) 3) 34 false, o1 42 (.pick (tm 34) (.const (.bool true)) (tm 41))] 0 (some [[], [], [1], [1, 2], [1, 2, 3], (rl 0 5 []), (rl 0 6 []), (rl 0 7 []), (rl 0 8 []), (rl 0 8 []), (rl 0 8 [9]), (rl 0 8 [9, 10]), (rl 0 8 [9, 10, 11]), (rl 0 13 []), (rl 0 14 []), (rl 0 15 [])])) []
  (.cond (tm 42)
  (.seq (.region 4 [o1 6 (.assign (.const (.bool false)))] 0 none) []
    (.ret (rl 0 6 (rl 7 85 []))))
  .skip)) (6 :: (rl 27 16 []))
  A28v8)
def A28 : AF := ⟨92, [.tmp 6],
  (.seq (.region 0 [o1 3 (.box 0 25 (tm 0)), o1 4 (.box 1 25 (tm 1)), o1 6 (.assign (.const (.bool false)))] 2 none) []
  (.seq (.seq (.region 1 [o1 11 (.load 25 (some 2) (tm 3)), o1 12 (.call 14 [(tm 11)] [25] .snap), o1 13 (.binOp .neq 27 (tm 12) (ic 0) 27), mv 14 13, og 15 (.load 25 (some 2) (tm 4)) 14 false, og 16 (.call 14 [(tm 15)] [25] .snap) 14 false, og 17 (.binOp .neq 27 (tm 16) (ic 0) 27) 14 false, o1 18 (.pick (tm 14) (.const (.bool true)) (tm 17)), mv 19 18, og 20 (.move (tm 2)) 19 false, og 21 (.binOp .lss 3 (tm 20) (ic 0) 3) 19 false, o1 22 (.pick (tm 19) (.const (.bool true)) (tm 21)), mv 23 22, og 24 (.move (tm 2)) 23 false, og 25 (.binOp .gtr 3 (tm 24) (ic 1000) 3) 23 false, o1 26 (.pick (tm 23) (.const (.bool true)) (tm 25))] 0 none) []
  (.cond (tm 26)
  (.seq (.region 2 [o1 6 (.assign (.const (.bool false)))] 0 none) []
    (.ret (rl 0 6 (rl 7 85 []))))
  .skip)) (6 :: (rl 11 16 []))
  A28v9))⟩

def B28v2 (C : Oracle) (fuel : Nat) {ρ : Type} : St → (Ex → St → Option ρ) → Option ρ := fun st k => evalC C fuel A28v3 st k
def N28v2 : St → Option St := fun s => s.norm (0 :: 1 :: (rl 3 4 (rl 11 81 []))) 2

def s28v0 (x93 : Int) (x94 : Nat) (x95 : Nat → Nat → CV) (x96 : Nat) (x97 : Nat → Nat → CV) (x98 : Int) (x99 : Int) (x100 : Nat) (x101 : Nat → Nat → CV) (x102 : Nat) (x103 : Nat → Nat → CV) (x104 : Nat) (x105 : Nat → Nat → CV) (x106 : Nat) (x107 : Nat → Nat → CV) : St := ⟨(.u :: .u :: .x (.c (.i .i64 x93)) :: (us 4 (.x (.c (.ro false (.pr (.sl (.pr (.int .i64) (.pr (.int .i64) .nil))) .nil) x94 x95)) :: .x (.c (.ro false (.pr (.sl (.pr (.int .i64) (.pr (.int .i64) .nil))) .nil) x96 x97)) :: .x (.c (.i .i64 x98)) :: .x (.c (.i .i64 x99)) :: (us 81 [])))), [.box [(.c (.ro false (.pr (.int .i64) (.pr (.int .i64) .nil)) x100 x101)), (.c (.ro false (.pr (.sl (.pr (.int .i64) (.pr (.int .i64) .nil))) .nil) x102 x103))], .box [(.c (.ro false (.pr (.int .i64) (.pr (.int .i64) .nil)) x104 x105)), (.c (.ro false (.pr (.sl (.pr (.int .i64) (.pr (.int .i64) .nil))) .nil) x106 x107))]]⟩

def s28v1 (x100 : Nat) (x101 : Nat → Nat → CV) (x102 : Nat) (x103 : Nat → Nat → CV) (x104 : Nat) (x105 : Nat → Nat → CV) (x106 : Nat) (x107 : Nat → Nat → CV) : St := ⟨(us 6 (.x (.c (.b false)) :: (us 85 []))), [.box [(.c (.ro false (.pr (.int .i64) (.pr (.int .i64) .nil)) x100 x101)), (.c (.ro false (.pr (.sl (.pr (.int .i64) (.pr (.int .i64) .nil))) .nil) x102 x103))], .box [(.c (.ro false (.pr (.int .i64) (.pr (.int .i64) .nil)) x104 x105)), (.c (.ro false (.pr (.sl (.pr (.int .i64) (.pr (.int .i64) .nil))) .nil) x106 x107))]]⟩

def s28v2 (x93 : Int) (x94 : Nat) (x95 : Nat → Nat → CV) (x96 : Nat) (x97 : Nat → Nat → CV) (x98 : Int) (x100 : Nat) (x101 : Nat → Nat → CV) (x102 : Nat) (x103 : Nat → Nat → CV) (x104 : Nat) (x105 : Nat → Nat → CV) (x106 : Nat) (x107 : Nat → Nat → CV) : St := ⟨(.u :: .u :: .x (.c (.i .i64 x93)) :: (us 4 (.x (.c (.ro false (.pr (.sl (.pr (.int .i64) (.pr (.int .i64) .nil))) .nil) x94 x95)) :: .x (.c (.ro false (.pr (.sl (.pr (.int .i64) (.pr (.int .i64) .nil))) .nil) x96 x97)) :: .x (.c (.i .i64 x98)) :: (us 82 [])))), [.box [(.c (.ro false (.pr (.int .i64) (.pr (.int .i64) .nil)) x100 x101)), (.c (.ro false (.pr (.sl (.pr (.int .i64) (.pr (.int .i64) .nil))) .nil) x102 x103))], .box [(.c (.ro false (.pr (.int .i64) (.pr (.int .i64) .nil)) x104 x105)), (.c (.ro false (.pr (.sl (.pr (.int .i64) (.pr (.int .i64) .nil))) .nil) x106 x107))]]⟩

def L28v2 {ρ : Type} (fuel : Nat) (x93 : Int) (x94 : Nat) (x95 : Nat → Nat → CV) (x96 : Nat) (x97 : Nat → Nat → CV) (x98 : Int) (x100 : Nat) (x101 : Nat → Nat → CV) (x102 : Nat) (x103 : Nat → Nat → CV) (x104 : Nat) (x105 : Nat → Nat → CV) (x106 : Nat) (x107 : Nat → Nat → CV) : Nat → Int → (Option ρ) → (Option ρ) → Option ρ
  | 0, _, _, _ => none
  | m + 1, x99, k0, k1 =>
    (bif (decide (x99 < (Int.ofNat x96))) then (bif (inb x98 x94) then (bif (inb x99 x96) then (ob (F39 fuel (CV.len (x95 (Int.toNat x98) 0)) (CV.el (x95 (Int.toNat x98) 0)) (CV.len (x97 (Int.toNat x99) 0)) (CV.el (x97 (Int.toNat x99) 0))) fun x108 => (bif (x108 == false) then (bif (inb x98 x94) then (bif (inb x99 x96) then (ob (F59 fuel (CV.len (x95 (Int.toNat x98) 0)) (CV.el (x95 (Int.toNat x98) 0)) (CV.len (x97 (Int.toNat x99) 0)) (CV.el (x97 (Int.toNat x99) 0)) x93) fun x109 => (bif (x109 == false) then (bif (inb x99 x96) then (bif (inb x98 x94) then (ob (F59 fuel (CV.len (x97 (Int.toNat x99) 0)) (CV.el (x97 (Int.toNat x99) 0)) (CV.len (x95 (Int.toNat x98) 0)) (CV.el (x95 (Int.toNat x98) 0)) x93) fun x110 => (bif x110 then k0 else (L28v2 fuel x93 x94 x95 x96 x97 x98 x100 x101 x102 x103 x104 x105 x106 x107 m (w64 (x99 + 1)) k0 k1))) else none) else none) else k0)) else none) else none) else k0)) else none) else none) else k1)

theorem nl28v2 {ρ σ : Type} (fuel : Nat) (x93 : Int) (x94 : Nat) (x95 : Nat → Nat → CV) (x96 : Nat) (x97 : Nat → Nat → CV) (x98 : Int) (x100 : Nat) (x101 : Nat → Nat → CV) (x102 : Nat) (x103 : Nat → Nat → CV) (x104 : Nat) (x105 : Nat → Nat → CV) (x106 : Nat) (x107 : Nat → Nat → CV) (g : ρ → Option σ) : ∀ (m : Nat) (x99 : Int) (k0 : Option ρ) (k1 : Option ρ), ob (L28v2 fuel x93 x94 x95 x96 x97 x98 x100 x101 x102 x103 x104 x105 x106 x107 m x99 k0 k1) g = L28v2 fuel x93 x94 x95 x96 x97 x98 x100 x101 x102 x103 x104 x105 x106 x107 m x99 (ob k0 g) (ob k1 g)
  | 0, _, _, _ => rfl
  | m + 1, x99, k0, k1 => by
    simp only [L28v2, ob_bif, ob_ob, ob_none, nl28v2 fuel x93 x94 x95 x96 x97 x98 x100 x101 x102 x103 x104 x105 x106 x107 g m]

theorem r28v2 (fuel : Nat) (m : Nat) {ρ : Type} (k : Ex → St → Option ρ) (x93 : Int) (x94 : Nat) (x95 : Nat → Nat → CV) (x96 : Nat) (x97 : Nat → Nat → CV) (x98 : Int) (x100 : Nat) (x101 : Nat → Nat → CV) (x102 : Nat) (x103 : Nat → Nat → CV) (x104 : Nat) (x105 : Nat → Nat → CV) (x106 : Nat) (x107 : Nat → Nat → CV) (x99 : Int) :
    loopH (B28v2 (C72 fuel) fuel) N28v2 (m + 1) (s28v0 x93 x94 x95 x96 x97 x98 x99 x100 x101 x102 x103 x104 x105 x106 x107) k =
    (bif (decide (x99 < (Int.ofNat x96))) then (bif (inb x98 x94) then (bif (inb x99 x96) then (ob (F39 fuel (CV.len (x95 (Int.toNat x98) 0)) (CV.el (x95 (Int.toNat x98) 0)) (CV.len (x97 (Int.toNat x99) 0)) (CV.el (x97 (Int.toNat x99) 0))) fun x108 => (bif (x108 == false) then (bif (inb x98 x94) then (bif (inb x99 x96) then (ob (F59 fuel (CV.len (x95 (Int.toNat x98) 0)) (CV.el (x95 (Int.toNat x98) 0)) (CV.len (x97 (Int.toNat x99) 0)) (CV.el (x97 (Int.toNat x99) 0)) x93) fun x109 => (bif (x109 == false) then (bif (inb x99 x96) then (bif (inb x98 x94) then (ob (F59 fuel (CV.len (x97 (Int.toNat x99) 0)) (CV.el (x97 (Int.toNat x99) 0)) (CV.len (x95 (Int.toNat x98) 0)) (CV.el (x95 (Int.toNat x98) 0)) x93) fun x110 => (bif x110 then (k .ret (s28v1 x100 x101 x102 x103 x104 x105 x106 x107)) else (loopH (B28v2 (C72 fuel) fuel) N28v2 m (s28v0 x93 x94 x95 x96 x97 x98 (w64 (x99 + 1)) x100 x101 x102 x103 x104 x105 x106 x107) k))) else none) else none) else (k .ret (s28v1 x100 x101 x102 x103 x104 x105 x106 x107)))) else none) else none) else (k .ret (s28v1 x100 x101 x102 x103 x104 x105 x106 x107)))) else none) else none) else (k (.exit 2) (s28v2 x93 x94 x95 x96 x97 x98 x100 x101 x102 x103 x104 x105 x106 x107))) := by kernel_rfl

theorem q28v2 (fuel : Nat) (x93 : Int) (x94 : Nat) (x95 : Nat → Nat → CV) (x96 : Nat) (x97 : Nat → Nat → CV) (x98 : Int) (x100 : Nat) (x101 : Nat → Nat → CV) (x102 : Nat) (x103 : Nat → Nat → CV) (x104 : Nat) (x105 : Nat → Nat → CV) (x106 : Nat) (x107 : Nat → Nat → CV) {ρ : Type} (k : Ex → St → Option ρ) : ∀ (m : Nat) (x99 : Int),
    loopH (B28v2 (C72 fuel) fuel) N28v2 m (s28v0 x93 x94 x95 x96 x97 x98 x99 x100 x101 x102 x103 x104 x105 x106 x107) k = L28v2 fuel x93 x94 x95 x96 x97 x98 x100 x101 x102 x103 x104 x105 x106 x107 m x99 (k .ret (s28v1 x100 x101 x102 x103 x104 x105 x106 x107)) (k (.exit 2) (s28v2 x93 x94 x95 x96 x97 x98 x100 x101 x102 x103 x104 x105 x106 x107))
  | 0, _ => rfl
  | m + 1, x99 => by
    rw [r28v2]
    simp only [L28v2, q28v2 fuel x93 x94 x95 x96 x97 x98 x100 x101 x102 x103 x104 x105 x106 x107 k m]

def B28v3 (C : Oracle) (fuel : Nat) {ρ : Type} : St → (Ex → St → Option ρ) → Option ρ := fun st k => evalC C fuel A28v6 st k
def N28v3 : St → Option St := fun s => s.norm (0 :: 1 :: (rl 3 4 (rl 10 82 []))) 2

def s28v3 (x62 : Int) (x63 : Nat) (x64 : Nat → Nat → CV) (x65 : Nat) (x66 : Nat → Nat → CV) (x67 : Int) (x68 : Nat) (x69 : Nat → Nat → CV) (x70 : Nat) (x71 : Nat → Nat → CV) (x72 : Nat) (x73 : Nat → Nat → CV) (x74 : Nat) (x75 : Nat → Nat → CV) : St := ⟨(.u :: .u :: .x (.c (.i .i64 x62)) :: (us 4 (.x (.c (.ro false (.pr (.sl (.pr (.int .i64) (.pr (.int .i64) .nil))) .nil) x63 x64)) :: .x (.c (.ro false (.pr (.sl (.pr (.int .i64) (.pr (.int .i64) .nil))) .nil) x65 x66)) :: .x (.c (.i .i64 x67)) :: (us 82 [])))), [.box [(.c (.ro false (.pr (.int .i64) (.pr (.int .i64) .nil)) x68 x69)), (.c (.ro false (.pr (.sl (.pr (.int .i64) (.pr (.int .i64) .nil))) .nil) x70 x71))], .box [(.c (.ro false (.pr (.int .i64) (.pr (.int .i64) .nil)) x72 x73)), (.c (.ro false (.pr (.sl (.pr (.int .i64) (.pr (.int .i64) .nil))) .nil) x74 x75))]]⟩

def s28v4 (x68 : Nat) (x69 : Nat → Nat → CV) (x70 : Nat) (x71 : Nat → Nat → CV) (x72 : Nat) (x73 : Nat → Nat → CV) (x74 : Nat) (x75 : Nat → Nat → CV) : St := ⟨(us 6 (.x (.c (.b false)) :: (us 85 []))), [.box [(.c (.ro false (.pr (.int .i64) (.pr (.int .i64) .nil)) x68 x69)), (.c (.ro false (.pr (.sl (.pr (.int .i64) (.pr (.int .i64) .nil))) .nil) x70 x71))], .box [(.c (.ro false (.pr (.int .i64) (.pr (.int .i64) .nil)) x72 x73)), (.c (.ro false (.pr (.sl (.pr (.int .i64) (.pr (.int .i64) .nil))) .nil) x74 x75))]]⟩

def s28v5 (x68 : Nat) (x69 : Nat → Nat → CV) (x70 : Nat) (x71 : Nat → Nat → CV) (x72 : Nat) (x73 : Nat → Nat → CV) (x74 : Nat) (x75 : Nat → Nat → CV) : St := ⟨(us 92 []), [.box [(.c (.ro false (.pr (.int .i64) (.pr (.int .i64) .nil)) x68 x69)), (.c (.ro false (.pr (.sl (.pr (.int .i64) (.pr (.int .i64) .nil))) .nil) x70 x71))], .box [(.c (.ro false (.pr (.int .i64) (.pr (.int .i64) .nil)) x72 x73)), (.c (.ro false (.pr (.sl (.pr (.int .i64) (.pr (.int .i64) .nil))) .nil) x74 x75))]]⟩

def L28v3 {ρ : Type} (fuel : Nat) (x62 : Int) (x63 : Nat) (x64 : Nat → Nat → CV) (x65 : Nat) (x66 : Nat → Nat → CV) (x68 : Nat) (x69 : Nat → Nat → CV) (x70 : Nat) (x71 : Nat → Nat → CV) (x72 : Nat) (x73 : Nat → Nat → CV) (x74 : Nat) (x75 : Nat → Nat → CV) : Nat → Int → (Option ρ) → (Option ρ) → Option ρ
  | 0, _, _, _ => none
  | m + 1, x67, k0, k1 =>
    (bif (decide (x67 < (Int.ofNat x63))) then (L28v2 fuel x62 x63 x64 x65 x66 x67 x68 x69 x70 x71 x72 x73 x74 x75 fuel 0
    k0
    (L28v3 fuel x62 x63 x64 x65 x66 x68 x69 x70 x71 x72 x73 x74 x75 m (w64 (x67 + 1)) k0 k1)) else k1)

theorem nl28v3 {ρ σ : Type} (fuel : Nat) (x62 : Int) (x63 : Nat) (x64 : Nat → Nat → CV) (x65 : Nat) (x66 : Nat → Nat → CV) (x68 : Nat) (x69 : Nat → Nat → CV) (x70 : Nat) (x71 : Nat → Nat → CV) (x72 : Nat) (x73 : Nat → Nat → CV) (x74 : Nat) (x75 : Nat → Nat → CV) (g : ρ → Option σ) : ∀ (m : Nat) (x67 : Int) (k0 : Option ρ) (k1 : Option ρ), ob (L28v3 fuel x62 x63 x64 x65 x66 x68 x69 x70 x71 x72 x73 x74 x75 m x67 k0 k1) g = L28v3 fuel x62 x63 x64 x65 x66 x68 x69 x70 x71 x72 x73 x74 x75 m x67 (ob k0 g) (ob k1 g)
  | 0, _, _, _ => rfl
  | m + 1, x67, k0, k1 => by
    simp only [L28v3, ob_bif, ob_ob, ob_none, nl28v3 fuel x62 x63 x64 x65 x66 x68 x69 x70 x71 x72 x73 x74 x75 g m, nl28v2]

def s28v6 (x62 : Int) (x63 : Nat) (x64 : Nat → Nat → CV) (x65 : Nat) (x66 : Nat → Nat → CV) (x67 : Int) (x68 : Nat) (x69 : Nat → Nat → CV) (x70 : Nat) (x71 : Nat → Nat → CV) (x72 : Nat) (x73 : Nat → Nat → CV) (x74 : Nat) (x75 : Nat → Nat → CV) : St := ⟨(.u :: .u :: .x (.c (.i .i64 x62)) :: (us 4 (.x (.c (.ro false (.pr (.sl (.pr (.int .i64) (.pr (.int .i64) .nil))) .nil) x63 x64)) :: .x (.c (.ro false (.pr (.sl (.pr (.int .i64) (.pr (.int .i64) .nil))) .nil) x65 x66)) :: .x (.c (.i .i64 x67)) :: .x (.c (.i .i64 0)) :: (us 81 [])))), [.box [(.c (.ro false (.pr (.int .i64) (.pr (.int .i64) .nil)) x68 x69)), (.c (.ro false (.pr (.sl (.pr (.int .i64) (.pr (.int .i64) .nil))) .nil) x70 x71))], .box [(.c (.ro false (.pr (.int .i64) (.pr (.int .i64) .nil)) x72 x73)), (.c (.ro false (.pr (.sl (.pr (.int .i64) (.pr (.int .i64) .nil))) .nil) x74 x75))]]⟩

theorem r28v3 (fuel : Nat) (m : Nat) {ρ : Type} (k : Ex → St → Option ρ) (x62 : Int) (x63 : Nat) (x64 : Nat → Nat → CV) (x65 : Nat) (x66 : Nat → Nat → CV) (x68 : Nat) (x69 : Nat → Nat → CV) (x70 : Nat) (x71 : Nat → Nat → CV) (x72 : Nat) (x73 : Nat → Nat → CV) (x74 : Nat) (x75 : Nat → Nat → CV) (x67 : Int) :
    loopH (B28v3 (C72 fuel) fuel) N28v3 (m + 1) (s28v3 x62 x63 x64 x65 x66 x67 x68 x69 x70 x71 x72 x73 x74 x75) k =
    (bif (decide (x67 < (Int.ofNat x63))) then (loopN (B28v2 (C72 fuel) fuel) N28v2 fuel (s28v6 x62 x63 x64 x65 x66 x67 x68 x69 x70 x71 x72 x73 x74 x75) (kBlk 2 (kBlk 1 (kSeq (C72 fuel) fuel (6 :: 10 :: (rl 53 39 [])) A28v4 (kLoop (B28v3 (C72 fuel) fuel) N28v3 m k))))) else (k (.exit 0) (s28v5 x68 x69 x70 x71 x72 x73 x74 x75))) := by kernel_rfl

theorem t28v1 (fuel : Nat) {ρ : Type} (k : Ex → St → Option ρ) (x62 : Int) (x63 : Nat) (x64 : Nat → Nat → CV) (x65 : Nat) (x66 : Nat → Nat → CV) (x67 : Int) (x68 : Nat) (x69 : Nat → Nat → CV) (x70 : Nat) (x71 : Nat → Nat → CV) (x72 : Nat) (x73 : Nat → Nat → CV) (x74 : Nat) (x75 : Nat → Nat → CV) :
    loopN (B28v2 (C72 fuel) fuel) N28v2 fuel (s28v6 x62 x63 x64 x65 x66 x67 x68 x69 x70 x71 x72 x73 x74 x75) k =
    L28v2 fuel x62 x63 x64 x65 x66 x67 x68 x69 x70 x71 x72 x73 x74 x75 fuel 0 (k .ret (s28v1 x68 x69 x70 x71 x72 x73 x74 x75)) (k (.exit 2) (s28v2 x62 x63 x64 x65 x66 x67 x68 x69 x70 x71 x72 x73 x74 x75)) :=
  (loopN_at (st' := (s28v0 x62 x63 x64 x65 x66 x67 0 x68 x69 x70 x71 x72 x73 x74 x75)) (by kernel_rfl)).trans (q28v2 fuel x62 x63 x64 x65 x66 x67 x68 x69 x70 x71 x72 x73 x74 x75 k fuel 0)

theorem g28v2 (fuel : Nat) (m : Nat) {ρ : Type} (k : Ex → St → Option ρ) (x68 : Nat) (x69 : Nat → Nat → CV) (x70 : Nat) (x71 : Nat → Nat → CV) (x72 : Nat) (x73 : Nat → Nat → CV) (x74 : Nat) (x75 : Nat → Nat → CV) :
    (kBlk 2 (kBlk 1 (kSeq (C72 fuel) fuel (6 :: 10 :: (rl 53 39 [])) A28v4 (kLoop (B28v3 (C72 fuel) fuel) N28v3 m k)))) .ret (s28v1 x68 x69 x70 x71 x72 x73 x74 x75) =
    (k .ret (s28v4 x68 x69 x70 x71 x72 x73 x74 x75)) := by kernel_rfl

theorem g28v3 (fuel : Nat) (m : Nat) {ρ : Type} (k : Ex → St → Option ρ) (x62 : Int) (x63 : Nat) (x64 : Nat → Nat → CV) (x65 : Nat) (x66 : Nat → Nat → CV) (x67 : Int) (x68 : Nat) (x69 : Nat → Nat → CV) (x70 : Nat) (x71 : Nat → Nat → CV) (x72 : Nat) (x73 : Nat → Nat → CV) (x74 : Nat) (x75 : Nat → Nat → CV) :
    (kBlk 2 (kBlk 1 (kSeq (C72 fuel) fuel (6 :: 10 :: (rl 53 39 [])) A28v4 (kLoop (B28v3 (C72 fuel) fuel) N28v3 m k)))) (.exit 2) (s28v2 x62 x63 x64 x65 x66 x67 x68 x69 x70 x71 x72 x73 x74 x75) =
    (loopH (B28v3 (C72 fuel) fuel) N28v3 m (s28v3 x62 x63 x64 x65 x66 (w64 (x67 + 1)) x68 x69 x70 x71 x72 x73 x74 x75) k) := by kernel_rfl

theorem q28v3 (fuel : Nat) (x62 : Int) (x63 : Nat) (x64 : Nat → Nat → CV) (x65 : Nat) (x66 : Nat → Nat → CV) (x68 : Nat) (x69 : Nat → Nat → CV) (x70 : Nat) (x71 : Nat → Nat → CV) (x72 : Nat) (x73 : Nat → Nat → CV) (x74 : Nat) (x75 : Nat → Nat → CV) {ρ : Type} (k : Ex → St → Option ρ) : ∀ (m : Nat) (x67 : Int),
    loopH (B28v3 (C72 fuel) fuel) N28v3 m (s28v3 x62 x63 x64 x65 x66 x67 x68 x69 x70 x71 x72 x73 x74 x75) k = L28v3 fuel x62 x63 x64 x65 x66 x68 x69 x70 x71 x72 x73 x74 x75 m x67 (k .ret (s28v4 x68 x69 x70 x71 x72 x73 x74 x75)) (k (.exit 0) (s28v5 x68 x69 x70 x71 x72 x73 x74 x75))
  | 0, _ => rfl
  | m + 1, x67 => by
    rw [r28v3]
    simp only [L28v3, q28v3 fuel x62 x63 x64 x65 x66 x68 x69 x70 x71 x72 x73 x74 x75 k m, t28v1, g28v2, g28v3]

def D28 {ρ : Type} (fuel : Nat) (x1 : Nat) (x2 : Nat → Nat → CV) (x3 : Nat) (x4 : Nat → Nat → CV) (x5 : Nat) (x6 : Nat → Nat → CV) (x7 : Nat) (x8 : Nat → Nat → CV) (x9 : Int) (k : Bool → Option ρ) : Option ρ :=
  (ob (F14 fuel x1 x2 x3 x4) fun x10 => (bif ((x10 != 0) == false) then (ob (F14 fuel x5 x6 x7 x8) fun x11 => (bif ((x11 != 0) == false) then (bif ((decide (x9 < 0)) == false) then (bif (decide (x9 > 1000)) then (k false) else (bif (inb 0 x5) then (ob (F23 fuel x1 x2 x3 x4 (CV.int (x6 0 0)) (CV.int (x6 0 1))) fun x12 => (bif ((decide (x12 ≥ 0)) == false) then (bif (inb 0 x1) then (ob (F23 fuel x5 x6 x7 x8 (CV.int (x2 0 0)) (CV.int (x2 0 1))) fun x13 => (bif (decide (x13 ≥ 0)) then (k false) else (ob (F44 fuel x1 x2 x3 x4) fun x14 => (ob (F44 fuel x5 x6 x7 x8) fun x15 => (L28v3 fuel x9 x14.1 x14.2 x15.1 x15.2 x1 x2 x3 x4 x5 x6 x7 x8 fuel 0
    (k false)
    (k true)))))) else none) else (k false))) else none)) else (k false)) else (k false))) else (k false)))

def F28 (fuel : Nat) (x1 : Nat) (x2 : Nat → Nat → CV) (x3 : Nat) (x4 : Nat → Nat → CV) (x5 : Nat) (x6 : Nat → Nat → CV) (x7 : Nat) (x8 : Nat → Nat → CV) (x9 : Int) : Option (Bool) := D28 fuel x1 x2 x3 x4 x5 x6 x7 x8 x9 some

theorem n28 {ρ σ : Type} (fuel : Nat) (x1 : Nat) (x2 : Nat → Nat → CV) (x3 : Nat) (x4 : Nat → Nat → CV) (x5 : Nat) (x6 : Nat → Nat → CV) (x7 : Nat) (x8 : Nat → Nat → CV) (x9 : Int) (k : (Bool) → Option ρ) (g : ρ → Option σ) : ob (D28 fuel x1 x2 x3 x4 x5 x6 x7 x8 x9 k) g = D28 fuel x1 x2 x3 x4 x5 x6 x7 x8 x9 fun t => ob (k t) g := by
  simp only [D28, ob_bif, ob_ob, ob_none, nl28v3]

theorem f28 {ρ : Type} (fuel : Nat) (x1 : Nat) (x2 : Nat → Nat → CV) (x3 : Nat) (x4 : Nat → Nat → CV) (x5 : Nat) (x6 : Nat → Nat → CV) (x7 : Nat) (x8 : Nat → Nat → CV) (x9 : Int) (k : (Bool) → Option ρ) : D28 fuel x1 x2 x3 x4 x5 x6 x7 x8 x9 k = ob (F28 fuel x1 x2 x3 x4 x5 x6 x7 x8 x9) k := by
  unfold F28
  rw [n28]
  simp only [ob_some]

def s28v7 (x1 : Nat) (x2 : Nat → Nat → CV) (x3 : Nat) (x4 : Nat → Nat → CV) (x5 : Nat) (x6 : Nat → Nat → CV) (x7 : Nat) (x8 : Nat → Nat → CV) (x9 : Int) (x14 : Nat × (Nat → Nat → CV)) (x15 : Nat × (Nat → Nat → CV)) : St := ⟨(.agg [(.c (.ro false (.pr (.int .i64) (.pr (.int .i64) .nil)) x1 x2)), (.c (.ro false (.pr (.sl (.pr (.int .i64) (.pr (.int .i64) .nil))) .nil) x3 x4))] :: .agg [(.c (.ro false (.pr (.int .i64) (.pr (.int .i64) .nil)) x5 x6)), (.c (.ro false (.pr (.sl (.pr (.int .i64) (.pr (.int .i64) .nil))) .nil) x7 x8))] :: .x (.c (.i .i64 x9)) :: .x (.ptr 0 0) :: .x (.ptr 1 0) :: .undef :: .u :: .x (.c (.ro false (.pr (.sl (.pr (.int .i64) (.pr (.int .i64) .nil))) .nil) x14.1 x14.2)) :: .x (.c (.ro false (.pr (.sl (.pr (.int .i64) (.pr (.int .i64) .nil))) .nil) x15.1 x15.2)) :: .x (.c (.i .i64 0)) :: .undef :: (us 32 [.agg [(.c (.ro false (.pr (.int .i64) (.pr (.int .i64) .nil)) x1 x2)), (.c (.ro false (.pr (.sl (.pr (.int .i64) (.pr (.int .i64) .nil))) .nil) x3 x4))], .x (.c (.ro false (.pr (.sl (.pr (.int .i64) (.pr (.int .i64) .nil))) .nil) x14.1 x14.2)), .agg [(.c (.ro false (.pr (.int .i64) (.pr (.int .i64) .nil)) x5 x6)), (.c (.ro false (.pr (.sl (.pr (.int .i64) (.pr (.int .i64) .nil))) .nil) x7 x8))], .x (.c (.ro false (.pr (.sl (.pr (.int .i64) (.pr (.int .i64) .nil))) .nil) x15.1 x15.2)), .undef, .undef, .undef, .undef, .undef, .undef, .undef, .undef, .undef, .undef, .undef, .undef, .undef, .undef, .undef, .undef, .undef, .undef, .undef, .undef, .undef, .undef, .undef, .undef, .undef, .undef, .undef, .undef, .undef, .undef, .undef, .undef, .undef, .undef, .undef, .undef, .undef, .undef, .undef, .undef, .undef, .undef, .undef, .undef, .undef])), [.box [(.c (.ro false (.pr (.int .i64) (.pr (.int .i64) .nil)) x1 x2)), (.c (.ro false (.pr (.sl (.pr (.int .i64) (.pr (.int .i64) .nil))) .nil) x3 x4))], .box [(.c (.ro false (.pr (.int .i64) (.pr (.int .i64) .nil)) x5 x6)), (.c (.ro false (.pr (.sl (.pr (.int .i64) (.pr (.int .i64) .nil))) .nil) x7 x8))]]⟩

theorem walk28 (fuel : Nat) (x1 : Nat) (x2 : Nat → Nat → CV) (x3 : Nat) (x4 : Nat → Nat → CV) (x5 : Nat) (x6 : Nat → Nat → CV) (x7 : Nat) (x8 : Nat → Nat → CV) (x9 : Int) :
    evalF (C72 fuel) fuel A28 [.agg [(.ro false (.pr (.int .i64) (.pr (.int .i64) .nil)) x1 x2), (.ro false (.pr (.sl (.pr (.int .i64) (.pr (.int .i64) .nil))) .nil) x3 x4)], .agg [(.ro false (.pr (.int .i64) (.pr (.int .i64) .nil)) x5 x6), (.ro false (.pr (.sl (.pr (.int .i64) (.pr (.int .i64) .nil))) .nil) x7 x8)], .v (.i .i64 x9)] =
    (ob (F14 fuel x1 x2 x3 x4) fun x10 => (bif ((x10 != 0) == false) then (ob (F14 fuel x5 x6 x7 x8) fun x11 => (bif ((x11 != 0) == false) then (bif ((decide (x9 < 0)) == false) then (bif (decide (x9 > 1000)) then (some [.v (.b false)]) else (bif (inb 0 x5) then (ob (F23 fuel x1 x2 x3 x4 (CV.int (x6 0 0)) (CV.int (x6 0 1))) fun x12 => (bif ((decide (x12 ≥ 0)) == false) then (bif (inb 0 x1) then (ob (F23 fuel x5 x6 x7 x8 (CV.int (x2 0 0)) (CV.int (x2 0 1))) fun x13 => (bif (decide (x13 ≥ 0)) then (some [.v (.b false)]) else (ob (F44 fuel x1 x2 x3 x4) fun x14 => (ob (F44 fuel x5 x6 x7 x8) fun x15 => (loopN (B28v3 (C72 fuel) fuel) N28v3 fuel (s28v7 x1 x2 x3 x4 x5 x6 x7 x8 x9 x14 x15) (kBlk 0 (kSeq (C72 fuel) fuel (6 :: 9 :: 10 :: (rl 47 45 [])) A28v7 (finish A28)))))))) else none) else (some [.v (.b false)]))) else none)) else (some [.v (.b false)])) else (some [.v (.b false)]))) else (some [.v (.b false)]))) := by kernel_rfl

theorem t28v4 (fuel : Nat) {ρ : Type} (k : Ex → St → Option ρ) (x1 : Nat) (x2 : Nat → Nat → CV) (x3 : Nat) (x4 : Nat → Nat → CV) (x5 : Nat) (x6 : Nat → Nat → CV) (x7 : Nat) (x8 : Nat → Nat → CV) (x9 : Int) (x14 : Nat × (Nat → Nat → CV)) (x15 : Nat × (Nat → Nat → CV)) :
    loopN (B28v3 (C72 fuel) fuel) N28v3 fuel (s28v7 x1 x2 x3 x4 x5 x6 x7 x8 x9 x14 x15) k =
    L28v3 fuel x9 x14.1 x14.2 x15.1 x15.2 x1 x2 x3 x4 x5 x6 x7 x8 fuel 0 (k .ret (s28v4 x1 x2 x3 x4 x5 x6 x7 x8)) (k (.exit 0) (s28v5 x1 x2 x3 x4 x5 x6 x7 x8)) :=
  (loopN_at (st' := (s28v3 x9 x14.1 x14.2 x15.1 x15.2 0 x1 x2 x3 x4 x5 x6 x7 x8)) (by kernel_rfl)).trans (q28v3 fuel x9 x14.1 x14.2 x15.1 x15.2 x1 x2 x3 x4 x5 x6 x7 x8 k fuel 0)

theorem g28v5 (fuel : Nat) (x1 : Nat) (x2 : Nat → Nat → CV) (x3 : Nat) (x4 : Nat → Nat → CV) (x5 : Nat) (x6 : Nat → Nat → CV) (x7 : Nat) (x8 : Nat → Nat → CV) :
    (kBlk 0 (kSeq (C72 fuel) fuel (6 :: 9 :: 10 :: (rl 47 45 [])) A28v7 (finish A28))) .ret (s28v4 x1 x2 x3 x4 x5 x6 x7 x8) =
    (some [.v (.b false)]) := by kernel_rfl

theorem g28v6 (fuel : Nat) (x1 : Nat) (x2 : Nat → Nat → CV) (x3 : Nat) (x4 : Nat → Nat → CV) (x5 : Nat) (x6 : Nat → Nat → CV) (x7 : Nat) (x8 : Nat → Nat → CV) :
    (kBlk 0 (kSeq (C72 fuel) fuel (6 :: 9 :: 10 :: (rl 47 45 [])) A28v7 (finish A28))) (.exit 0) (s28v5 x1 x2 x3 x4 x5 x6 x7 x8) =
    (some [.v (.b true)]) := by kernel_rfl

theorem e28 (fuel : Nat) (x1 : Nat) (x2 : Nat → Nat → CV) (x3 : Nat) (x4 : Nat → Nat → CV) (x5 : Nat) (x6 : Nat → Nat → CV) (x7 : Nat) (x8 : Nat → Nat → CV) (x9 : Int) : evalF (C72 fuel) fuel A28 [.agg [(.ro false (.pr (.int .i64) (.pr (.int .i64) .nil)) x1 x2), (.ro false (.pr (.sl (.pr (.int .i64) (.pr (.int .i64) .nil))) .nil) x3 x4)], .agg [(.ro false (.pr (.int .i64) (.pr (.int .i64) .nil)) x5 x6), (.ro false (.pr (.sl (.pr (.int .i64) (.pr (.int .i64) .nil))) .nil) x7 x8)], .v (.i .i64 x9)] = ob (F28 fuel x1 x2 x3 x4 x5 x6 x7 x8 x9) fun t => some [.v (.b t)] := by
  rw [walk28, ← f28]
  simp only [D28, t28v4, g28v5, g28v6]

def O28 (fuel : Nat) : Ora where
  o := fun args {ρ} K =>
    wc args fun a1 l2 =>
    wagg a1 fun l3 =>
    wc l3 fun c4 l5 =>
    wL (.pr (.int .i64) (.pr (.int .i64) .nil)) c4 fun y6 y7 =>
    wc l5 fun c9 l10 =>
    wL (.pr (.sl (.pr (.int .i64) (.pr (.int .i64) .nil))) .nil) c9 fun y11 y12 =>
    wn l10 <|
    wc l2 fun a14 l15 =>
    wagg a14 fun l16 =>
    wc l16 fun c17 l18 =>
    wL (.pr (.int .i64) (.pr (.int .i64) .nil)) c17 fun y19 y20 =>
    wc l18 fun c22 l23 =>
    wL (.pr (.sl (.pr (.int .i64) (.pr (.int .i64) .nil))) .nil) c22 fun y24 y25 =>
    wn l23 <|
    wc l15 fun a27 l28 =>
    wv a27 fun c29 =>
    wI .i64 c29 fun y30 =>
    wn l28 <|
    (ob (F28 fuel y6 y7 y11 y12 y19 y20 y24 y25 y30) fun t => K [.v (.b t)])
  nat := fun args {ρ} K => by
    simp only [bind_wc, bind_wn, bind_wv, bind_wagg, bind_wI, bind_wB, bind_wS, bind_wL, bind_wP, bind_wFn, bind_ob, Option.bind_some]

theorem d28 {P : Program} (fuel : Nat) (hmix : P.follows .mixedOrders = true) (hC : Sound P (C72 fuel)) (hF : FFits P 28 A28) (args res : List A) (h : (O28 fuel).o args some = some res) : Den P 28 args res := by
  obtain ⟨a1, l2, rfl, z0⟩ := inv_wc h
  obtain ⟨l3, rfl, z1⟩ := inv_wagg z0
  obtain ⟨c4, l5, rfl, z2⟩ := inv_wc z1
  obtain ⟨y6, y7, h8, z3⟩ := inv_wL z2
  obtain ⟨c9, l10, rfl, z4⟩ := inv_wc z3
  obtain ⟨y11, y12, h13, z5⟩ := inv_wL z4
  obtain ⟨hn, z6⟩ := inv_wn z5
  cases hn
  obtain ⟨a14, l15, rfl, z7⟩ := inv_wc z6
  obtain ⟨l16, rfl, z8⟩ := inv_wagg z7
  obtain ⟨c17, l18, rfl, z9⟩ := inv_wc z8
  obtain ⟨y19, y20, h21, z10⟩ := inv_wL z9
  obtain ⟨c22, l23, rfl, z11⟩ := inv_wc z10
  obtain ⟨y24, y25, h26, z12⟩ := inv_wL z11
  obtain ⟨hn, z13⟩ := inv_wn z12
  cases hn
  obtain ⟨a27, l28, rfl, z14⟩ := inv_wc z13
  obtain ⟨c29, rfl, z15⟩ := inv_wv z14
  obtain ⟨y30, h31, z16⟩ := inv_wI z15
  obtain ⟨hn, z17⟩ := inv_wn z16
  cases hn
  exact Den.weaken (.cons (WkA.agg (.cons h8 (.cons h13 .nil))) (.cons (WkA.agg (.cons h21 (.cons h26 .nil))) (.cons (WkA.v (Wk.i h31)) .nil))) (evalF_sound hmix hC hF ((e28 fuel y6 y7 y11 y12 y19 y20 y24 y25 y30).trans z17))

def C73 (fuel : Nat) : Oracle := (C72 fuel).add 28 (fun _ => true) (O28 fuel)

/-- shipyard/shipyardlaw13.RegionClears -/
def A7 : AF := ⟨27, [.tmp 6],
  (.seq (.region 0 [o1 3 (.box 0 25 (tm 0)), o1 4 (.box 1 25 (tm 1)), o1 6 (.assign (.const (.bool false)))] 2 none) []
  (.seq (.region 1 [o1 7 (.load 25 (some 2) (tm 3)), o1 8 (.call 12 [(tm 7)] [25] .snap), mv 9 8, og 10 (.load 25 (some 2) (tm 4)) 9 false, og 11 (.call 12 [(tm 10)] [25] .snap) 9 false, o1 12 (.pick (tm 9) (.const (.bool true)) (tm 11)), mv 13 12, og 14 (.load 25 (some 2) (tm 3)) 13 false, og 15 (.load 25 (some 2) (tm 4)) 13 false, og 16 (.move (tm 2)) 13 false, og 17 (.call 27 [(tm 14), (tm 15), (tm 16)] [25, 25, 3] .snap) 13 false, og 18 (.load 25 (some 2) (tm 3)) 13 false, og 19 (.load 25 (some 2) (tm 4)) 13 false, og 20 (.move (tm 2)) 13 false, og 21 (.call 28 [(tm 18), (tm 19), (tm 20)] [25, 25, 3] .snap) 13 false, og 22 (.eqB false 4 (tm 17) (tm 21) 4) 13 false, o1 23 (.pick (tm 13) (.const (.bool true)) (tm 22)), mv 24 23, og 25 (.call 15 [] [] .snap) 24 true, o1 26 (.pick (tm 24) (tm 25) (.const (.bool false))), o1 6 (.assign (tm 26))] 0 (some [[], [0], [0, 1], [0, 1, 2], (rl 0 4 []), (rl 0 5 []), (rl 0 6 []), (rl 0 7 []), (rl 0 7 []), (rl 0 7 []), (rl 0 10 []), (rl 0 7 []), (rl 0 7 []), (rl 0 7 []), (rl 0 14 []), (rl 0 15 []), (rl 0 16 []), (rl 0 17 []), (rl 0 18 []), (rl 0 19 []), (rl 0 20 [])])) []
  (.ret (rl 0 6 (rl 7 20 [])))))⟩

def D7 {ρ : Type} (fuel : Nat) (x1 : Nat) (x2 : Nat → Nat → CV) (x3 : Nat) (x4 : Nat → Nat → CV) (x5 : Nat) (x6 : Nat → Nat → CV) (x7 : Nat) (x8 : Nat → Nat → CV) (x9 : Int) (k : Bool → Option ρ) : Option ρ :=
  (ob (F12 fuel x1 x2 x3 x4) fun x10 => (bif (x10 == false) then (ob (F12 fuel x5 x6 x7 x8) fun x11 => (bif (x11 == false) then (ob (F27 fuel x1 x2 x3 x4 x5 x6 x7 x8 x9) fun x12 => (ob (F28 fuel x1 x2 x3 x4 x5 x6 x7 x8 x9) fun x13 => (bif ((x12 == x13) == true) then (ob (F15 fuel) fun x14 => (k x14)) else (k false)))) else (ob (F15 fuel) fun x15 => (k x15)))) else (ob (F15 fuel) fun x16 => (k x16))))

def F7 (fuel : Nat) (x1 : Nat) (x2 : Nat → Nat → CV) (x3 : Nat) (x4 : Nat → Nat → CV) (x5 : Nat) (x6 : Nat → Nat → CV) (x7 : Nat) (x8 : Nat → Nat → CV) (x9 : Int) : Option (Bool) := D7 fuel x1 x2 x3 x4 x5 x6 x7 x8 x9 some

theorem n7 {ρ σ : Type} (fuel : Nat) (x1 : Nat) (x2 : Nat → Nat → CV) (x3 : Nat) (x4 : Nat → Nat → CV) (x5 : Nat) (x6 : Nat → Nat → CV) (x7 : Nat) (x8 : Nat → Nat → CV) (x9 : Int) (k : (Bool) → Option ρ) (g : ρ → Option σ) : ob (D7 fuel x1 x2 x3 x4 x5 x6 x7 x8 x9 k) g = D7 fuel x1 x2 x3 x4 x5 x6 x7 x8 x9 fun t => ob (k t) g := by
  simp only [D7, ob_bif, ob_ob, ob_none]

theorem f7 {ρ : Type} (fuel : Nat) (x1 : Nat) (x2 : Nat → Nat → CV) (x3 : Nat) (x4 : Nat → Nat → CV) (x5 : Nat) (x6 : Nat → Nat → CV) (x7 : Nat) (x8 : Nat → Nat → CV) (x9 : Int) (k : (Bool) → Option ρ) : D7 fuel x1 x2 x3 x4 x5 x6 x7 x8 x9 k = ob (F7 fuel x1 x2 x3 x4 x5 x6 x7 x8 x9) k := by
  unfold F7
  rw [n7]
  simp only [ob_some]

theorem walk7 (fuel : Nat) (x1 : Nat) (x2 : Nat → Nat → CV) (x3 : Nat) (x4 : Nat → Nat → CV) (x5 : Nat) (x6 : Nat → Nat → CV) (x7 : Nat) (x8 : Nat → Nat → CV) (x9 : Int) :
    evalF (C73 fuel) fuel A7 [.agg [(.ro false (.pr (.int .i64) (.pr (.int .i64) .nil)) x1 x2), (.ro false (.pr (.sl (.pr (.int .i64) (.pr (.int .i64) .nil))) .nil) x3 x4)], .agg [(.ro false (.pr (.int .i64) (.pr (.int .i64) .nil)) x5 x6), (.ro false (.pr (.sl (.pr (.int .i64) (.pr (.int .i64) .nil))) .nil) x7 x8)], .v (.i .i64 x9)] =
    (ob (F12 fuel x1 x2 x3 x4) fun x10 => (bif (x10 == false) then (ob (F12 fuel x5 x6 x7 x8) fun x11 => (bif (x11 == false) then (ob (F27 fuel x1 x2 x3 x4 x5 x6 x7 x8 x9) fun x12 => (ob (F28 fuel x1 x2 x3 x4 x5 x6 x7 x8 x9) fun x13 => (bif ((x12 == x13) == true) then (ob (F15 fuel) fun x14 => (some [.v (.b x14)])) else (some [.v (.b false)])))) else (ob (F15 fuel) fun x15 => (some [.v (.b x15)])))) else (ob (F15 fuel) fun x16 => (some [.v (.b x16)])))) := by kernel_rfl

theorem e7 (fuel : Nat) (x1 : Nat) (x2 : Nat → Nat → CV) (x3 : Nat) (x4 : Nat → Nat → CV) (x5 : Nat) (x6 : Nat → Nat → CV) (x7 : Nat) (x8 : Nat → Nat → CV) (x9 : Int) : evalF (C73 fuel) fuel A7 [.agg [(.ro false (.pr (.int .i64) (.pr (.int .i64) .nil)) x1 x2), (.ro false (.pr (.sl (.pr (.int .i64) (.pr (.int .i64) .nil))) .nil) x3 x4)], .agg [(.ro false (.pr (.int .i64) (.pr (.int .i64) .nil)) x5 x6), (.ro false (.pr (.sl (.pr (.int .i64) (.pr (.int .i64) .nil))) .nil) x7 x8)], .v (.i .i64 x9)] = ob (F7 fuel x1 x2 x3 x4 x5 x6 x7 x8 x9) fun t => some [.v (.b t)] := by
  rw [walk7, ← f7]
  simp only [D7]

def O7 (fuel : Nat) : Ora where
  o := fun args {ρ} K =>
    wc args fun a1 l2 =>
    wagg a1 fun l3 =>
    wc l3 fun c4 l5 =>
    wL (.pr (.int .i64) (.pr (.int .i64) .nil)) c4 fun y6 y7 =>
    wc l5 fun c9 l10 =>
    wL (.pr (.sl (.pr (.int .i64) (.pr (.int .i64) .nil))) .nil) c9 fun y11 y12 =>
    wn l10 <|
    wc l2 fun a14 l15 =>
    wagg a14 fun l16 =>
    wc l16 fun c17 l18 =>
    wL (.pr (.int .i64) (.pr (.int .i64) .nil)) c17 fun y19 y20 =>
    wc l18 fun c22 l23 =>
    wL (.pr (.sl (.pr (.int .i64) (.pr (.int .i64) .nil))) .nil) c22 fun y24 y25 =>
    wn l23 <|
    wc l15 fun a27 l28 =>
    wv a27 fun c29 =>
    wI .i64 c29 fun y30 =>
    wn l28 <|
    (ob (F7 fuel y6 y7 y11 y12 y19 y20 y24 y25 y30) fun t => K [.v (.b t)])
  nat := fun args {ρ} K => by
    simp only [bind_wc, bind_wn, bind_wv, bind_wagg, bind_wI, bind_wB, bind_wS, bind_wL, bind_wP, bind_wFn, bind_ob, Option.bind_some]

theorem d7 {P : Program} (fuel : Nat) (hmix : P.follows .mixedOrders = true) (hC : Sound P (C73 fuel)) (hF : FFits P 7 A7) (args res : List A) (h : (O7 fuel).o args some = some res) : Den P 7 args res := by
  obtain ⟨a1, l2, rfl, z0⟩ := inv_wc h
  obtain ⟨l3, rfl, z1⟩ := inv_wagg z0
  obtain ⟨c4, l5, rfl, z2⟩ := inv_wc z1
  obtain ⟨y6, y7, h8, z3⟩ := inv_wL z2
  obtain ⟨c9, l10, rfl, z4⟩ := inv_wc z3
  obtain ⟨y11, y12, h13, z5⟩ := inv_wL z4
  obtain ⟨hn, z6⟩ := inv_wn z5
  cases hn
  obtain ⟨a14, l15, rfl, z7⟩ := inv_wc z6
  obtain ⟨l16, rfl, z8⟩ := inv_wagg z7
  obtain ⟨c17, l18, rfl, z9⟩ := inv_wc z8
  obtain ⟨y19, y20, h21, z10⟩ := inv_wL z9
  obtain ⟨c22, l23, rfl, z11⟩ := inv_wc z10
  obtain ⟨y24, y25, h26, z12⟩ := inv_wL z11
  obtain ⟨hn, z13⟩ := inv_wn z12
  cases hn
  obtain ⟨a27, l28, rfl, z14⟩ := inv_wc z13
  obtain ⟨c29, rfl, z15⟩ := inv_wv z14
  obtain ⟨y30, h31, z16⟩ := inv_wI z15
  obtain ⟨hn, z17⟩ := inv_wn z16
  cases hn
  exact Den.weaken (.cons (WkA.agg (.cons h8 (.cons h13 .nil))) (.cons (WkA.agg (.cons h21 (.cons h26 .nil))) (.cons (WkA.v (Wk.i h31)) .nil))) (evalF_sound hmix hC hF ((e7 fuel y6 y7 y11 y12 y19 y20 y24 y25 y30).trans z17))

def C74 (fuel : Nat) : Oracle := (C73 fuel).add 7 (fun _ => true) (O7 fuel)

end Go.Eng.R13
