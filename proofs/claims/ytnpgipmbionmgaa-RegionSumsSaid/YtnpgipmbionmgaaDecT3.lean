/-
  The functions of the program, run on symbols; printed by decomp.py.
-/
import Derived.Test.YtnpgipmbionmgaaDecT2
set_option linter.all false
set_option maxRecDepth 1000000
set_option maxHeartbeats 4000000
namespace Go.Eng.R13
open Go Go.RowKit Go.Eng
/-- shipyard/shipyardlaw13.alive -/
def A15v1 : AC := (.seq (.region 7 [o1 54 (.load 25 (some 2) (tm 1)), o1 55 (.build 34 [.c (.i .i64 0), .c (.i .i64 0)] [(0, 1), (1, 1)] 0 [(0, (ic 3)), (1, (ic 3))]), o1 56 (.call 22 [(tm 54), (tm 55)] [25, 34] .snap), o1 57 (.binOp .eql 3 (tm 56) (ic (-1)) 3), mv 58 57, og 59 (.load 25 (some 2) (tm 1)) 58 true, og 60 (.build 34 [.c (.i .i64 0), .c (.i .i64 0)] [(0, 1), (1, 1)] 0 [(0, (ic 2)), (1, (ic 3))]) 58 true, og 61 (.call 22 [(tm 59), (tm 60)] [25, 34] .snap) 58 true, og 62 (.binOp .eql 3 (tm 61) (ic 0) 3) 58 true, o1 63 (.pick (tm 58) (tm 62) (.const (.bool false))), mv 64 63, og 65 (.load 25 (some 2) (tm 1)) 64 true, og 66 (.build 34 [.c (.i .i64 0), .c (.i .i64 0)] [(0, 1), (1, 1)] 0 [(0, (ic 1)), (1, (ic 1))]) 64 true, og 67 (.call 22 [(tm 65), (tm 66)] [25, 34] .snap) 64 true, og 68 (.binOp .eql 3 (tm 67) (ic 1) 3) 64 true, o1 69 (.pick (tm 64) (tm 68) (.const (.bool false))), mv 70 69, og 71 (.load 25 (some 2) (tm 2)) 70 true, og 72 (.load 25 (some 2) (tm 3)) 70 true, og 73 (.call 27 [(tm 71), (tm 72), (ic 5)] [25, 25, 3] .snap) 70 true, o1 74 (.pick (tm 70) (tm 73) (.const (.bool false))), mv 75 74, og 76 (.load 25 (some 2) (tm 2)) 75 true, og 77 (.load 25 (some 2) (tm 3)) 75 true, og 78 (.call 27 [(tm 76), (tm 77), (ic 6)] [25, 25, 3] .snap) 75 true, og 79 (.unOp .not 4 (tm 78)) 75 true, o1 80 (.pick (tm 75) (tm 79) (.const (.bool false))), mv 81 80, og 82 (.load 25 (some 2) (tm 2)) 81 true, og 83 (.call 29 [(tm 82), (ic 12), (ic 13), (ic 0)] [25, 3, 3, 3] .snap) 81 true, o1 84 (.pick (tm 81) (tm 83) (.const (.bool false))), mv 85 84, og 86 (.load 25 (some 2) (tm 2)) 85 true, og 87 (.call 29 [(tm 86), (ic 12), (ic 13), (ic 1)] [25, 3, 3, 3] .snap) 85 true, og 88 (.unOp .not 4 (tm 87)) 85 true, o1 89 (.pick (tm 85) (tm 88) (.const (.bool false))), mv 90 89, og 91 (.load 25 (some 2) (tm 3)) 90 true, og 92 (.call 20 [(tm 91)] [25] .snap) 90 true, og 93 (.build 34 [.c (.i .i64 0), .c (.i .i64 0)] [(0, 1), (1, 1)] 0 [(0, (ic 15))]) 90 true, og 94 (.build 34 [.c (.i .i64 0), .c (.i .i64 0)] [(0, 1), (1, 1)] 0 [(0, (ic 20)), (1, (ic 5))]) 90 true, og 95 (.build 36 [.c (.i .i64 0), .c (.i .i64 0), .c (.i .i64 0), .c (.i .i64 0)] [(0, 2), (2, 2)] 0 [(0, (tm 93)), (1, (tm 94))]) 90 true, og 96 (.eqA false (.pr (.int .i64) (.pr (.int .i64) (.pr (.int .i64) (.pr (.int .i64) .nil)))) 36 (tm 92) (tm 95) 36) 90 true, o1 97 (.pick (tm 90) (tm 96) (.const (.bool false))), o1 0 (.assign (tm 97))] 0 none) []
  (.ret (rl 1 97 [])))
def A15 : AF := ⟨98, [.tmp 0],
  (.seq (.region 0 [o1 0 (.assign (.const (.bool false)))] 0 none) []
  (.seq (.region 1 [o1 7 (.call 41 [(ic 0), (ic 0), (ic 10)] [3, 3, 3] .freeze), o1 8 (.build 34 [.c (.i .i64 0), .c (.i .i64 0)] [(0, 1), (1, 1)] 0 [(0, (ic 2)), (1, (ic 2))]), o1 9 (.build 34 [.c (.i .i64 0), .c (.i .i64 0)] [(0, 1), (1, 1)] 0 [(0, (ic 2)), (1, (ic 4))]), o1 10 (.build 34 [.c (.i .i64 0), .c (.i .i64 0)] [(0, 1), (1, 1)] 0 [(0, (ic 4)), (1, (ic 4))]), o1 11 (.build 34 [.c (.i .i64 0), .c (.i .i64 0)] [(0, 1), (1, 1)] 0 [(0, (ic 4)), (1, (ic 2))]), o1 12 (.buildSlice 0 22 34 (.pr (.int .i64) (.pr (.int .i64) .nil)) 4 [.c (.i .i64 0), .c (.i .i64 0)] [(0, (tm 8)), (1, (tm 9)), (2, (tm 10)), (3, (tm 11))]), o1 13 (.buildSlice 1 23 22 (.pr (.sl (.pr (.int .i64) (.pr (.int .i64) .nil))) .nil) 1 [.c (.ro true .nil 0 (fun _ _ => .any))] [(0, (tm 12))]), o1 14 (.build 25 [.c (.ro true .nil 0 (fun _ _ => .any)), .c (.ro true .nil 0 (fun _ _ => .any))] [(0, 1), (1, 1)] 0 [(0, (tm 7)), (1, (tm 13))]), o1 1 (.alloc 2 25 [.c (.ro true .nil 0 (fun _ _ => .any)), .c (.ro true .nil 0 (fun _ _ => .any))]), o0 (.store 25 2 (tm 1) (tm 14))] 3 none) []
  (.seq (.region 2 [o1 15 (.call 41 [(ic 0), (ic 0), (ic 10)] [3, 3, 3] .freeze), o1 16 (.build 25 [.c (.ro true .nil 0 (fun _ _ => .any)), .c (.ro true .nil 0 (fun _ _ => .any))] [(0, 1), (1, 1)] 0 [(0, (tm 15))]), o1 17 (.call 41 [(ic 15), (ic 0), (ic 5)] [3, 3, 3] .freeze), o1 18 (.build 25 [.c (.ro true .nil 0 (fun _ _ => .any)), .c (.ro true .nil 0 (fun _ _ => .any))] [(0, 1), (1, 1)] 0 [(0, (tm 17))]), o1 2 (.alloc 0 25 [.c (.ro true .nil 0 (fun _ _ => .any)), .c (.ro true .nil 0 (fun _ _ => .any))]), o1 3 (.alloc 1 25 [.c (.ro true .nil 0 (fun _ _ => .any)), .c (.ro true .nil 0 (fun _ _ => .any))]), o0 (.store 25 2 (tm 2) (tm 16)), o0 (.store 25 2 (tm 3) (tm 18))] 2 none) []
  (.seq (.region 3 [o1 19 (.build 34 [.c (.i .i64 0), .c (.i .i64 0)] [(0, 1), (1, 1)] 0 [(0, (ic 3)), (1, (ic 1))]), o1 20 (.buildSlice 0 22 34 (.pr (.int .i64) (.pr (.int .i64) .nil)) 1 [.c (.i .i64 0), .c (.i .i64 0)] [(0, (tm 19))]), o1 21 (.build 25 [.c (.ro true .nil 0 (fun _ _ => .any)), .c (.ro true .nil 0 (fun _ _ => .any))] [(0, 1), (1, 1)] 0 [(0, (tm 20))]), o1 22 (.build 34 [.c (.i .i64 0), .c (.i .i64 0)] [(0, 1), (1, 1)] 0 [(0, (ic 10))]), o1 23 (.build 41 [.c (.s ByteArray.empty), .c (.i .i64 0), .c (.i .i64 0), .c (.i .i64 0), .c (.b false)] [(0, 1), (1, 2), (3, 1), (4, 1)] 0 [(1, (tm 22)), (2, (ic 1)), (3, (.const (.bool true)))]), o1 24 (.call 25 [(tm 21), (tm 23)] [25, 41] .freeze), o1 4 (.alloc 1 25 [.c (.ro true .nil 0 (fun _ _ => .any)), .c (.ro true .nil 0 (fun _ _ => .any))]), o0 (.store 25 2 (tm 4) (tm 24))] 2 none) []
  (.seq (.region 4 [o1 26 (.load 25 (some 2) (tm 2)), o1 27 (.call 16 [(tm 26)] [25] .snap), mv 25 27, o1 28 (.extract (tm 25) 0), o1 29 (.extract (tm 25) 1), o1 5 (.assign (tm 28)), o1 6 (.assign (tm 29))] 0 none) []
  (.seq (.seq (.region 5 [o1 30 (.load 25 (some 2) (tm 1)), o1 31 (.call 13 [(tm 30)] [25] .snap), o1 32 (.binOp .neq 27 (tm 31) (ic 0) 27), mv 33 32, og 34 (.load 25 (some 2) (tm 1)) 33 false, og 35 (.call 18 [(tm 34)] [25] .snap) 33 false, og 36 (.binOp .neq 3 (tm 35) (ic 192) 3) 33 false, o1 37 (.pick (tm 33) (.const (.bool true)) (tm 36)), mv 38 37, og 39 (.move (tm 5)) 38 false, og 40 (.binOp .neq 3 (tm 39) (ic 3000) 3) 38 false, o1 41 (.pick (tm 38) (.const (.bool true)) (tm 40)), mv 42 41, og 43 (.move (tm 6)) 42 false, og 44 (.binOp .neq 3 (tm 43) (ic 3000) 3) 42 false, o1 45 (.pick (tm 42) (.const (.bool true)) (tm 44)), mv 46 45, og 47 (.load 25 (some 2) (tm 4)) 46 false, og 48 (.build 34 [.c (.i .i64 0), .c (.i .i64 0)] [(0, 1), (1, 1)] 0 [(0, (ic 9)), (1, (ic (-3)))]) 46 false, og 49 (.buildSlice 0 22 34 (.pr (.int .i64) (.pr (.int .i64) .nil)) 1 [.c (.i .i64 0), .c (.i .i64 0)] [(0, (tm 48))]) 46 false, og 50 (.build 25 [.c (.ro true .nil 0 (fun _ _ => .any)), .c (.ro true .nil 0 (fun _ _ => .any))] [(0, 1), (1, 1)] 0 [(0, (tm 49))]) 46 false, og 51 (.call 24 [(tm 47), (tm 50)] [25, 25] .snap) 46 false, og 52 (.unOp .not 4 (tm 51)) 46 false, o1 53 (.pick (tm 46) (.const (.bool true)) (tm 52))] 1 none) []
  (.cond (tm 53)
  (.seq (.region 6 [o1 0 (.assign (.const (.bool false)))] 0 none) []
    (.ret (rl 1 97 [])))
  .skip)) (0 :: (rl 30 24 []))
  A15v1))))))⟩

def D15 {ρ : Type} (fuel : Nat) (k : Bool → Option ρ) : Option ρ :=
  (ob (F41 fuel 0 0 10) fun x1 => (ob (F41 fuel 0 0 10) fun x2 => (ob (F41 fuel 15 0 5) fun x3 => (ob (F25 fuel 1 (rowsF 2 [(.i .i64 3), (.i .i64 1)]) 0 (fun _ _ => .any) ByteArray.empty 10 0 1 true) fun x4 => (ob (F16 fuel x2.1 x2.2 0 (fun _ _ => .any)) fun x5 => (ob (F13 fuel x1.1 x1.2 1 (rowsF 1 [(.ro false (.pr (.int .i64) (.pr (.int .i64) .nil)) 4 (rowsF 2 [(.i .i64 2), (.i .i64 2), (.i .i64 2), (.i .i64 4), (.i .i64 4), (.i .i64 4), (.i .i64 4), (.i .i64 2)]))])) fun x6 => (bif ((x6 != 0) == false) then (ob (F18 fuel x1.1 x1.2 1 (rowsF 1 [(.ro false (.pr (.int .i64) (.pr (.int .i64) .nil)) 4 (rowsF 2 [(.i .i64 2), (.i .i64 2), (.i .i64 2), (.i .i64 4), (.i .i64 4), (.i .i64 4), (.i .i64 4), (.i .i64 2)]))])) fun x7 => (bif ((x7 != 192) == false) then (bif ((x5.1 != 3000) == false) then (bif ((x5.2 != 3000) == false) then (ob (F24 fuel x4.1 x4.2.1 x4.2.2.1 x4.2.2.2 1 (rowsF 2 [(.i .i64 9), (.i .i64 (-3))]) 0 (fun _ _ => .any)) fun x8 => (bif (!x8) then (k false) else (ob (F22 fuel x1.1 x1.2 1 (rowsF 1 [(.ro false (.pr (.int .i64) (.pr (.int .i64) .nil)) 4 (rowsF 2 [(.i .i64 2), (.i .i64 2), (.i .i64 2), (.i .i64 4), (.i .i64 4), (.i .i64 4), (.i .i64 4), (.i .i64 2)]))]) 3 3) fun x9 => (bif ((x9 == (-1)) == true) then (ob (F22 fuel x1.1 x1.2 1 (rowsF 1 [(.ro false (.pr (.int .i64) (.pr (.int .i64) .nil)) 4 (rowsF 2 [(.i .i64 2), (.i .i64 2), (.i .i64 2), (.i .i64 4), (.i .i64 4), (.i .i64 4), (.i .i64 4), (.i .i64 2)]))]) 2 3) fun x10 => (bif ((x10 == 0) == true) then (ob (F22 fuel x1.1 x1.2 1 (rowsF 1 [(.ro false (.pr (.int .i64) (.pr (.int .i64) .nil)) 4 (rowsF 2 [(.i .i64 2), (.i .i64 2), (.i .i64 2), (.i .i64 4), (.i .i64 4), (.i .i64 4), (.i .i64 4), (.i .i64 2)]))]) 1 1) fun x11 => (bif ((x11 == 1) == true) then (ob (F27 fuel x2.1 x2.2 0 (fun _ _ => .any) x3.1 x3.2 0 (fun _ _ => .any) 5) fun x12 => (bif (x12 == true) then (ob (F27 fuel x2.1 x2.2 0 (fun _ _ => .any) x3.1 x3.2 0 (fun _ _ => .any) 6) fun x13 => (bif ((!x13) == true) then (ob (F29 fuel x2.1 x2.2 0 (fun _ _ => .any) 12 13 0) fun x14 => (bif (x14 == true) then (ob (F29 fuel x2.1 x2.2 0 (fun _ _ => .any) 12 13 1) fun x15 => (bif ((!x15) == true) then (ob (F20 fuel x3.1 x3.2 0 (fun _ _ => .any)) fun x16 => (k ((x16.1 == 15) && ((x16.2.1 == 0) && ((x16.2.2.1 == 20) && ((x16.2.2.2 == 5) && true)))))) else (k false))) else (k false))) else (k false))) else (k false))) else (k false))) else (k false))) else (k false))))) else (k false)) else (k false)) else (k false))) else (k false))))))))

def F15 (fuel : Nat) : Option (Bool) := D15 fuel some

theorem n15 {ρ σ : Type} (fuel : Nat) (k : (Bool) → Option ρ) (g : ρ → Option σ) : ob (D15 fuel k) g = D15 fuel fun t => ob (k t) g := by
  simp only [D15, ob_bif, ob_ob, ob_none]

theorem f15 {ρ : Type} (fuel : Nat) (k : (Bool) → Option ρ) : D15 fuel k = ob (F15 fuel) k := by
  unfold F15
  rw [n15]
  simp only [ob_some]

theorem walk15 (fuel : Nat) :
    evalF (C67 fuel) fuel A15 [] =
    (ob (F41 fuel 0 0 10) fun x1 => (ob (F41 fuel 0 0 10) fun x2 => (ob (F41 fuel 15 0 5) fun x3 => (ob (F25 fuel 1 (rowsF 2 [(.i .i64 3), (.i .i64 1)]) 0 (fun _ _ => .any) ByteArray.empty 10 0 1 true) fun x4 => (ob (F16 fuel x2.1 x2.2 0 (fun _ _ => .any)) fun x5 => (ob (F13 fuel x1.1 x1.2 1 (rowsF 1 [(.ro false (.pr (.int .i64) (.pr (.int .i64) .nil)) 4 (rowsF 2 [(.i .i64 2), (.i .i64 2), (.i .i64 2), (.i .i64 4), (.i .i64 4), (.i .i64 4), (.i .i64 4), (.i .i64 2)]))])) fun x6 => (bif ((x6 != 0) == false) then (ob (F18 fuel x1.1 x1.2 1 (rowsF 1 [(.ro false (.pr (.int .i64) (.pr (.int .i64) .nil)) 4 (rowsF 2 [(.i .i64 2), (.i .i64 2), (.i .i64 2), (.i .i64 4), (.i .i64 4), (.i .i64 4), (.i .i64 4), (.i .i64 2)]))])) fun x7 => (bif ((x7 != 192) == false) then (bif ((x5.1 != 3000) == false) then (bif ((x5.2 != 3000) == false) then (ob (F24 fuel x4.1 x4.2.1 x4.2.2.1 x4.2.2.2 1 (rowsF 2 [(.i .i64 9), (.i .i64 (-3))]) 0 (fun _ _ => .any)) fun x8 => (bif (!x8) then (some [.v (.b false)]) else (ob (F22 fuel x1.1 x1.2 1 (rowsF 1 [(.ro false (.pr (.int .i64) (.pr (.int .i64) .nil)) 4 (rowsF 2 [(.i .i64 2), (.i .i64 2), (.i .i64 2), (.i .i64 4), (.i .i64 4), (.i .i64 4), (.i .i64 4), (.i .i64 2)]))]) 3 3) fun x9 => (bif ((x9 == (-1)) == true) then (ob (F22 fuel x1.1 x1.2 1 (rowsF 1 [(.ro false (.pr (.int .i64) (.pr (.int .i64) .nil)) 4 (rowsF 2 [(.i .i64 2), (.i .i64 2), (.i .i64 2), (.i .i64 4), (.i .i64 4), (.i .i64 4), (.i .i64 4), (.i .i64 2)]))]) 2 3) fun x10 => (bif ((x10 == 0) == true) then (ob (F22 fuel x1.1 x1.2 1 (rowsF 1 [(.ro false (.pr (.int .i64) (.pr (.int .i64) .nil)) 4 (rowsF 2 [(.i .i64 2), (.i .i64 2), (.i .i64 2), (.i .i64 4), (.i .i64 4), (.i .i64 4), (.i .i64 4), (.i .i64 2)]))]) 1 1) fun x11 => (bif ((x11 == 1) == true) then (ob (F27 fuel x2.1 x2.2 0 (fun _ _ => .any) x3.1 x3.2 0 (fun _ _ => .any) 5) fun x12 => (bif (x12 == true) then (ob (F27 fuel x2.1 x2.2 0 (fun _ _ => .any) x3.1 x3.2 0 (fun _ _ => .any) 6) fun x13 => (bif ((!x13) == true) then (ob (F29 fuel x2.1 x2.2 0 (fun _ _ => .any) 12 13 0) fun x14 => (bif (x14 == true) then (ob (F29 fuel x2.1 x2.2 0 (fun _ _ => .any) 12 13 1) fun x15 => (bif ((!x15) == true) then (ob (F20 fuel x3.1 x3.2 0 (fun _ _ => .any)) fun x16 => (some [.v (.b ((x16.1 == 15) && ((x16.2.1 == 0) && ((x16.2.2.1 == 20) && ((x16.2.2.2 == 5) && true)))))])) else (some [.v (.b false)]))) else (some [.v (.b false)]))) else (some [.v (.b false)]))) else (some [.v (.b false)]))) else (some [.v (.b false)]))) else (some [.v (.b false)]))) else (some [.v (.b false)]))))) else (some [.v (.b false)])) else (some [.v (.b false)])) else (some [.v (.b false)]))) else (some [.v (.b false)])))))))) := by kernel_rfl

theorem e15 (fuel : Nat) : evalF (C67 fuel) fuel A15 [] = ob (F15 fuel) fun t => some [.v (.b t)] := by
  rw [walk15, ← f15]
  simp only [D15]

def O15 (fuel : Nat) : Ora where
  o := fun args {ρ} K =>
    wn args <|
    (ob (F15 fuel) fun t => K [.v (.b t)])
  nat := fun args {ρ} K => by
    simp only [bind_wc, bind_wn, bind_wv, bind_wagg, bind_wI, bind_wB, bind_wS, bind_wL, bind_wP, bind_wFn, bind_ob, Option.bind_some]

theorem d15 {P : Program} (fuel : Nat) (hmix : P.follows .mixedOrders = true) (hC : Sound P (C67 fuel)) (hF : FFits P 15 A15) (args res : List A) (h : (O15 fuel).o args some = some res) : Den P 15 args res := by
  obtain ⟨hn, z0⟩ := inv_wn h
  cases hn
  exact Den.weaken .nil (evalF_sound hmix hC hF ((e15 fuel).trans z0))

def C68 (fuel : Nat) : Oracle := (C67 fuel).add 15 (fun _ => true) (O15 fuel)

/-- shipyard/shipyardref13.contours -/
def A44 : AF := ⟨9, [.tmp 2],
  (.seq (.region 0 [o1 1 (.box 0 25 (tm 0)), o1 2 (.assign (.const (.slice none 0 0)))] 1 none) []
  (.seq (.region 1 [o1 3 (.fieldAddr 25 (tm 1) 0 0), o1 4 (.load 22 none (tm 3)), o1 5 (.buildSlice 0 23 22 (.pr (.sl (.pr (.int .i64) (.pr (.int .i64) .nil))) .nil) 1 [.c (.ro true .nil 0 (fun _ _ => .any))] [(0, (tm 4))]), o1 6 (.fieldAddr 25 (tm 1) 1 1), o1 7 (.load 23 none (tm 6)), o1 8 (.append 1 23 22 (.pr (.sl (.pr (.int .i64) (.pr (.int .i64) .nil))) .nil) 24 (tm 5) (tm 7)), o1 2 (.assign (tm 8))] 2 none) []
  (.ret (0 :: 1 :: (rl 3 6 [])))))⟩

def D44 {ρ : Type} (fuel : Nat) (x1 : Nat) (x2 : Nat → Nat → CV) (x3 : Nat) (x4 : Nat → Nat → CV) (k : (Nat × (Nat → Nat → CV)) → Option ρ) : Option ρ :=
  (bif (Nat.ble (1 + x3) 1073741824) then (k ((1 + x3), (joinF 1 (rowsF 1 [(.ro false (.pr (.int .i64) (.pr (.int .i64) .nil)) x1 x2)]) x4))) else none)

def F44 (fuel : Nat) (x1 : Nat) (x2 : Nat → Nat → CV) (x3 : Nat) (x4 : Nat → Nat → CV) : Option (Nat × (Nat → Nat → CV)) := D44 fuel x1 x2 x3 x4 some

theorem n44 {ρ σ : Type} (fuel : Nat) (x1 : Nat) (x2 : Nat → Nat → CV) (x3 : Nat) (x4 : Nat → Nat → CV) (k : (Nat × (Nat → Nat → CV)) → Option ρ) (g : ρ → Option σ) : ob (D44 fuel x1 x2 x3 x4 k) g = D44 fuel x1 x2 x3 x4 fun t => ob (k t) g := by
  simp only [D44, ob_bif, ob_ob, ob_none]

theorem f44 {ρ : Type} (fuel : Nat) (x1 : Nat) (x2 : Nat → Nat → CV) (x3 : Nat) (x4 : Nat → Nat → CV) (k : (Nat × (Nat → Nat → CV)) → Option ρ) : D44 fuel x1 x2 x3 x4 k = ob (F44 fuel x1 x2 x3 x4) k := by
  unfold F44
  rw [n44]
  simp only [ob_some]

theorem walk44 (fuel : Nat) (x1 : Nat) (x2 : Nat → Nat → CV) (x3 : Nat) (x4 : Nat → Nat → CV) :
    evalF (C68 fuel) fuel A44 [.agg [(.ro false (.pr (.int .i64) (.pr (.int .i64) .nil)) x1 x2), (.ro false (.pr (.sl (.pr (.int .i64) (.pr (.int .i64) .nil))) .nil) x3 x4)]] =
    (bif (Nat.ble (1 + x3) 1073741824) then (some [.v (.ro false (.pr (.sl (.pr (.int .i64) (.pr (.int .i64) .nil))) .nil) (1 + x3) (joinF 1 (rowsF 1 [(.ro false (.pr (.int .i64) (.pr (.int .i64) .nil)) x1 x2)]) x4))]) else none) := by kernel_rfl

theorem e44 (fuel : Nat) (x1 : Nat) (x2 : Nat → Nat → CV) (x3 : Nat) (x4 : Nat → Nat → CV) : evalF (C68 fuel) fuel A44 [.agg [(.ro false (.pr (.int .i64) (.pr (.int .i64) .nil)) x1 x2), (.ro false (.pr (.sl (.pr (.int .i64) (.pr (.int .i64) .nil))) .nil) x3 x4)]] = ob (F44 fuel x1 x2 x3 x4) fun t => some [.v (.ro false (.pr (.sl (.pr (.int .i64) (.pr (.int .i64) .nil))) .nil) t.1 t.2)] := by
  rw [walk44, ← f44]
  simp only [D44]

def O44 (fuel : Nat) : Ora where
  o := fun args {ρ} K =>
    wc args fun a1 l2 =>
    wagg a1 fun l3 =>
    wc l3 fun c4 l5 =>
    wL (.pr (.int .i64) (.pr (.int .i64) .nil)) c4 fun y6 y7 =>
    wc l5 fun c9 l10 =>
    wL (.pr (.sl (.pr (.int .i64) (.pr (.int .i64) .nil))) .nil) c9 fun y11 y12 =>
    wn l10 <|
    wn l2 <|
    (ob (F44 fuel y6 y7 y11 y12) fun t => K [.v (.ro false (.pr (.sl (.pr (.int .i64) (.pr (.int .i64) .nil))) .nil) t.1 t.2)])
  nat := fun args {ρ} K => by
    simp only [bind_wc, bind_wn, bind_wv, bind_wagg, bind_wI, bind_wB, bind_wS, bind_wL, bind_wP, bind_wFn, bind_ob, Option.bind_some]

theorem d44 {P : Program} (fuel : Nat) (hmix : P.follows .mixedOrders = true) (hC : Sound P (C68 fuel)) (hF : FFits P 44 A44) (args res : List A) (h : (O44 fuel).o args some = some res) : Den P 44 args res := by
  obtain ⟨a1, l2, rfl, z0⟩ := inv_wc h
  obtain ⟨l3, rfl, z1⟩ := inv_wagg z0
  obtain ⟨c4, l5, rfl, z2⟩ := inv_wc z1
  obtain ⟨y6, y7, h8, z3⟩ := inv_wL z2
  obtain ⟨c9, l10, rfl, z4⟩ := inv_wc z3
  obtain ⟨y11, y12, h13, z5⟩ := inv_wL z4
  obtain ⟨hn, z6⟩ := inv_wn z5
  cases hn
  obtain ⟨hn, z7⟩ := inv_wn z6
  cases hn
  exact Den.weaken (.cons (WkA.agg (.cons h8 (.cons h13 .nil))) .nil) (evalF_sound hmix hC hF ((e44 fuel y6 y7 y11 y12).trans z7))

def C69 (fuel : Nat) : Oracle := (C68 fuel).add 44 (fun _ => true) (O44 fuel)

/-- shipyard/shipyardref12.Moment6 -/
def A45v1 : AC := (.seq (.block 1
  (.seq (.region 7 [mv 19 0, mv 20 6, o1 21 (.indexAddr 22 34 2 (tm 19) (tm 20)), o1 22 (.load 34 (some 2) (tm 21)), mv 23 0, mv 24 6, o1 25 (.binOp .add 3 (tm 24) (ic 1) 3), mv 26 0, o1 27 (.len 22 false (tm 26)), o1 28 (.binOp .rem 3 (tm 25) (tm 27) 3), o1 29 (.indexAddr 22 34 2 (tm 23) (tm 28)), o1 30 (.load 34 (some 2) (tm 29)), o1 7 (.alloc 0 34 [.c (.i .i64 0), .c (.i .i64 0)]), o1 8 (.alloc 1 34 [.c (.i .i64 0), .c (.i .i64 0)]), o0 (.store 34 2 (tm 7) (tm 22)), o0 (.store 34 2 (tm 8) (tm 30))] 2 (some [[], [], [0, 1], [0, 1, 2], [], [], [5], [], [7], (rl 5 4 []), (rl 4 6 []), (rl 4 7 []), [], [], (rl 0 4 [12, 13]), (rl 0 15 [])])) []
    (.seq (.region 8 [o1 31 (.fieldAddr 34 (tm 7) 0 0), o1 32 (.load 3 none (tm 31)), o1 33 (.fieldAddr 34 (tm 8) 1 1), o1 34 (.load 3 none (tm 33)), o1 35 (.binOp .mul 3 (tm 32) (tm 34) 3), o1 36 (.fieldAddr 34 (tm 7) 1 1), o1 37 (.load 3 none (tm 36)), o1 38 (.fieldAddr 34 (tm 8) 0 0), o1 39 (.load 3 none (tm 38)), o1 40 (.binOp .mul 3 (tm 37) (tm 39) 3), o1 41 (.binOp .sub 3 (tm 35) (tm 40) 3), o1 9 (.assign (tm 41))] 0 none) []
    (.seq (.region 9 [mv 42 4, o1 43 (.fieldAddr 34 (tm 7) 0 0), o1 44 (.load 3 none (tm 43)), o1 45 (.fieldAddr 34 (tm 8) 0 0), o1 46 (.load 3 none (tm 45)), o1 47 (.binOp .add 3 (tm 44) (tm 46) 3), mv 48 9, o1 49 (.binOp .mul 3 (tm 47) (tm 48) 3), o1 50 (.binOp .add 3 (tm 42) (tm 49) 3), o1 4 (.assign (tm 50))] 0 none) []
    (.region 10 [mv 51 5, o1 52 (.fieldAddr 34 (tm 7) 1 1), o1 53 (.load 3 none (tm 52)), o1 54 (.fieldAddr 34 (tm 8) 1 1), o1 55 (.load 3 none (tm 54)), o1 56 (.binOp .add 3 (tm 53) (tm 55) 3), mv 57 9, o1 58 (.binOp .mul 3 (tm 56) (tm 57) 3), o1 59 (.binOp .add 3 (tm 51) (tm 58) 3), o1 5 (.assign (tm 59))] 0 none))))) []
  (.region 6 [mv 17 6, o1 18 (.binOp .add 3 (tm 17) (ic 1) 3), o1 6 (.assign (tm 18))] 0 none))
def A45v2 : AC := (.seq (.seq (.region 5 [mv 13 6, mv 14 0, o1 15 (.len 22 false (tm 14)), o1 16 (.binOp .lss 3 (tm 13) (tm 15) 3)] 0 none) []
  (.cond (tm 16)
  .skip
  (.exit 0 (rl 0 4 (rl 6 56 []))))) (rl 13 4 [])
  A45v1)
def A45v3 : AC := (.seq (.region 11 [mv 60 4, mv 61 5, o1 2 (.assign (tm 60)), o1 3 (.assign (tm 61))] 0 none) []
  (.ret (0 :: 1 :: (rl 4 58 []))))
def A45v4 : AC := (.seq (.region 3 [o1 4 (.assign (ic 0)), o1 5 (.assign (ic 0))] 0 none) []
  (.seq (.seq (.region 4 [o1 6 (.assign (ic 0))] 0 none) []
  (.block 0
  (.loop [] (1 :: 2 :: 3 :: (rl 7 55 []))
    A45v2))) (rl 6 4 (rl 13 47 []))
  A45v3))
def A45 : AF := ⟨62, [.tmp 2, .tmp 3],
  (.seq (.region 0 [o1 2 (.assign (ic 0)), o1 3 (.assign (ic 0))] 0 none) []
  (.seq (.seq (.region 1 [mv 10 0, o1 11 (.call 37 [(tm 10)] [22] .snap), o1 12 (.binOp .neq 27 (tm 11) (ic 0) 27)] 0 none) []
  (.cond (tm 12)
  (.seq (.region 2 [o1 2 (.assign (ic 0)), o1 3 (.assign (ic 0))] 0 none) []
    (.ret (0 :: 1 :: (rl 4 58 []))))
  .skip)) [2, 3, 10, 11, 12]
  A45v4))⟩

def B45v1 (C : Oracle) (fuel : Nat) {ρ : Type} : St → (Ex → St → Option ρ) → Option ρ := fun st k => evalC C fuel A45v2 st k
def N45v1 : St → Option St := fun s => s.norm (1 :: 2 :: 3 :: (rl 7 55 [])) 0

def s45v0 (x6 : Nat) (x7 : Nat → Nat → CV) (x8 : Int) (x9 : Int) (x10 : Int) : St := ⟨(.x (.c (.ro false (.pr (.int .i64) (.pr (.int .i64) .nil)) x6 x7)) :: (us 3 (.x (.c (.i .i64 x8)) :: .x (.c (.i .i64 x9)) :: .x (.c (.i .i64 x10)) :: (us 55 [])))), []⟩

def s45v1 (x11 : Int) (x12 : Int) : St := ⟨(us 4 (.x (.c (.i .i64 x11)) :: .x (.c (.i .i64 x12)) :: (us 56 []))), []⟩

def L45v1 {ρ : Type} (fuel : Nat) (x6 : Nat) (x7 : Nat → Nat → CV) : Nat → Int → Int → Int → (Int → Int → Option ρ) → Option ρ
  | 0, _, _, _, _ => none
  | m + 1, x8, x9, x10, k0 =>
    (bif (decide (x10 < (Int.ofNat x6))) then (bif (inb x10 x6) then (bif ((Int.ofNat x6) == 0) then none else (bif (inb (Int.tmod (w64 (x10 + 1)) (Int.ofNat x6)) x6) then (L45v1 fuel x6 x7 m (w64 (x8 + (w64 ((w64 ((CV.int (x7 (Int.toNat x10) 0)) + (CV.int (x7 (Int.toNat (Int.tmod (w64 (x10 + 1)) (Int.ofNat x6))) 0)))) * (w64 ((w64 ((CV.int (x7 (Int.toNat x10) 0)) * (CV.int (x7 (Int.toNat (Int.tmod (w64 (x10 + 1)) (Int.ofNat x6))) 1)))) - (w64 ((CV.int (x7 (Int.toNat x10) 1)) * (CV.int (x7 (Int.toNat (Int.tmod (w64 (x10 + 1)) (Int.ofNat x6))) 0)))))))))) (w64 (x9 + (w64 ((w64 ((CV.int (x7 (Int.toNat x10) 1)) + (CV.int (x7 (Int.toNat (Int.tmod (w64 (x10 + 1)) (Int.ofNat x6))) 1)))) * (w64 ((w64 ((CV.int (x7 (Int.toNat x10) 0)) * (CV.int (x7 (Int.toNat (Int.tmod (w64 (x10 + 1)) (Int.ofNat x6))) 1)))) - (w64 ((CV.int (x7 (Int.toNat x10) 1)) * (CV.int (x7 (Int.toNat (Int.tmod (w64 (x10 + 1)) (Int.ofNat x6))) 0)))))))))) (w64 (x10 + 1)) k0) else none)) else none) else (k0 x8 x9))

theorem nl45v1 {ρ σ : Type} (fuel : Nat) (x6 : Nat) (x7 : Nat → Nat → CV) (g : ρ → Option σ) : ∀ (m : Nat) (x8 : Int) (x9 : Int) (x10 : Int) (k0 : Int → Int → Option ρ), ob (L45v1 fuel x6 x7 m x8 x9 x10 k0) g = L45v1 fuel x6 x7 m x8 x9 x10 (fun x11 x12 => ob (k0 x11 x12) g)
  | 0, _, _, _, _ => rfl
  | m + 1, x8, x9, x10, k0 => by
    simp only [L45v1, ob_bif, ob_ob, ob_none, nl45v1 fuel x6 x7 g m]

theorem r45v1 (fuel : Nat) (m : Nat) {ρ : Type} (k : Ex → St → Option ρ) (x6 : Nat) (x7 : Nat → Nat → CV) (x8 : Int) (x9 : Int) (x10 : Int) :
    loopH (B45v1 (C69 fuel) fuel) N45v1 (m + 1) (s45v0 x6 x7 x8 x9 x10) k =
    (bif (decide (x10 < (Int.ofNat x6))) then (bif (inb x10 x6) then (bif ((Int.ofNat x6) == 0) then none else (bif (inb (Int.tmod (w64 (x10 + 1)) (Int.ofNat x6)) x6) then (loopH (B45v1 (C69 fuel) fuel) N45v1 m (s45v0 x6 x7 (w64 (x8 + (w64 ((w64 ((CV.int (x7 (Int.toNat x10) 0)) + (CV.int (x7 (Int.toNat (Int.tmod (w64 (x10 + 1)) (Int.ofNat x6))) 0)))) * (w64 ((w64 ((CV.int (x7 (Int.toNat x10) 0)) * (CV.int (x7 (Int.toNat (Int.tmod (w64 (x10 + 1)) (Int.ofNat x6))) 1)))) - (w64 ((CV.int (x7 (Int.toNat x10) 1)) * (CV.int (x7 (Int.toNat (Int.tmod (w64 (x10 + 1)) (Int.ofNat x6))) 0)))))))))) (w64 (x9 + (w64 ((w64 ((CV.int (x7 (Int.toNat x10) 1)) + (CV.int (x7 (Int.toNat (Int.tmod (w64 (x10 + 1)) (Int.ofNat x6))) 1)))) * (w64 ((w64 ((CV.int (x7 (Int.toNat x10) 0)) * (CV.int (x7 (Int.toNat (Int.tmod (w64 (x10 + 1)) (Int.ofNat x6))) 1)))) - (w64 ((CV.int (x7 (Int.toNat x10) 1)) * (CV.int (x7 (Int.toNat (Int.tmod (w64 (x10 + 1)) (Int.ofNat x6))) 0)))))))))) (w64 (x10 + 1))) k) else none)) else none) else (k (.exit 0) (s45v1 x8 x9))) := by kernel_rfl

theorem q45v1 (fuel : Nat) (x6 : Nat) (x7 : Nat → Nat → CV) {ρ : Type} (k : Ex → St → Option ρ) : ∀ (m : Nat) (x8 : Int) (x9 : Int) (x10 : Int),
    loopH (B45v1 (C69 fuel) fuel) N45v1 m (s45v0 x6 x7 x8 x9 x10) k = L45v1 fuel x6 x7 m x8 x9 x10 (fun x11 x12 => k (.exit 0) (s45v1 x11 x12))
  | 0, _, _, _ => rfl
  | m + 1, x8, x9, x10 => by
    rw [r45v1]
    simp only [L45v1, q45v1 fuel x6 x7 k m]

def D45 {ρ : Type} (fuel : Nat) (x1 : Nat) (x2 : Nat → Nat → CV) (k : (Int × Int) → Option ρ) : Option ρ :=
  (ob (F37 fuel x1 x2) fun x3 => (bif (x3 != 0) then (k (0, 0)) else (L45v1 fuel x1 x2 fuel 0 0 0
    (fun x13 x14 => (k (x13, x14))))))

def F45 (fuel : Nat) (x1 : Nat) (x2 : Nat → Nat → CV) : Option (Int × Int) := D45 fuel x1 x2 some

theorem n45 {ρ σ : Type} (fuel : Nat) (x1 : Nat) (x2 : Nat → Nat → CV) (k : (Int × Int) → Option ρ) (g : ρ → Option σ) : ob (D45 fuel x1 x2 k) g = D45 fuel x1 x2 fun t => ob (k t) g := by
  simp only [D45, ob_bif, ob_ob, ob_none, nl45v1]

theorem f45 {ρ : Type} (fuel : Nat) (x1 : Nat) (x2 : Nat → Nat → CV) (k : (Int × Int) → Option ρ) : D45 fuel x1 x2 k = ob (F45 fuel x1 x2) k := by
  unfold F45
  rw [n45]
  simp only [ob_some]

def s45v2 (x1 : Nat) (x2 : Nat → Nat → CV) : St := ⟨(.x (.c (.ro false (.pr (.int .i64) (.pr (.int .i64) .nil)) x1 x2)) :: .undef :: .u :: .u :: .x (.c (.i .i64 0)) :: .x (.c (.i .i64 0)) :: .x (.c (.i .i64 0)) :: .undef :: .undef :: .undef :: (us 3 [.undef, .undef, .undef, .undef, .undef, .undef, .undef, .undef, .undef, .undef, .undef, .undef, .undef, .undef, .undef, .undef, .undef, .undef, .undef, .undef, .undef, .undef, .undef, .undef, .undef, .undef, .undef, .undef, .undef, .undef, .undef, .undef, .undef, .undef, .undef, .undef, .undef, .undef, .undef, .undef, .undef, .undef, .undef, .undef, .undef, .undef, .undef, .undef, .undef])), []⟩

theorem walk45 (fuel : Nat) (x1 : Nat) (x2 : Nat → Nat → CV) :
    evalF (C69 fuel) fuel A45 [.v (.ro false (.pr (.int .i64) (.pr (.int .i64) .nil)) x1 x2)] =
    (ob (F37 fuel x1 x2) fun x3 => (bif (x3 != 0) then (some [.v (.i .i64 0), .v (.i .i64 0)]) else (loopN (B45v1 (C69 fuel) fuel) N45v1 fuel (s45v2 x1 x2) (kBlk 0 (kSeq (C69 fuel) fuel (rl 6 4 (rl 13 47 [])) A45v3 (finish A45)))))) := by kernel_rfl

theorem t45v1 (fuel : Nat) {ρ : Type} (k : Ex → St → Option ρ) (x1 : Nat) (x2 : Nat → Nat → CV) :
    loopN (B45v1 (C69 fuel) fuel) N45v1 fuel (s45v2 x1 x2) k =
    L45v1 fuel x1 x2 fuel 0 0 0 (fun x11 x12 => k (.exit 0) (s45v1 x11 x12)) :=
  (loopN_at (st' := (s45v0 x1 x2 0 0 0)) (by kernel_rfl)).trans (q45v1 fuel x1 x2 k fuel 0 0 0)

theorem g45v2 (fuel : Nat) (x13 : Int) (x14 : Int) :
    (kBlk 0 (kSeq (C69 fuel) fuel (rl 6 4 (rl 13 47 [])) A45v3 (finish A45))) (.exit 0) (s45v1 x13 x14) =
    (some [.v (.i .i64 x13), .v (.i .i64 x14)]) := by kernel_rfl

theorem e45 (fuel : Nat) (x1 : Nat) (x2 : Nat → Nat → CV) : evalF (C69 fuel) fuel A45 [.v (.ro false (.pr (.int .i64) (.pr (.int .i64) .nil)) x1 x2)] = ob (F45 fuel x1 x2) fun t => some [.v (.i .i64 t.1), .v (.i .i64 t.2)] := by
  rw [walk45, ← f45]
  simp only [D45, t45v1, g45v2]

def O45 (fuel : Nat) : Ora where
  o := fun args {ρ} K =>
    wc args fun a1 l2 =>
    wv a1 fun c3 =>
    wL (.pr (.int .i64) (.pr (.int .i64) .nil)) c3 fun y4 y5 =>
    wn l2 <|
    (ob (F45 fuel y4 y5) fun t => K [.v (.i .i64 t.1), .v (.i .i64 t.2)])
  nat := fun args {ρ} K => by
    simp only [bind_wc, bind_wn, bind_wv, bind_wagg, bind_wI, bind_wB, bind_wS, bind_wL, bind_wP, bind_wFn, bind_ob, Option.bind_some]

theorem d45 {P : Program} (fuel : Nat) (hmix : P.follows .mixedOrders = true) (hC : Sound P (C69 fuel)) (hF : FFits P 45 A45) (args res : List A) (h : (O45 fuel).o args some = some res) : Den P 45 args res := by
  obtain ⟨a1, l2, rfl, z0⟩ := inv_wc h
  obtain ⟨c3, rfl, z1⟩ := inv_wv z0
  obtain ⟨y4, y5, h6, z2⟩ := inv_wL z1
  obtain ⟨hn, z3⟩ := inv_wn z2
  cases hn
  exact Den.weaken (.cons (WkA.v h6) .nil) (evalF_sound hmix hC hF ((e45 fuel y4 y5).trans z3))

def C70 (fuel : Nat) : Oracle := (C69 fuel).add 45 (fun _ => true) (O45 fuel)

/-- shipyard/shipyardref13.Moment6 -/
def A17v1 : AC := (.seq (.block 1
  (.seq (.region 8 [mv 22 6, mv 23 7, o1 24 (.indexAddr 23 22 1 (tm 22) (tm 23)), o1 25 (.load 22 none (tm 24)), o1 26 (.call 45 [(tm 25)] [22] .snap), mv 21 26, o1 27 (.extract (tm 21) 0), o1 28 (.extract (tm 21) 1), o1 8 (.assign (tm 27)), o1 9 (.assign (tm 28))] 0 none) []
    (.region 9 [mv 29 4, mv 30 8, o1 31 (.binOp .add 3 (tm 29) (tm 30) 3), mv 32 5, mv 33 9, o1 34 (.binOp .add 3 (tm 32) (tm 33) 3), o1 4 (.assign (tm 31)), o1 5 (.assign (tm 34))] 0 none))) []
  (.region 7 [mv 19 7, o1 20 (.binOp .add 3 (tm 19) (ic 1) 3), o1 7 (.assign (tm 20))] 0 none))
def A17v2 : AC := (.seq (.seq (.region 6 [mv 15 7, mv 16 6, o1 17 (.len 23 false (tm 16)), o1 18 (.binOp .lss 3 (tm 15) (tm 17) 3)] 0 none) []
  (.cond (tm 18)
  .skip
  (.exit 0 (rl 0 4 (rl 6 31 []))))) (rl 15 4 [])
  A17v1)
def A17v3 : AC := (.seq (.region 10 [mv 35 4, mv 36 5, o1 2 (.assign (tm 35)), o1 3 (.assign (tm 36))] 0 none) []
  (.ret (0 :: 1 :: (rl 4 33 []))))
def A17v4 : AC := (.seq (.region 3 [o1 4 (.assign (ic 0)), o1 5 (.assign (ic 0))] 0 none) []
  (.seq (.region 4 [o1 13 (.load 25 (some 2) (tm 1)), o1 14 (.call 44 [(tm 13)] [25] .freeze), o1 6 (.assign (tm 14))] 0 none) []
  (.seq (.seq (.region 5 [o1 7 (.assign (ic 0))] 0 none) []
  (.block 0
  (.loop [] (rl 0 4 (rl 8 29 []))
    A17v2))) (7 :: 8 :: 9 :: (rl 15 20 []))
  A17v3)))
def A17 : AF := ⟨37, [.tmp 2, .tmp 3],
  (.seq (.region 0 [o1 1 (.box 0 25 (tm 0)), o1 2 (.assign (ic 0)), o1 3 (.assign (ic 0))] 1 none) []
  (.seq (.seq (.region 1 [o1 10 (.load 25 (some 2) (tm 1)), o1 11 (.call 14 [(tm 10)] [25] .snap), o1 12 (.binOp .neq 27 (tm 11) (ic 0) 27)] 0 none) []
  (.cond (tm 12)
  (.seq (.region 2 [o1 2 (.assign (ic 0)), o1 3 (.assign (ic 0))] 0 none) []
    (.ret (0 :: 1 :: (rl 4 33 []))))
  .skip)) [2, 3, 10, 11, 12]
  A17v4))⟩

def B17v1 (C : Oracle) (fuel : Nat) {ρ : Type} : St → (Ex → St → Option ρ) → Option ρ := fun st k => evalC C fuel A17v2 st k
def N17v1 : St → Option St := fun s => s.norm (rl 0 4 (rl 8 29 [])) 1

def s17v0 (x14 : Int) (x15 : Int) (x16 : Nat) (x17 : Nat → Nat → CV) (x18 : Int) (x19 : Nat) (x20 : Nat → Nat → CV) (x21 : Nat) (x22 : Nat → Nat → CV) : St := ⟨(us 4 (.x (.c (.i .i64 x14)) :: .x (.c (.i .i64 x15)) :: .x (.c (.ro false (.pr (.sl (.pr (.int .i64) (.pr (.int .i64) .nil))) .nil) x16 x17)) :: .x (.c (.i .i64 x18)) :: (us 29 []))), [.box [(.c (.ro false (.pr (.int .i64) (.pr (.int .i64) .nil)) x19 x20)), (.c (.ro false (.pr (.sl (.pr (.int .i64) (.pr (.int .i64) .nil))) .nil) x21 x22))]]⟩

def s17v1 (x24 : Int) (x25 : Int) (x19 : Nat) (x20 : Nat → Nat → CV) (x21 : Nat) (x22 : Nat → Nat → CV) : St := ⟨(us 4 (.x (.c (.i .i64 x24)) :: .x (.c (.i .i64 x25)) :: (us 31 []))), [.box [(.c (.ro false (.pr (.int .i64) (.pr (.int .i64) .nil)) x19 x20)), (.c (.ro false (.pr (.sl (.pr (.int .i64) (.pr (.int .i64) .nil))) .nil) x21 x22))]]⟩

def L17v1 {ρ : Type} (fuel : Nat) (x16 : Nat) (x17 : Nat → Nat → CV) (x19 : Nat) (x20 : Nat → Nat → CV) (x21 : Nat) (x22 : Nat → Nat → CV) : Nat → Int → Int → Int → (Int → Int → Option ρ) → Option ρ
  | 0, _, _, _, _ => none
  | m + 1, x14, x15, x18, k0 =>
    (bif (decide (x18 < (Int.ofNat x16))) then (bif (inb x18 x16) then (ob (F45 fuel (CV.len (x17 (Int.toNat x18) 0)) (CV.el (x17 (Int.toNat x18) 0))) fun x23 => (L17v1 fuel x16 x17 x19 x20 x21 x22 m (w64 (x14 + x23.1)) (w64 (x15 + x23.2)) (w64 (x18 + 1)) k0)) else none) else (k0 x14 x15))

theorem nl17v1 {ρ σ : Type} (fuel : Nat) (x16 : Nat) (x17 : Nat → Nat → CV) (x19 : Nat) (x20 : Nat → Nat → CV) (x21 : Nat) (x22 : Nat → Nat → CV) (g : ρ → Option σ) : ∀ (m : Nat) (x14 : Int) (x15 : Int) (x18 : Int) (k0 : Int → Int → Option ρ), ob (L17v1 fuel x16 x17 x19 x20 x21 x22 m x14 x15 x18 k0) g = L17v1 fuel x16 x17 x19 x20 x21 x22 m x14 x15 x18 (fun x24 x25 => ob (k0 x24 x25) g)
  | 0, _, _, _, _ => rfl
  | m + 1, x14, x15, x18, k0 => by
    simp only [L17v1, ob_bif, ob_ob, ob_none, nl17v1 fuel x16 x17 x19 x20 x21 x22 g m]

theorem r17v1 (fuel : Nat) (m : Nat) {ρ : Type} (k : Ex → St → Option ρ) (x16 : Nat) (x17 : Nat → Nat → CV) (x19 : Nat) (x20 : Nat → Nat → CV) (x21 : Nat) (x22 : Nat → Nat → CV) (x14 : Int) (x15 : Int) (x18 : Int) :
    loopH (B17v1 (C70 fuel) fuel) N17v1 (m + 1) (s17v0 x14 x15 x16 x17 x18 x19 x20 x21 x22) k =
    (bif (decide (x18 < (Int.ofNat x16))) then (bif (inb x18 x16) then (ob (F45 fuel (CV.len (x17 (Int.toNat x18) 0)) (CV.el (x17 (Int.toNat x18) 0))) fun x23 => (loopH (B17v1 (C70 fuel) fuel) N17v1 m (s17v0 (w64 (x14 + x23.1)) (w64 (x15 + x23.2)) x16 x17 (w64 (x18 + 1)) x19 x20 x21 x22) k)) else none) else (k (.exit 0) (s17v1 x14 x15 x19 x20 x21 x22))) := by kernel_rfl

theorem q17v1 (fuel : Nat) (x16 : Nat) (x17 : Nat → Nat → CV) (x19 : Nat) (x20 : Nat → Nat → CV) (x21 : Nat) (x22 : Nat → Nat → CV) {ρ : Type} (k : Ex → St → Option ρ) : ∀ (m : Nat) (x14 : Int) (x15 : Int) (x18 : Int),
    loopH (B17v1 (C70 fuel) fuel) N17v1 m (s17v0 x14 x15 x16 x17 x18 x19 x20 x21 x22) k = L17v1 fuel x16 x17 x19 x20 x21 x22 m x14 x15 x18 (fun x24 x25 => k (.exit 0) (s17v1 x24 x25 x19 x20 x21 x22))
  | 0, _, _, _ => rfl
  | m + 1, x14, x15, x18 => by
    rw [r17v1]
    simp only [L17v1, q17v1 fuel x16 x17 x19 x20 x21 x22 k m]

def D17 {ρ : Type} (fuel : Nat) (x1 : Nat) (x2 : Nat → Nat → CV) (x3 : Nat) (x4 : Nat → Nat → CV) (k : (Int × Int) → Option ρ) : Option ρ :=
  (ob (F14 fuel x1 x2 x3 x4) fun x5 => (bif (x5 != 0) then (k (0, 0)) else (ob (F44 fuel x1 x2 x3 x4) fun x6 => (L17v1 fuel x6.1 x6.2 x1 x2 x3 x4 fuel 0 0 0
    (fun x26 x27 => (k (x26, x27)))))))

def F17 (fuel : Nat) (x1 : Nat) (x2 : Nat → Nat → CV) (x3 : Nat) (x4 : Nat → Nat → CV) : Option (Int × Int) := D17 fuel x1 x2 x3 x4 some

theorem n17 {ρ σ : Type} (fuel : Nat) (x1 : Nat) (x2 : Nat → Nat → CV) (x3 : Nat) (x4 : Nat → Nat → CV) (k : (Int × Int) → Option ρ) (g : ρ → Option σ) : ob (D17 fuel x1 x2 x3 x4 k) g = D17 fuel x1 x2 x3 x4 fun t => ob (k t) g := by
  simp only [D17, ob_bif, ob_ob, ob_none, nl17v1]

theorem f17 {ρ : Type} (fuel : Nat) (x1 : Nat) (x2 : Nat → Nat → CV) (x3 : Nat) (x4 : Nat → Nat → CV) (k : (Int × Int) → Option ρ) : D17 fuel x1 x2 x3 x4 k = ob (F17 fuel x1 x2 x3 x4) k := by
  unfold F17
  rw [n17]
  simp only [ob_some]

def s17v2 (x1 : Nat) (x2 : Nat → Nat → CV) (x3 : Nat) (x4 : Nat → Nat → CV) (x6 : Nat × (Nat → Nat → CV)) : St := ⟨(.agg [(.c (.ro false (.pr (.int .i64) (.pr (.int .i64) .nil)) x1 x2)), (.c (.ro false (.pr (.sl (.pr (.int .i64) (.pr (.int .i64) .nil))) .nil) x3 x4))] :: .x (.ptr 0 0) :: .u :: .u :: .x (.c (.i .i64 0)) :: .x (.c (.i .i64 0)) :: .x (.c (.ro false (.pr (.sl (.pr (.int .i64) (.pr (.int .i64) .nil))) .nil) x6.1 x6.2)) :: .x (.c (.i .i64 0)) :: .undef :: .undef :: (us 3 [.agg [(.c (.ro false (.pr (.int .i64) (.pr (.int .i64) .nil)) x1 x2)), (.c (.ro false (.pr (.sl (.pr (.int .i64) (.pr (.int .i64) .nil))) .nil) x3 x4))], .x (.c (.ro false (.pr (.sl (.pr (.int .i64) (.pr (.int .i64) .nil))) .nil) x6.1 x6.2)), .undef, .undef, .undef, .undef, .undef, .undef, .undef, .undef, .undef, .undef, .undef, .undef, .undef, .undef, .undef, .undef, .undef, .undef, .undef, .undef, .undef, .undef])), [.box [(.c (.ro false (.pr (.int .i64) (.pr (.int .i64) .nil)) x1 x2)), (.c (.ro false (.pr (.sl (.pr (.int .i64) (.pr (.int .i64) .nil))) .nil) x3 x4))]]⟩

theorem walk17 (fuel : Nat) (x1 : Nat) (x2 : Nat → Nat → CV) (x3 : Nat) (x4 : Nat → Nat → CV) :
    evalF (C70 fuel) fuel A17 [.agg [(.ro false (.pr (.int .i64) (.pr (.int .i64) .nil)) x1 x2), (.ro false (.pr (.sl (.pr (.int .i64) (.pr (.int .i64) .nil))) .nil) x3 x4)]] =
    (ob (F14 fuel x1 x2 x3 x4) fun x5 => (bif (x5 != 0) then (some [.v (.i .i64 0), .v (.i .i64 0)]) else (ob (F44 fuel x1 x2 x3 x4) fun x6 => (loopN (B17v1 (C70 fuel) fuel) N17v1 fuel (s17v2 x1 x2 x3 x4 x6) (kBlk 0 (kSeq (C70 fuel) fuel (7 :: 8 :: 9 :: (rl 15 20 [])) A17v3 (finish A17))))))) := by kernel_rfl

theorem t17v1 (fuel : Nat) {ρ : Type} (k : Ex → St → Option ρ) (x1 : Nat) (x2 : Nat → Nat → CV) (x3 : Nat) (x4 : Nat → Nat → CV) (x6 : Nat × (Nat → Nat → CV)) :
    loopN (B17v1 (C70 fuel) fuel) N17v1 fuel (s17v2 x1 x2 x3 x4 x6) k =
    L17v1 fuel x6.1 x6.2 x1 x2 x3 x4 fuel 0 0 0 (fun x24 x25 => k (.exit 0) (s17v1 x24 x25 x1 x2 x3 x4)) :=
  (loopN_at (st' := (s17v0 0 0 x6.1 x6.2 0 x1 x2 x3 x4)) (by kernel_rfl)).trans (q17v1 fuel x6.1 x6.2 x1 x2 x3 x4 k fuel 0 0 0)

theorem g17v2 (fuel : Nat) (x26 : Int) (x27 : Int) (x1 : Nat) (x2 : Nat → Nat → CV) (x3 : Nat) (x4 : Nat → Nat → CV) :
    (kBlk 0 (kSeq (C70 fuel) fuel (7 :: 8 :: 9 :: (rl 15 20 [])) A17v3 (finish A17))) (.exit 0) (s17v1 x26 x27 x1 x2 x3 x4) =
    (some [.v (.i .i64 x26), .v (.i .i64 x27)]) := by kernel_rfl

theorem e17 (fuel : Nat) (x1 : Nat) (x2 : Nat → Nat → CV) (x3 : Nat) (x4 : Nat → Nat → CV) : evalF (C70 fuel) fuel A17 [.agg [(.ro false (.pr (.int .i64) (.pr (.int .i64) .nil)) x1 x2), (.ro false (.pr (.sl (.pr (.int .i64) (.pr (.int .i64) .nil))) .nil) x3 x4)]] = ob (F17 fuel x1 x2 x3 x4) fun t => some [.v (.i .i64 t.1), .v (.i .i64 t.2)] := by
  rw [walk17, ← f17]
  simp only [D17, t17v1, g17v2]

def O17 (fuel : Nat) : Ora where
  o := fun args {ρ} K =>
    wc args fun a1 l2 =>
    wagg a1 fun l3 =>
    wc l3 fun c4 l5 =>
    wL (.pr (.int .i64) (.pr (.int .i64) .nil)) c4 fun y6 y7 =>
    wc l5 fun c9 l10 =>
    wL (.pr (.sl (.pr (.int .i64) (.pr (.int .i64) .nil))) .nil) c9 fun y11 y12 =>
    wn l10 <|
    wn l2 <|
    (ob (F17 fuel y6 y7 y11 y12) fun t => K [.v (.i .i64 t.1), .v (.i .i64 t.2)])
  nat := fun args {ρ} K => by
    simp only [bind_wc, bind_wn, bind_wv, bind_wagg, bind_wI, bind_wB, bind_wS, bind_wL, bind_wP, bind_wFn, bind_ob, Option.bind_some]

theorem d17 {P : Program} (fuel : Nat) (hmix : P.follows .mixedOrders = true) (hC : Sound P (C70 fuel)) (hF : FFits P 17 A17) (args res : List A) (h : (O17 fuel).o args some = some res) : Den P 17 args res := by
  obtain ⟨a1, l2, rfl, z0⟩ := inv_wc h
  obtain ⟨l3, rfl, z1⟩ := inv_wagg z0
  obtain ⟨c4, l5, rfl, z2⟩ := inv_wc z1
  obtain ⟨y6, y7, h8, z3⟩ := inv_wL z2
  obtain ⟨c9, l10, rfl, z4⟩ := inv_wc z3
  obtain ⟨y11, y12, h13, z5⟩ := inv_wL z4
  obtain ⟨hn, z6⟩ := inv_wn z5
  cases hn
  obtain ⟨hn, z7⟩ := inv_wn z6
  cases hn
  exact Den.weaken (.cons (WkA.agg (.cons h8 (.cons h13 .nil))) .nil) (evalF_sound hmix hC hF ((e17 fuel y6 y7 y11 y12).trans z7))

def C71 (fuel : Nat) : Oracle := (C70 fuel).add 17 (fun _ => true) (O17 fuel)

/-- shipyard/shipyardref13.Area2 -/
def A19v1 : AC := (.seq (.block 1
  (.region 8 [mv 17 3, mv 18 4, mv 19 5, o1 20 (.indexAddr 23 22 1 (tm 18) (tm 19)), o1 21 (.load 22 none (tm 20)), o1 22 (.call 38 [(tm 21)] [22] .snap), o1 23 (.binOp .add 3 (tm 17) (tm 22) 3), o1 3 (.assign (tm 23))] 0 none)) []
  (.region 7 [mv 15 5, o1 16 (.binOp .add 3 (tm 15) (ic 1) 3), o1 5 (.assign (tm 16))] 0 none))
def A19v2 : AC := (.seq (.seq (.region 6 [mv 11 5, mv 12 4, o1 13 (.len 23 false (tm 12)), o1 14 (.binOp .lss 3 (tm 11) (tm 13) 3)] 0 none) []
  (.cond (tm 14)
  .skip
  (.exit 0 (0 :: 1 :: 2 :: (rl 4 21 []))))) (rl 11 4 [])
  A19v1)
def A19v3 : AC := (.seq (.region 9 [mv 24 3, o1 2 (.assign (tm 24))] 0 none) []
  (.ret (0 :: 1 :: (rl 3 22 []))))
def A19v4 : AC := (.seq (.region 3 [o1 3 (.assign (ic 0))] 0 none) []
  (.seq (.region 4 [o1 9 (.load 25 (some 2) (tm 1)), o1 10 (.call 44 [(tm 9)] [25] .freeze), o1 4 (.assign (tm 10))] 0 none) []
  (.seq (.seq (.region 5 [o1 5 (.assign (ic 0))] 0 none) []
  (.block 0
  (.loop [] (0 :: 1 :: 2 :: (rl 6 19 []))
    A19v2))) (5 :: (rl 11 13 []))
  A19v3)))
def A19 : AF := ⟨25, [.tmp 2],
  (.seq (.region 0 [o1 1 (.box 0 25 (tm 0)), o1 2 (.assign (ic 0))] 1 none) []
  (.seq (.seq (.region 1 [o1 6 (.load 25 (some 2) (tm 1)), o1 7 (.call 14 [(tm 6)] [25] .snap), o1 8 (.binOp .neq 27 (tm 7) (ic 0) 27)] 0 none) []
  (.cond (tm 8)
  (.seq (.region 2 [o1 2 (.assign (ic 0))] 0 none) []
    (.ret (0 :: 1 :: (rl 3 22 []))))
  .skip)) [2, 6, 7, 8]
  A19v4))⟩

def B19v1 (C : Oracle) (fuel : Nat) {ρ : Type} : St → (Ex → St → Option ρ) → Option ρ := fun st k => evalC C fuel A19v2 st k
def N19v1 : St → Option St := fun s => s.norm (0 :: 1 :: 2 :: (rl 6 19 [])) 1

def s19v0 (x14 : Int) (x15 : Nat) (x16 : Nat → Nat → CV) (x17 : Int) (x18 : Nat) (x19 : Nat → Nat → CV) (x20 : Nat) (x21 : Nat → Nat → CV) : St := ⟨(us 3 (.x (.c (.i .i64 x14)) :: .x (.c (.ro false (.pr (.sl (.pr (.int .i64) (.pr (.int .i64) .nil))) .nil) x15 x16)) :: .x (.c (.i .i64 x17)) :: (us 19 []))), [.box [(.c (.ro false (.pr (.int .i64) (.pr (.int .i64) .nil)) x18 x19)), (.c (.ro false (.pr (.sl (.pr (.int .i64) (.pr (.int .i64) .nil))) .nil) x20 x21))]]⟩

def s19v1 (x23 : Int) (x18 : Nat) (x19 : Nat → Nat → CV) (x20 : Nat) (x21 : Nat → Nat → CV) : St := ⟨(us 3 (.x (.c (.i .i64 x23)) :: (us 21 []))), [.box [(.c (.ro false (.pr (.int .i64) (.pr (.int .i64) .nil)) x18 x19)), (.c (.ro false (.pr (.sl (.pr (.int .i64) (.pr (.int .i64) .nil))) .nil) x20 x21))]]⟩

def L19v1 {ρ : Type} (fuel : Nat) (x15 : Nat) (x16 : Nat → Nat → CV) (x18 : Nat) (x19 : Nat → Nat → CV) (x20 : Nat) (x21 : Nat → Nat → CV) : Nat → Int → Int → (Int → Option ρ) → Option ρ
  | 0, _, _, _ => none
  | m + 1, x14, x17, k0 =>
    (bif (decide (x17 < (Int.ofNat x15))) then (bif (inb x17 x15) then (ob (F38 fuel (CV.len (x16 (Int.toNat x17) 0)) (CV.el (x16 (Int.toNat x17) 0))) fun x22 => (L19v1 fuel x15 x16 x18 x19 x20 x21 m (w64 (x14 + x22)) (w64 (x17 + 1)) k0)) else none) else (k0 x14))

theorem nl19v1 {ρ σ : Type} (fuel : Nat) (x15 : Nat) (x16 : Nat → Nat → CV) (x18 : Nat) (x19 : Nat → Nat → CV) (x20 : Nat) (x21 : Nat → Nat → CV) (g : ρ → Option σ) : ∀ (m : Nat) (x14 : Int) (x17 : Int) (k0 : Int → Option ρ), ob (L19v1 fuel x15 x16 x18 x19 x20 x21 m x14 x17 k0) g = L19v1 fuel x15 x16 x18 x19 x20 x21 m x14 x17 (fun x23 => ob (k0 x23) g)
  | 0, _, _, _ => rfl
  | m + 1, x14, x17, k0 => by
    simp only [L19v1, ob_bif, ob_ob, ob_none, nl19v1 fuel x15 x16 x18 x19 x20 x21 g m]

theorem r19v1 (fuel : Nat) (m : Nat) {ρ : Type} (k : Ex → St → Option ρ) (x15 : Nat) (x16 : Nat → Nat → CV) (x18 : Nat) (x19 : Nat → Nat → CV) (x20 : Nat) (x21 : Nat → Nat → CV) (x14 : Int) (x17 : Int) :
    loopH (B19v1 (C71 fuel) fuel) N19v1 (m + 1) (s19v0 x14 x15 x16 x17 x18 x19 x20 x21) k =
    (bif (decide (x17 < (Int.ofNat x15))) then (bif (inb x17 x15) then (ob (F38 fuel (CV.len (x16 (Int.toNat x17) 0)) (CV.el (x16 (Int.toNat x17) 0))) fun x22 => (loopH (B19v1 (C71 fuel) fuel) N19v1 m (s19v0 (w64 (x14 + x22)) x15 x16 (w64 (x17 + 1)) x18 x19 x20 x21) k)) else none) else (k (.exit 0) (s19v1 x14 x18 x19 x20 x21))) := by kernel_rfl

theorem q19v1 (fuel : Nat) (x15 : Nat) (x16 : Nat → Nat → CV) (x18 : Nat) (x19 : Nat → Nat → CV) (x20 : Nat) (x21 : Nat → Nat → CV) {ρ : Type} (k : Ex → St → Option ρ) : ∀ (m : Nat) (x14 : Int) (x17 : Int),
    loopH (B19v1 (C71 fuel) fuel) N19v1 m (s19v0 x14 x15 x16 x17 x18 x19 x20 x21) k = L19v1 fuel x15 x16 x18 x19 x20 x21 m x14 x17 (fun x23 => k (.exit 0) (s19v1 x23 x18 x19 x20 x21))
  | 0, _, _ => rfl
  | m + 1, x14, x17 => by
    rw [r19v1]
    simp only [L19v1, q19v1 fuel x15 x16 x18 x19 x20 x21 k m]

def D19 {ρ : Type} (fuel : Nat) (x1 : Nat) (x2 : Nat → Nat → CV) (x3 : Nat) (x4 : Nat → Nat → CV) (k : Int → Option ρ) : Option ρ :=
  (ob (F14 fuel x1 x2 x3 x4) fun x5 => (bif (x5 != 0) then (k 0) else (ob (F44 fuel x1 x2 x3 x4) fun x6 => (L19v1 fuel x6.1 x6.2 x1 x2 x3 x4 fuel 0 0
    (fun x24 => (k x24))))))

def F19 (fuel : Nat) (x1 : Nat) (x2 : Nat → Nat → CV) (x3 : Nat) (x4 : Nat → Nat → CV) : Option (Int) := D19 fuel x1 x2 x3 x4 some

theorem n19 {ρ σ : Type} (fuel : Nat) (x1 : Nat) (x2 : Nat → Nat → CV) (x3 : Nat) (x4 : Nat → Nat → CV) (k : (Int) → Option ρ) (g : ρ → Option σ) : ob (D19 fuel x1 x2 x3 x4 k) g = D19 fuel x1 x2 x3 x4 fun t => ob (k t) g := by
  simp only [D19, ob_bif, ob_ob, ob_none, nl19v1]

theorem f19 {ρ : Type} (fuel : Nat) (x1 : Nat) (x2 : Nat → Nat → CV) (x3 : Nat) (x4 : Nat → Nat → CV) (k : (Int) → Option ρ) : D19 fuel x1 x2 x3 x4 k = ob (F19 fuel x1 x2 x3 x4) k := by
  unfold F19
  rw [n19]
  simp only [ob_some]

def s19v2 (x1 : Nat) (x2 : Nat → Nat → CV) (x3 : Nat) (x4 : Nat → Nat → CV) (x6 : Nat × (Nat → Nat → CV)) : St := ⟨(.agg [(.c (.ro false (.pr (.int .i64) (.pr (.int .i64) .nil)) x1 x2)), (.c (.ro false (.pr (.sl (.pr (.int .i64) (.pr (.int .i64) .nil))) .nil) x3 x4))] :: .x (.ptr 0 0) :: .u :: .x (.c (.i .i64 0)) :: .x (.c (.ro false (.pr (.sl (.pr (.int .i64) (.pr (.int .i64) .nil))) .nil) x6.1 x6.2)) :: .x (.c (.i .i64 0)) :: (us 3 [.agg [(.c (.ro false (.pr (.int .i64) (.pr (.int .i64) .nil)) x1 x2)), (.c (.ro false (.pr (.sl (.pr (.int .i64) (.pr (.int .i64) .nil))) .nil) x3 x4))], .x (.c (.ro false (.pr (.sl (.pr (.int .i64) (.pr (.int .i64) .nil))) .nil) x6.1 x6.2)), .undef, .undef, .undef, .undef, .undef, .undef, .undef, .undef, .undef, .undef, .undef, .undef, .undef, .undef])), [.box [(.c (.ro false (.pr (.int .i64) (.pr (.int .i64) .nil)) x1 x2)), (.c (.ro false (.pr (.sl (.pr (.int .i64) (.pr (.int .i64) .nil))) .nil) x3 x4))]]⟩

theorem walk19 (fuel : Nat) (x1 : Nat) (x2 : Nat → Nat → CV) (x3 : Nat) (x4 : Nat → Nat → CV) :
    evalF (C71 fuel) fuel A19 [.agg [(.ro false (.pr (.int .i64) (.pr (.int .i64) .nil)) x1 x2), (.ro false (.pr (.sl (.pr (.int .i64) (.pr (.int .i64) .nil))) .nil) x3 x4)]] =
    (ob (F14 fuel x1 x2 x3 x4) fun x5 => (bif (x5 != 0) then (some [.v (.i .i64 0)]) else (ob (F44 fuel x1 x2 x3 x4) fun x6 => (loopN (B19v1 (C71 fuel) fuel) N19v1 fuel (s19v2 x1 x2 x3 x4 x6) (kBlk 0 (kSeq (C71 fuel) fuel (5 :: (rl 11 13 [])) A19v3 (finish A19))))))) := by kernel_rfl

theorem t19v1 (fuel : Nat) {ρ : Type} (k : Ex → St → Option ρ) (x1 : Nat) (x2 : Nat → Nat → CV) (x3 : Nat) (x4 : Nat → Nat → CV) (x6 : Nat × (Nat → Nat → CV)) :
    loopN (B19v1 (C71 fuel) fuel) N19v1 fuel (s19v2 x1 x2 x3 x4 x6) k =
    L19v1 fuel x6.1 x6.2 x1 x2 x3 x4 fuel 0 0 (fun x23 => k (.exit 0) (s19v1 x23 x1 x2 x3 x4)) :=
  (loopN_at (st' := (s19v0 0 x6.1 x6.2 0 x1 x2 x3 x4)) (by kernel_rfl)).trans (q19v1 fuel x6.1 x6.2 x1 x2 x3 x4 k fuel 0 0)

theorem g19v2 (fuel : Nat) (x24 : Int) (x1 : Nat) (x2 : Nat → Nat → CV) (x3 : Nat) (x4 : Nat → Nat → CV) :
    (kBlk 0 (kSeq (C71 fuel) fuel (5 :: (rl 11 13 [])) A19v3 (finish A19))) (.exit 0) (s19v1 x24 x1 x2 x3 x4) =
    (some [.v (.i .i64 x24)]) := by kernel_rfl

theorem e19 (fuel : Nat) (x1 : Nat) (x2 : Nat → Nat → CV) (x3 : Nat) (x4 : Nat → Nat → CV) : evalF (C71 fuel) fuel A19 [.agg [(.ro false (.pr (.int .i64) (.pr (.int .i64) .nil)) x1 x2), (.ro false (.pr (.sl (.pr (.int .i64) (.pr (.int .i64) .nil))) .nil) x3 x4)]] = ob (F19 fuel x1 x2 x3 x4) fun t => some [.v (.i .i64 t)] := by
  rw [walk19, ← f19]
  simp only [D19, t19v1, g19v2]

def O19 (fuel : Nat) : Ora where
  o := fun args {ρ} K =>
    wc args fun a1 l2 =>
    wagg a1 fun l3 =>
    wc l3 fun c4 l5 =>
    wL (.pr (.int .i64) (.pr (.int .i64) .nil)) c4 fun y6 y7 =>
    wc l5 fun c9 l10 =>
    wL (.pr (.sl (.pr (.int .i64) (.pr (.int .i64) .nil))) .nil) c9 fun y11 y12 =>
    wn l10 <|
    wn l2 <|
    (ob (F19 fuel y6 y7 y11 y12) fun t => K [.v (.i .i64 t)])
  nat := fun args {ρ} K => by
    simp only [bind_wc, bind_wn, bind_wv, bind_wagg, bind_wI, bind_wB, bind_wS, bind_wL, bind_wP, bind_wFn, bind_ob, Option.bind_some]

theorem d19 {P : Program} (fuel : Nat) (hmix : P.follows .mixedOrders = true) (hC : Sound P (C71 fuel)) (hF : FFits P 19 A19) (args res : List A) (h : (O19 fuel).o args some = some res) : Den P 19 args res := by
  obtain ⟨a1, l2, rfl, z0⟩ := inv_wc h
  obtain ⟨l3, rfl, z1⟩ := inv_wagg z0
  obtain ⟨c4, l5, rfl, z2⟩ := inv_wc z1
  obtain ⟨y6, y7, h8, z3⟩ := inv_wL z2
  obtain ⟨c9, l10, rfl, z4⟩ := inv_wc z3
  obtain ⟨y11, y12, h13, z5⟩ := inv_wL z4
  obtain ⟨hn, z6⟩ := inv_wn z5
  cases hn
  obtain ⟨hn, z7⟩ := inv_wn z6
  cases hn
  exact Den.weaken (.cons (WkA.agg (.cons h8 (.cons h13 .nil))) .nil) (evalF_sound hmix hC hF ((e19 fuel y6 y7 y11 y12).trans z7))

def C72 (fuel : Nat) : Oracle := (C71 fuel).add 19 (fun _ => true) (O19 fuel)

/-- shipyard/shipyardref13.Bounds -/
def A21v1 : AC := (.seq (.region 8 [o1 24 (.fieldAddr 36 (tm 3) 0 0), o1 25 (.fieldAddr 34 (tm 24) 0 0), o1 26 (.load 3 none (tm 25)), o1 27 (.fieldAddr 34 (tm 5) 0 0), o1 28 (.load 3 none (tm 27)), o1 29 (.mm false [(tm 26), (tm 28)] [3, 3]), o1 30 (.fieldAddr 36 (tm 3) 0 0), o1 31 (.fieldAddr 34 (tm 30) 1 1), o1 32 (.load 3 none (tm 31)), o1 33 (.fieldAddr 34 (tm 5) 1 1), o1 34 (.load 3 none (tm 33)), o1 35 (.mm false [(tm 32), (tm 34)] [3, 3]), o1 36 (.build 34 [.c (.i .i64 0), .c (.i .i64 0)] [(0, 1), (1, 1)] 0 [(0, (tm 29)), (1, (tm 35))]), o1 37 (.fieldAddr 36 (tm 3) 0 0), o0 (.store 34 2 (tm 37) (tm 36))] 0 none) []
  (.region 9 [o1 38 (.fieldAddr 36 (tm 3) 1 2), o1 39 (.fieldAddr 34 (tm 38) 0 0), o1 40 (.load 3 none (tm 39)), o1 41 (.fieldAddr 34 (tm 5) 0 0), o1 42 (.load 3 none (tm 41)), o1 43 (.mm true [(tm 40), (tm 42)] [3, 3]), o1 44 (.fieldAddr 36 (tm 3) 1 2), o1 45 (.fieldAddr 34 (tm 44) 1 1), o1 46 (.load 3 none (tm 45)), o1 47 (.fieldAddr 34 (tm 5) 1 1), o1 48 (.load 3 none (tm 47)), o1 49 (.mm true [(tm 46), (tm 48)] [3, 3]), o1 50 (.build 34 [.c (.i .i64 0), .c (.i .i64 0)] [(0, 1), (1, 1)] 0 [(0, (tm 43)), (1, (tm 49))]), o1 51 (.fieldAddr 36 (tm 3) 1 2), o0 (.store 34 2 (tm 51) (tm 50))] 0 none))
def A21v2 : AC := (.region 4 [mv 12 4, o1 13 (.binOp .add 3 (tm 12) (ic 1) 3), o1 4 (.assign (tm 13))] 0 none)
def A21v3 : AC := (.seq (.block 1
  (.seq (.region 5 [o1 14 (.fieldAddr 25 (tm 1) 0 0), o1 15 (.load 22 none (tm 14)), mv 16 4, o1 17 (.indexAddr 22 34 2 (tm 15) (tm 16)), o1 18 (.load 34 (some 2) (tm 17)), o1 5 (.alloc 0 34 [.c (.i .i64 0), .c (.i .i64 0)]), o0 (.store 34 2 (tm 5) (tm 18))] 1 none) []
    (.seq (.seq (.region 6 [mv 19 4, o1 20 (.binOp .eql 3 (tm 19) (ic 0) 3)] 0 none) []
    (.cond (tm 20)
    (.region 7 [o1 21 (.load 34 (some 2) (tm 5)), o1 22 (.load 34 (some 2) (tm 5)), o1 23 (.build 36 [.c (.i .i64 0), .c (.i .i64 0), .c (.i .i64 0), .c (.i .i64 0)] [(0, 2), (2, 2)] 0 [(0, (tm 21)), (1, (tm 22))]), o0 (.store 36 4 (tm 3) (tm 23))] 0 none)
    .skip)) (rl 19 5 [])
    A21v1))) (5 :: (rl 14 38 []))
  A21v2)
def A21v4 : AC := (.seq (.seq (.region 3 [mv 7 4, o1 8 (.fieldAddr 25 (tm 1) 0 0), o1 9 (.load 22 none (tm 8)), o1 10 (.len 22 false (tm 9)), o1 11 (.binOp .lss 3 (tm 7) (tm 10) 3)] 0 none) []
  (.cond (tm 11)
  .skip
  (.exit 0 (0 :: 1 :: (rl 4 49 []))))) (rl 7 5 [])
  A21v3)
def A21v5 : AC := (.seq (.region 10 [o1 52 (.load 36 (some 4) (tm 3)), o0 (.store 36 4 (tm 2) (tm 52))] 0 none) []
  (.ret (0 :: 1 :: (rl 3 50 []))))
def A21 : AF := ⟨53, [.cell 2 36 (some 4)],
  (.seq (.region 0 [o1 1 (.box 0 25 (tm 0)), o1 2 (.alloc 1 36 [.c (.i .i64 0), .c (.i .i64 0), .c (.i .i64 0), .c (.i .i64 0)])] 2 none) []
  (.seq (.region 1 [o1 6 (.build 36 [.c (.i .i64 0), .c (.i .i64 0), .c (.i .i64 0), .c (.i .i64 0)] [(0, 2), (2, 2)] 0 []), o1 3 (.alloc 0 36 [.c (.i .i64 0), .c (.i .i64 0), .c (.i .i64 0), .c (.i .i64 0)]), o0 (.store 36 4 (tm 3) (tm 6))] 1 none) []
  (.seq (.seq (.region 2 [o1 4 (.assign (ic 0))] 0 none) []
  (.block 0
  (.loop [] (0 :: (rl 5 48 []))
    A21v4))) (4 :: 5 :: (rl 7 45 []))
  A21v5)))⟩

def B21v1 (C : Oracle) (fuel : Nat) {ρ : Type} : St → (Ex → St → Option ρ) → Option ρ := fun st k => evalC C fuel A21v4 st k
def N21v1 : St → Option St := fun s => s.norm (0 :: (rl 5 48 [])) 3

def s21v0 (x9 : Int) (x10 : Nat) (x11 : Nat → Nat → CV) (x12 : Nat) (x13 : Nat → Nat → CV) (x14 : Int) (x15 : Int) (x16 : Int) (x17 : Int) : St := ⟨(.u :: .x (.ptr 0 0) :: .x (.ptr 1 0) :: .x (.ptr 2 0) :: .x (.c (.i .i64 x9)) :: (us 48 [])), [.box [(.c (.ro false (.pr (.int .i64) (.pr (.int .i64) .nil)) x10 x11)), (.c (.ro false (.pr (.sl (.pr (.int .i64) (.pr (.int .i64) .nil))) .nil) x12 x13))], .box [(.c (.i .i64 0)), (.c (.i .i64 0)), (.c (.i .i64 0)), (.c (.i .i64 0))], .box [(.c (.i .i64 x14)), (.c (.i .i64 x15)), (.c (.i .i64 x16)), (.c (.i .i64 x17))]]⟩

def s21v1 (x10 : Nat) (x11 : Nat → Nat → CV) (x12 : Nat) (x13 : Nat → Nat → CV) (x18 : Int) (x19 : Int) (x20 : Int) (x21 : Int) : St := ⟨(.u :: .u :: .x (.ptr 1 0) :: .x (.ptr 2 0) :: (us 49 [])), [.box [(.c (.ro false (.pr (.int .i64) (.pr (.int .i64) .nil)) x10 x11)), (.c (.ro false (.pr (.sl (.pr (.int .i64) (.pr (.int .i64) .nil))) .nil) x12 x13))], .box [(.c (.i .i64 0)), (.c (.i .i64 0)), (.c (.i .i64 0)), (.c (.i .i64 0))], .box [(.c (.i .i64 x18)), (.c (.i .i64 x19)), (.c (.i .i64 x20)), (.c (.i .i64 x21))]]⟩

def L21v1 {ρ : Type} (fuel : Nat) (x10 : Nat) (x11 : Nat → Nat → CV) (x12 : Nat) (x13 : Nat → Nat → CV) : Nat → Int → Int → Int → Int → Int → (Int → Int → Int → Int → Option ρ) → Option ρ
  | 0, _, _, _, _, _, _ => none
  | m + 1, x9, x14, x15, x16, x17, k0 =>
    (bif (decide (x9 < (Int.ofNat x10))) then (bif (inb x9 x10) then (bif (x9 == 0) then (L21v1 fuel x10 x11 x12 x13 m (w64 (x9 + 1)) (if (CV.int (x11 (Int.toNat x9) 0)) < (CV.int (x11 (Int.toNat x9) 0)) then (CV.int (x11 (Int.toNat x9) 0)) else (CV.int (x11 (Int.toNat x9) 0))) (if (CV.int (x11 (Int.toNat x9) 1)) < (CV.int (x11 (Int.toNat x9) 1)) then (CV.int (x11 (Int.toNat x9) 1)) else (CV.int (x11 (Int.toNat x9) 1))) (if (CV.int (x11 (Int.toNat x9) 0)) > (CV.int (x11 (Int.toNat x9) 0)) then (CV.int (x11 (Int.toNat x9) 0)) else (CV.int (x11 (Int.toNat x9) 0))) (if (CV.int (x11 (Int.toNat x9) 1)) > (CV.int (x11 (Int.toNat x9) 1)) then (CV.int (x11 (Int.toNat x9) 1)) else (CV.int (x11 (Int.toNat x9) 1))) k0) else (L21v1 fuel x10 x11 x12 x13 m (w64 (x9 + 1)) (if (CV.int (x11 (Int.toNat x9) 0)) < x14 then (CV.int (x11 (Int.toNat x9) 0)) else x14) (if (CV.int (x11 (Int.toNat x9) 1)) < x15 then (CV.int (x11 (Int.toNat x9) 1)) else x15) (if (CV.int (x11 (Int.toNat x9) 0)) > x16 then (CV.int (x11 (Int.toNat x9) 0)) else x16) (if (CV.int (x11 (Int.toNat x9) 1)) > x17 then (CV.int (x11 (Int.toNat x9) 1)) else x17) k0)) else none) else (k0 x14 x15 x16 x17))

theorem nl21v1 {ρ σ : Type} (fuel : Nat) (x10 : Nat) (x11 : Nat → Nat → CV) (x12 : Nat) (x13 : Nat → Nat → CV) (g : ρ → Option σ) : ∀ (m : Nat) (x9 : Int) (x14 : Int) (x15 : Int) (x16 : Int) (x17 : Int) (k0 : Int → Int → Int → Int → Option ρ), ob (L21v1 fuel x10 x11 x12 x13 m x9 x14 x15 x16 x17 k0) g = L21v1 fuel x10 x11 x12 x13 m x9 x14 x15 x16 x17 (fun x18 x19 x20 x21 => ob (k0 x18 x19 x20 x21) g)
  | 0, _, _, _, _, _, _ => rfl
  | m + 1, x9, x14, x15, x16, x17, k0 => by
    simp only [L21v1, ob_bif, ob_ob, ob_none, nl21v1 fuel x10 x11 x12 x13 g m]

theorem r21v1 (fuel : Nat) (m : Nat) {ρ : Type} (k : Ex → St → Option ρ) (x10 : Nat) (x11 : Nat → Nat → CV) (x12 : Nat) (x13 : Nat → Nat → CV) (x9 : Int) (x14 : Int) (x15 : Int) (x16 : Int) (x17 : Int) :
    loopH (B21v1 (C72 fuel) fuel) N21v1 (m + 1) (s21v0 x9 x10 x11 x12 x13 x14 x15 x16 x17) k =
    (bif (decide (x9 < (Int.ofNat x10))) then (bif (inb x9 x10) then (bif (x9 == 0) then (loopH (B21v1 (C72 fuel) fuel) N21v1 m (s21v0 (w64 (x9 + 1)) x10 x11 x12 x13 (if (CV.int (x11 (Int.toNat x9) 0)) < (CV.int (x11 (Int.toNat x9) 0)) then (CV.int (x11 (Int.toNat x9) 0)) else (CV.int (x11 (Int.toNat x9) 0))) (if (CV.int (x11 (Int.toNat x9) 1)) < (CV.int (x11 (Int.toNat x9) 1)) then (CV.int (x11 (Int.toNat x9) 1)) else (CV.int (x11 (Int.toNat x9) 1))) (if (CV.int (x11 (Int.toNat x9) 0)) > (CV.int (x11 (Int.toNat x9) 0)) then (CV.int (x11 (Int.toNat x9) 0)) else (CV.int (x11 (Int.toNat x9) 0))) (if (CV.int (x11 (Int.toNat x9) 1)) > (CV.int (x11 (Int.toNat x9) 1)) then (CV.int (x11 (Int.toNat x9) 1)) else (CV.int (x11 (Int.toNat x9) 1)))) k) else (loopH (B21v1 (C72 fuel) fuel) N21v1 m (s21v0 (w64 (x9 + 1)) x10 x11 x12 x13 (if (CV.int (x11 (Int.toNat x9) 0)) < x14 then (CV.int (x11 (Int.toNat x9) 0)) else x14) (if (CV.int (x11 (Int.toNat x9) 1)) < x15 then (CV.int (x11 (Int.toNat x9) 1)) else x15) (if (CV.int (x11 (Int.toNat x9) 0)) > x16 then (CV.int (x11 (Int.toNat x9) 0)) else x16) (if (CV.int (x11 (Int.toNat x9) 1)) > x17 then (CV.int (x11 (Int.toNat x9) 1)) else x17)) k)) else none) else (k (.exit 0) (s21v1 x10 x11 x12 x13 x14 x15 x16 x17))) := by kernel_rfl

theorem q21v1 (fuel : Nat) (x10 : Nat) (x11 : Nat → Nat → CV) (x12 : Nat) (x13 : Nat → Nat → CV) {ρ : Type} (k : Ex → St → Option ρ) : ∀ (m : Nat) (x9 : Int) (x14 : Int) (x15 : Int) (x16 : Int) (x17 : Int),
    loopH (B21v1 (C72 fuel) fuel) N21v1 m (s21v0 x9 x10 x11 x12 x13 x14 x15 x16 x17) k = L21v1 fuel x10 x11 x12 x13 m x9 x14 x15 x16 x17 (fun x18 x19 x20 x21 => k (.exit 0) (s21v1 x10 x11 x12 x13 x18 x19 x20 x21))
  | 0, _, _, _, _, _ => rfl
  | m + 1, x9, x14, x15, x16, x17 => by
    rw [r21v1]
    simp only [L21v1, q21v1 fuel x10 x11 x12 x13 k m]

def D21 {ρ : Type} (fuel : Nat) (x1 : Nat) (x2 : Nat → Nat → CV) (x3 : Nat) (x4 : Nat → Nat → CV) (k : (Int × Int × Int × Int) → Option ρ) : Option ρ :=
  (L21v1 fuel x1 x2 x3 x4 fuel 0 0 0 0 0
    (fun x22 x23 x24 x25 => (k (x22, x23, x24, x25))))

def F21 (fuel : Nat) (x1 : Nat) (x2 : Nat → Nat → CV) (x3 : Nat) (x4 : Nat → Nat → CV) : Option (Int × Int × Int × Int) := D21 fuel x1 x2 x3 x4 some

theorem n21 {ρ σ : Type} (fuel : Nat) (x1 : Nat) (x2 : Nat → Nat → CV) (x3 : Nat) (x4 : Nat → Nat → CV) (k : (Int × Int × Int × Int) → Option ρ) (g : ρ → Option σ) : ob (D21 fuel x1 x2 x3 x4 k) g = D21 fuel x1 x2 x3 x4 fun t => ob (k t) g := by
  simp only [D21, ob_bif, ob_ob, ob_none, nl21v1]

theorem f21 {ρ : Type} (fuel : Nat) (x1 : Nat) (x2 : Nat → Nat → CV) (x3 : Nat) (x4 : Nat → Nat → CV) (k : (Int × Int × Int × Int) → Option ρ) : D21 fuel x1 x2 x3 x4 k = ob (F21 fuel x1 x2 x3 x4) k := by
  unfold F21
  rw [n21]
  simp only [ob_some]

def s21v2 (x1 : Nat) (x2 : Nat → Nat → CV) (x3 : Nat) (x4 : Nat → Nat → CV) : St := ⟨[.agg [(.c (.ro false (.pr (.int .i64) (.pr (.int .i64) .nil)) x1 x2)), (.c (.ro false (.pr (.sl (.pr (.int .i64) (.pr (.int .i64) .nil))) .nil) x3 x4))], .x (.ptr 0 0), .x (.ptr 1 0), .x (.ptr 2 0), .x (.c (.i .i64 0)), .undef, .agg [(.c (.i .i64 0)), (.c (.i .i64 0)), (.c (.i .i64 0)), (.c (.i .i64 0))], .undef, .undef, .undef, .undef, .undef, .undef, .undef, .undef, .undef, .undef, .undef, .undef, .undef, .undef, .undef, .undef, .undef, .undef, .undef, .undef, .undef, .undef, .undef, .undef, .undef, .undef, .undef, .undef, .undef, .undef, .undef, .undef, .undef, .undef, .undef, .undef, .undef, .undef, .undef, .undef, .undef, .undef, .undef, .undef, .undef, .undef], [.box [(.c (.ro false (.pr (.int .i64) (.pr (.int .i64) .nil)) x1 x2)), (.c (.ro false (.pr (.sl (.pr (.int .i64) (.pr (.int .i64) .nil))) .nil) x3 x4))], .box [(.c (.i .i64 0)), (.c (.i .i64 0)), (.c (.i .i64 0)), (.c (.i .i64 0))], .box [(.c (.i .i64 0)), (.c (.i .i64 0)), (.c (.i .i64 0)), (.c (.i .i64 0))]]⟩

theorem walk21 (fuel : Nat) (x1 : Nat) (x2 : Nat → Nat → CV) (x3 : Nat) (x4 : Nat → Nat → CV) :
    evalF (C72 fuel) fuel A21 [.agg [(.ro false (.pr (.int .i64) (.pr (.int .i64) .nil)) x1 x2), (.ro false (.pr (.sl (.pr (.int .i64) (.pr (.int .i64) .nil))) .nil) x3 x4)]] =
    (loopN (B21v1 (C72 fuel) fuel) N21v1 fuel (s21v2 x1 x2 x3 x4) (kBlk 0 (kSeq (C72 fuel) fuel (4 :: 5 :: (rl 7 45 [])) A21v5 (finish A21)))) := by kernel_rfl

theorem t21v1 (fuel : Nat) {ρ : Type} (k : Ex → St → Option ρ) (x1 : Nat) (x2 : Nat → Nat → CV) (x3 : Nat) (x4 : Nat → Nat → CV) :
    loopN (B21v1 (C72 fuel) fuel) N21v1 fuel (s21v2 x1 x2 x3 x4) k =
    L21v1 fuel x1 x2 x3 x4 fuel 0 0 0 0 0 (fun x18 x19 x20 x21 => k (.exit 0) (s21v1 x1 x2 x3 x4 x18 x19 x20 x21)) :=
  (loopN_at (st' := (s21v0 0 x1 x2 x3 x4 0 0 0 0)) (by kernel_rfl)).trans (q21v1 fuel x1 x2 x3 x4 k fuel 0 0 0 0 0)

theorem g21v2 (fuel : Nat) (x1 : Nat) (x2 : Nat → Nat → CV) (x3 : Nat) (x4 : Nat → Nat → CV) (x22 : Int) (x23 : Int) (x24 : Int) (x25 : Int) :
    (kBlk 0 (kSeq (C72 fuel) fuel (4 :: 5 :: (rl 7 45 [])) A21v5 (finish A21))) (.exit 0) (s21v1 x1 x2 x3 x4 x22 x23 x24 x25) =
    (some [.agg [(.i .i64 x22), (.i .i64 x23), (.i .i64 x24), (.i .i64 x25)]]) := by kernel_rfl

theorem e21 (fuel : Nat) (x1 : Nat) (x2 : Nat → Nat → CV) (x3 : Nat) (x4 : Nat → Nat → CV) : evalF (C72 fuel) fuel A21 [.agg [(.ro false (.pr (.int .i64) (.pr (.int .i64) .nil)) x1 x2), (.ro false (.pr (.sl (.pr (.int .i64) (.pr (.int .i64) .nil))) .nil) x3 x4)]] = ob (F21 fuel x1 x2 x3 x4) fun t => some [.agg [(.i .i64 t.1), (.i .i64 t.2.1), (.i .i64 t.2.2.1), (.i .i64 t.2.2.2)]] := by
  rw [walk21, ← f21]
  simp only [D21, t21v1, g21v2]

def O21 (fuel : Nat) : Ora where
  o := fun args {ρ} K =>
    wc args fun a1 l2 =>
    wagg a1 fun l3 =>
    wc l3 fun c4 l5 =>
    wL (.pr (.int .i64) (.pr (.int .i64) .nil)) c4 fun y6 y7 =>
    wc l5 fun c9 l10 =>
    wL (.pr (.sl (.pr (.int .i64) (.pr (.int .i64) .nil))) .nil) c9 fun y11 y12 =>
    wn l10 <|
    wn l2 <|
    (ob (F21 fuel y6 y7 y11 y12) fun t => K [.agg [(.i .i64 t.1), (.i .i64 t.2.1), (.i .i64 t.2.2.1), (.i .i64 t.2.2.2)]])
  nat := fun args {ρ} K => by
    simp only [bind_wc, bind_wn, bind_wv, bind_wagg, bind_wI, bind_wB, bind_wS, bind_wL, bind_wP, bind_wFn, bind_ob, Option.bind_some]

theorem d21 {P : Program} (fuel : Nat) (hmix : P.follows .mixedOrders = true) (hC : Sound P (C72 fuel)) (hF : FFits P 21 A21) (args res : List A) (h : (O21 fuel).o args some = some res) : Den P 21 args res := by
  obtain ⟨a1, l2, rfl, z0⟩ := inv_wc h
  obtain ⟨l3, rfl, z1⟩ := inv_wagg z0
  obtain ⟨c4, l5, rfl, z2⟩ := inv_wc z1
  obtain ⟨y6, y7, h8, z3⟩ := inv_wL z2
  obtain ⟨c9, l10, rfl, z4⟩ := inv_wc z3
  obtain ⟨y11, y12, h13, z5⟩ := inv_wL z4
  obtain ⟨hn, z6⟩ := inv_wn z5
  cases hn
  obtain ⟨hn, z7⟩ := inv_wn z6
  cases hn
  exact Den.weaken (.cons (WkA.agg (.cons h8 (.cons h13 .nil))) .nil) (evalF_sound hmix hC hF ((e21 fuel y6 y7 y11 y12).trans z7))

def C73 (fuel : Nat) : Oracle := (C72 fuel).add 21 (fun _ => true) (O21 fuel)

/-- shipyard/shipyardlaw13.RegionSums -/
def A4v1 : AC := (.seq (.region 3 [o1 11 (.load 25 (some 2) (tm 1)), o1 12 (.call 16 [(tm 11)] [25] .snap), mv 10 12, o1 13 (.extract (tm 10) 0), o1 14 (.extract (tm 10) 1), o1 3 (.assign (tm 13)), o1 4 (.assign (tm 14))] 0 none) []
  (.seq (.region 4 [o1 16 (.load 25 (some 2) (tm 1)), o1 17 (.call 17 [(tm 16)] [25] .snap), mv 15 17, o1 18 (.extract (tm 15) 0), o1 19 (.extract (tm 15) 1), o1 5 (.assign (tm 18)), o1 6 (.assign (tm 19))] 0 none) []
  (.seq (.region 5 [o1 20 (.load 25 (some 2) (tm 1)), o1 21 (.call 18 [(tm 20)] [25] .snap), o1 22 (.load 25 (some 2) (tm 1)), o1 23 (.call 19 [(tm 22)] [25] .snap), o1 24 (.binOp .eql 3 (tm 21) (tm 23) 3), mv 25 24, og 26 (.move (tm 3)) 25 true, og 27 (.move (tm 5)) 25 true, og 28 (.binOp .eql 3 (tm 26) (tm 27) 3) 25 true, o1 29 (.pick (tm 25) (tm 28) (.const (.bool false))), mv 30 29, og 31 (.move (tm 4)) 30 true, og 32 (.move (tm 6)) 30 true, og 33 (.binOp .eql 3 (tm 31) (tm 32) 3) 30 true, o1 34 (.pick (tm 30) (tm 33) (.const (.bool false))), mv 35 34, og 36 (.load 25 (some 2) (tm 1)) 35 true, og 37 (.call 20 [(tm 36)] [25] .snap) 35 true, og 38 (.load 25 (some 2) (tm 1)) 35 true, og 39 (.call 21 [(tm 38)] [25] .snap) 35 true, og 40 (.eqA false (.pr (.int .i64) (.pr (.int .i64) (.pr (.int .i64) (.pr (.int .i64) .nil)))) 36 (tm 37) (tm 39) 36) 35 true, o1 41 (.pick (tm 35) (tm 40) (.const (.bool false))), mv 42 41, og 43 (.call 15 [] [] .snap) 42 true, o1 44 (.pick (tm 42) (tm 43) (.const (.bool false))), o1 2 (.assign (tm 44))] 0 (some [[], [0], [], [0, 1, 2], (rl 0 4 []), (rl 0 5 []), (rl 0 6 []), (rl 0 6 []), (rl 0 8 []), (rl 0 9 []), (rl 0 10 []), (rl 0 11 []), (rl 0 11 []), (rl 0 13 []), (rl 0 14 []), (rl 0 15 []), (rl 0 16 []), (rl 0 17 []), (rl 0 16 []), (rl 0 19 []), (rl 0 20 []), (rl 0 21 []), (rl 0 22 []), (rl 0 23 []), (rl 0 24 []), (rl 0 25 [])])) []
  (.ret (0 :: 1 :: (rl 3 42 []))))))
def A4 : AF := ⟨45, [.tmp 2],
  (.seq (.region 0 [o1 1 (.box 0 25 (tm 0)), o1 2 (.assign (.const (.bool false)))] 1 none) []
  (.seq (.seq (.region 1 [o1 7 (.load 25 (some 2) (tm 1)), o1 8 (.call 12 [(tm 7)] [25] .snap)] 0 none) []
  (.cond (tm 8)
  (.seq (.region 2 [o1 9 (.call 15 [] [] .snap), o1 2 (.assign (tm 9))] 0 none) []
    (.ret (0 :: 1 :: (rl 3 42 []))))
  .skip)) [2, 7, 8, 9]
  A4v1))⟩

def D4 {ρ : Type} (fuel : Nat) (x1 : Nat) (x2 : Nat → Nat → CV) (x3 : Nat) (x4 : Nat → Nat → CV) (k : Bool → Option ρ) : Option ρ :=
  (ob (F12 fuel x1 x2 x3 x4) fun x5 => (bif x5 then (ob (F15 fuel) fun x6 => (k x6)) else (ob (F16 fuel x1 x2 x3 x4) fun x7 => (ob (F17 fuel x1 x2 x3 x4) fun x8 => (ob (F18 fuel x1 x2 x3 x4) fun x9 => (ob (F19 fuel x1 x2 x3 x4) fun x10 => (bif ((x9 == x10) == true) then (bif ((x7.1 == x8.1) == true) then (bif ((x7.2 == x8.2) == true) then (ob (F20 fuel x1 x2 x3 x4) fun x11 => (ob (F21 fuel x1 x2 x3 x4) fun x12 => (bif (((x11.1 == x12.1) && ((x11.2.1 == x12.2.1) && ((x11.2.2.1 == x12.2.2.1) && ((x11.2.2.2 == x12.2.2.2) && true)))) == true) then (ob (F15 fuel) fun x13 => (k x13)) else (k false)))) else (k false)) else (k false)) else (k false))))))))

def F4 (fuel : Nat) (x1 : Nat) (x2 : Nat → Nat → CV) (x3 : Nat) (x4 : Nat → Nat → CV) : Option (Bool) := D4 fuel x1 x2 x3 x4 some

theorem n4 {ρ σ : Type} (fuel : Nat) (x1 : Nat) (x2 : Nat → Nat → CV) (x3 : Nat) (x4 : Nat → Nat → CV) (k : (Bool) → Option ρ) (g : ρ → Option σ) : ob (D4 fuel x1 x2 x3 x4 k) g = D4 fuel x1 x2 x3 x4 fun t => ob (k t) g := by
  simp only [D4, ob_bif, ob_ob, ob_none]

theorem f4 {ρ : Type} (fuel : Nat) (x1 : Nat) (x2 : Nat → Nat → CV) (x3 : Nat) (x4 : Nat → Nat → CV) (k : (Bool) → Option ρ) : D4 fuel x1 x2 x3 x4 k = ob (F4 fuel x1 x2 x3 x4) k := by
  unfold F4
  rw [n4]
  simp only [ob_some]

theorem walk4 (fuel : Nat) (x1 : Nat) (x2 : Nat → Nat → CV) (x3 : Nat) (x4 : Nat → Nat → CV) :
    evalF (C73 fuel) fuel A4 [.agg [(.ro false (.pr (.int .i64) (.pr (.int .i64) .nil)) x1 x2), (.ro false (.pr (.sl (.pr (.int .i64) (.pr (.int .i64) .nil))) .nil) x3 x4)]] =
    (ob (F12 fuel x1 x2 x3 x4) fun x5 => (bif x5 then (ob (F15 fuel) fun x6 => (some [.v (.b x6)])) else (ob (F16 fuel x1 x2 x3 x4) fun x7 => (ob (F17 fuel x1 x2 x3 x4) fun x8 => (ob (F18 fuel x1 x2 x3 x4) fun x9 => (ob (F19 fuel x1 x2 x3 x4) fun x10 => (bif ((x9 == x10) == true) then (bif ((x7.1 == x8.1) == true) then (bif ((x7.2 == x8.2) == true) then (ob (F20 fuel x1 x2 x3 x4) fun x11 => (ob (F21 fuel x1 x2 x3 x4) fun x12 => (bif (((x11.1 == x12.1) && ((x11.2.1 == x12.2.1) && ((x11.2.2.1 == x12.2.2.1) && ((x11.2.2.2 == x12.2.2.2) && true)))) == true) then (ob (F15 fuel) fun x13 => (some [.v (.b x13)])) else (some [.v (.b false)])))) else (some [.v (.b false)])) else (some [.v (.b false)])) else (some [.v (.b false)])))))))) := by kernel_rfl

theorem e4 (fuel : Nat) (x1 : Nat) (x2 : Nat → Nat → CV) (x3 : Nat) (x4 : Nat → Nat → CV) : evalF (C73 fuel) fuel A4 [.agg [(.ro false (.pr (.int .i64) (.pr (.int .i64) .nil)) x1 x2), (.ro false (.pr (.sl (.pr (.int .i64) (.pr (.int .i64) .nil))) .nil) x3 x4)]] = ob (F4 fuel x1 x2 x3 x4) fun t => some [.v (.b t)] := by
  rw [walk4, ← f4]
  simp only [D4]

def O4 (fuel : Nat) : Ora where
  o := fun args {ρ} K =>
    wc args fun a1 l2 =>
    wagg a1 fun l3 =>
    wc l3 fun c4 l5 =>
    wL (.pr (.int .i64) (.pr (.int .i64) .nil)) c4 fun y6 y7 =>
    wc l5 fun c9 l10 =>
    wL (.pr (.sl (.pr (.int .i64) (.pr (.int .i64) .nil))) .nil) c9 fun y11 y12 =>
    wn l10 <|
    wn l2 <|
    (ob (F4 fuel y6 y7 y11 y12) fun t => K [.v (.b t)])
  nat := fun args {ρ} K => by
    simp only [bind_wc, bind_wn, bind_wv, bind_wagg, bind_wI, bind_wB, bind_wS, bind_wL, bind_wP, bind_wFn, bind_ob, Option.bind_some]

theorem d4 {P : Program} (fuel : Nat) (hmix : P.follows .mixedOrders = true) (hC : Sound P (C73 fuel)) (hF : FFits P 4 A4) (args res : List A) (h : (O4 fuel).o args some = some res) : Den P 4 args res := by
  obtain ⟨a1, l2, rfl, z0⟩ := inv_wc h
  obtain ⟨l3, rfl, z1⟩ := inv_wagg z0
  obtain ⟨c4, l5, rfl, z2⟩ := inv_wc z1
  obtain ⟨y6, y7, h8, z3⟩ := inv_wL z2
  obtain ⟨c9, l10, rfl, z4⟩ := inv_wc z3
  obtain ⟨y11, y12, h13, z5⟩ := inv_wL z4
  obtain ⟨hn, z6⟩ := inv_wn z5
  cases hn
  obtain ⟨hn, z7⟩ := inv_wn z6
  cases hn
  exact Den.weaken (.cons (WkA.agg (.cons h8 (.cons h13 .nil))) .nil) (evalF_sound hmix hC hF ((e4 fuel y6 y7 y11 y12).trans z7))

def C74 (fuel : Nat) : Oracle := (C73 fuel).add 4 (fun _ => true) (O4 fuel)

end Go.Eng.R13
