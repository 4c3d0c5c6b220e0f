/-
  The functions of the program, run on symbols; printed by decomp.py.
-/
import Derived.Test.YtnpgipmbionmgaaDecT1
set_option linter.all false
set_option maxRecDepth 1000000
set_option maxHeartbeats 4000000
namespace Go.Eng.R13
open Go Go.RowKit Go.Eng
def A25v1 : AC := (.region 8 [o1 35 (.binOp .add 3 (tm 28) (ic 1) 3), mv 28 35] 0 none)
def A25v2 : AC := (.seq (.block 1
  (.seq (.region 5 [o1 30 (.indexAddr 23 22 1 (tm 26) (tm 28)), o1 31 (.load 22 none (tm 30)), o1 6 (.assign (tm 31))] 0 none) []
    (.seq (.region 6 [mv 32 6, o1 33 (.call 50 [(tm 32), (.func 49)] [22, 62] .snap)] 0 none) []
    (.cond (tm 33)
    (.seq (.region 7 [o1 34 (.build 25 [.c (.ro true .nil 0 (fun _ _ => .any)), .c (.ro true .nil 0 (fun _ _ => .any))] [(0, 1), (1, 1)] 0 []), o0 (.store 25 2 (tm 4) (tm 34))] 0 none) []
      (.ret (rl 0 4 (rl 5 54 []))))
    .skip)))) (6 :: (rl 30 5 []))
  A25v1)
def A25v3 : AC := (.seq (.region 4 [o1 29 (.binOp .lss 3 (tm 28) (tm 27) 3)] 0 none) []
  (.seq (.cond (tm 29)
  .skip
  (.exit 0 (0 :: 1 :: (rl 5 54 [])))) []
  A25v2))
def A25v4 : AC := (.seq (.block 3
  (.seq (.region 13 [o1 47 (.indexAddr 23 22 1 (tm 43) (tm 45)), o1 48 (.load 22 none (tm 47)), o1 10 (.assign (tm 48))] 0 none) []
    (.region 14 [o1 49 (.fieldAddr 25 (tm 8) 1 1), o1 50 (.load 23 none (tm 49)), mv 51 7, mv 52 10, o1 53 (.callv (tm 51) [(tm 52)] [22] .freeze), o1 54 (.buildSlice 0 23 22 (.pr (.sl (.pr (.int .i64) (.pr (.int .i64) .nil))) .nil) 1 [.c (.ro true .nil 0 (fun _ _ => .any))] [(0, (tm 53))]), o1 55 (.append 1 23 22 (.pr (.sl (.pr (.int .i64) (.pr (.int .i64) .nil))) .nil) 24 (tm 50) (tm 54)), o1 56 (.fieldAddr 25 (tm 8) 1 1), o0 (.store 23 1 (tm 56) (tm 55))] 2 (some [[], [0], [], [], [2, 3], [2, 3, 4], (rl 0 6 []), (rl 0 7 []), (rl 0 8 [])])))) []
  (.region 15 [o1 57 (.binOp .add 3 (tm 45) (ic 1) 3), mv 45 57] 0 none))
def A25v5 : AC := (.seq (.region 12 [o1 46 (.binOp .lss 3 (tm 45) (tm 44) 3)] 0 none) []
  (.seq (.cond (tm 46)
  .skip
  (.exit 2 (rl 0 4 (5 :: 6 :: 7 :: (rl 9 50 []))))) []
  A25v4))
def A25v6 : AC := (.seq (.region 16 [o1 58 (.load 25 (some 2) (tm 8)), o0 (.store 25 2 (tm 4) (tm 58))] 0 none) []
  (.ret (rl 0 4 (rl 5 54 []))))
def A25v7 : AC := (.seq (.region 9 [o1 36 (.mkfn 51 [(tm 3)]), o1 7 (.assign (tm 36))] 0 none) []
  (.seq (.region 10 [mv 37 7, o1 38 (.fieldAddr 25 (tm 2) 0 0), o1 39 (.load 22 none (tm 38)), o1 40 (.callv (tm 37) [(tm 39)] [22] .freeze), o1 41 (.build 25 [.c (.ro true .nil 0 (fun _ _ => .any)), .c (.ro true .nil 0 (fun _ _ => .any))] [(0, 1), (1, 1)] 0 [(0, (tm 40))]), o1 8 (.alloc 0 25 [.c (.ro true .nil 0 (fun _ _ => .any)), .c (.ro true .nil 0 (fun _ _ => .any))]), o0 (.store 25 2 (tm 8) (tm 41))] 1 none) []
  (.seq (.seq (.region 11 [o1 42 (.fieldAddr 25 (tm 2) 1 1), o1 43 (.load 23 none (tm 42)), o1 44 (.len 23 false (tm 43)), o1 45 (.move (ic 0))] 0 none) []
  (.block 2
  (.loop [.cell 8 1 (.pr (.sl (.pr (.int .i64) (.pr (.int .i64) .nil))) .nil)] (rl 0 4 (5 :: 6 :: (rl 9 34 (rl 46 13 []))))
    A25v5))) (10 :: (rl 42 16 []))
  A25v6)))
def A25v8 : AC := (.seq (.seq (.region 3 [o1 25 (.load 25 (some 2) (tm 2)), o1 26 (.call 42 [(tm 25)] [25] .freeze), o1 27 (.len 23 false (tm 26)), o1 28 (.move (ic 0))] 0 none) []
  (.block 0
  (.loop [] (0 :: 1 :: (rl 5 21 (rl 29 30 [])))
    A25v3))) (6 :: (rl 25 11 []))
  A25v7)
def A25 : AF := ⟨59, [.cell 4 25 (some 2)],
  (.seq (.region 0 [o1 2 (.box 0 25 (tm 0)), o1 3 (.box 1 41 (tm 1)), o1 4 (.alloc 2 25 [.c (.ro true .nil 0 (fun _ _ => .any)), .c (.ro true .nil 0 (fun _ _ => .any))])] 3 none) []
  (.seq (.seq (.region 1 [o1 11 (.fieldAddr 41 (tm 3) 2 3), o1 12 (.load 3 none (tm 11)), o1 13 (.binOp .lss 3 (tm 12) (ic 0) 3), mv 14 13, og 15 (.fieldAddr 41 (tm 3) 2 3) 14 false, og 16 (.load 3 none (tm 15)) 14 false, og 17 (.binOp .gtr 3 (tm 16) (ic 3) 3) 14 false, o1 18 (.pick (tm 14) (.const (.bool true)) (tm 17)), mv 19 18, og 20 (.fieldAddr 41 (tm 3) 1 1) 19 false, og 21 (.load 34 (some 2) (tm 20)) 19 false, og 22 (.call 49 [(tm 21)] [34] .snap) 19 false, o1 23 (.pick (tm 19) (.const (.bool true)) (tm 22))] 0 none) []
  (.cond (tm 23)
  (.seq (.region 2 [o1 24 (.build 25 [.c (.ro true .nil 0 (fun _ _ => .any)), .c (.ro true .nil 0 (fun _ _ => .any))] [(0, 1), (1, 1)] 0 []), o0 (.store 25 2 (tm 4) (tm 24))] 0 none) []
    (.ret (rl 0 4 (rl 5 54 []))))
  .skip)) (rl 11 14 [])
  A25v8))⟩
def B25v1 (C : Oracle) (fuel : Nat) {ρ : Type} : St → (Ex → St → Option ρ) → Option ρ := fun st k => evalC C fuel A25v3 st k
def N25v1 : St → Option St := fun s => s.norm (0 :: 1 :: (rl 5 21 (rl 29 30 []))) 3
def s25v0 (x25 : Nat) (x26 : Nat → Nat → CV) (x27 : Int) (x28 : Int) (x29 : Nat) (x30 : Nat → Nat → CV) (x31 : Nat) (x32 : Nat → Nat → CV) (x33 : ByteArray) (x34 : Int) (x35 : Int) (x36 : Int) (x37 : Bool) : St := ⟨(.u :: .u :: .x (.ptr 0 0) :: .x (.ptr 1 0) :: .x (.ptr 2 0) :: (us 21 (.x (.c (.ro false (.pr (.sl (.pr (.int .i64) (.pr (.int .i64) .nil))) .nil) x25 x26)) :: .x (.c (.i .i64 x27)) :: .x (.c (.i .i64 x28)) :: (us 30 [])))), [.box [(.c (.ro false (.pr (.int .i64) (.pr (.int .i64) .nil)) x29 x30)), (.c (.ro false (.pr (.sl (.pr (.int .i64) (.pr (.int .i64) .nil))) .nil) x31 x32))], .box [(.c (.s x33)), (.c (.i .i64 x34)), (.c (.i .i64 x35)), (.c (.i .i64 x36)), (.c (.b x37))], .box [(.c (.ro true .nil 0 (fun _ _ => .any))), (.c (.ro true .nil 0 (fun _ _ => .any)))]]⟩
def s25v1 (x29 : Nat) (x30 : Nat → Nat → CV) (x31 : Nat) (x32 : Nat → Nat → CV) (x33 : ByteArray) (x34 : Int) (x35 : Int) (x36 : Int) (x37 : Bool) : St := ⟨(us 4 (.x (.ptr 2 0) :: (us 54 []))), [.box [(.c (.ro false (.pr (.int .i64) (.pr (.int .i64) .nil)) x29 x30)), (.c (.ro false (.pr (.sl (.pr (.int .i64) (.pr (.int .i64) .nil))) .nil) x31 x32))], .box [(.c (.s x33)), (.c (.i .i64 x34)), (.c (.i .i64 x35)), (.c (.i .i64 x36)), (.c (.b x37))], .box [(.c (.ro true .nil 0 (fun _ _ => .any))), (.c (.ro true .nil 0 (fun _ _ => .any)))]]⟩
def s25v2 (x29 : Nat) (x30 : Nat → Nat → CV) (x31 : Nat) (x32 : Nat → Nat → CV) (x33 : ByteArray) (x34 : Int) (x35 : Int) (x36 : Int) (x37 : Bool) : St := ⟨(.u :: .u :: .x (.ptr 0 0) :: .x (.ptr 1 0) :: .x (.ptr 2 0) :: (us 54 [])), [.box [(.c (.ro false (.pr (.int .i64) (.pr (.int .i64) .nil)) x29 x30)), (.c (.ro false (.pr (.sl (.pr (.int .i64) (.pr (.int .i64) .nil))) .nil) x31 x32))], .box [(.c (.s x33)), (.c (.i .i64 x34)), (.c (.i .i64 x35)), (.c (.i .i64 x36)), (.c (.b x37))], .box [(.c (.ro true .nil 0 (fun _ _ => .any))), (.c (.ro true .nil 0 (fun _ _ => .any)))]]⟩
def L25v1 {ρ : Type} (fuel : Nat) (x25 : Nat) (x26 : Nat → Nat → CV) (x27 : Int) (x29 : Nat) (x30 : Nat → Nat → CV) (x31 : Nat) (x32 : Nat → Nat → CV) (x33 : ByteArray) (x34 : Int) (x35 : Int) (x36 : Int) (x37 : Bool) : Nat → Int → (Option ρ) → (Option ρ) → Option ρ
  | 0, _, _, _ => none
  | m + 1, x28, k0, k1 =>
    (bif (decide (x28 < x27)) then (bif (inb x28 x25) then (ob (F50c fuel (CV.len (x26 (Int.toNat x28) 0)) (CV.el (x26 (Int.toNat x28) 0))) fun x38 => (bif x38 then k0 else (L25v1 fuel x25 x26 x27 x29 x30 x31 x32 x33 x34 x35 x36 x37 m (w64 (x28 + 1)) k0 k1))) else none) else k1)
theorem nl25v1 {ρ σ : Type} (fuel : Nat) (x25 : Nat) (x26 : Nat → Nat → CV) (x27 : Int) (x29 : Nat) (x30 : Nat → Nat → CV) (x31 : Nat) (x32 : Nat → Nat → CV) (x33 : ByteArray) (x34 : Int) (x35 : Int) (x36 : Int) (x37 : Bool) (g : ρ → Option σ) : ∀ (m : Nat) (x28 : Int) (k0 : Option ρ) (k1 : Option ρ), ob (L25v1 fuel x25 x26 x27 x29 x30 x31 x32 x33 x34 x35 x36 x37 m x28 k0 k1) g = L25v1 fuel x25 x26 x27 x29 x30 x31 x32 x33 x34 x35 x36 x37 m x28 (ob k0 g) (ob k1 g)
  | 0, _, _, _ => rfl
  | m + 1, x28, k0, k1 => by
    simp only [L25v1, ob_bif, ob_ob, ob_none, nl25v1 fuel x25 x26 x27 x29 x30 x31 x32 x33 x34 x35 x36 x37 g m]
theorem r25v1 (fuel : Nat) (m : Nat) {ρ : Type} (k : Ex → St → Option ρ) (x25 : Nat) (x26 : Nat → Nat → CV) (x27 : Int) (x29 : Nat) (x30 : Nat → Nat → CV) (x31 : Nat) (x32 : Nat → Nat → CV) (x33 : ByteArray) (x34 : Int) (x35 : Int) (x36 : Int) (x37 : Bool) (x28 : Int) :
    loopH (B25v1 (C48 fuel) fuel) N25v1 (m + 1) (s25v0 x25 x26 x27 x28 x29 x30 x31 x32 x33 x34 x35 x36 x37) k =
    (bif (decide (x28 < x27)) then (bif (inb x28 x25) then (ob (F50c fuel (CV.len (x26 (Int.toNat x28) 0)) (CV.el (x26 (Int.toNat x28) 0))) fun x38 => (bif x38 then (k .ret (s25v1 x29 x30 x31 x32 x33 x34 x35 x36 x37)) else (loopH (B25v1 (C48 fuel) fuel) N25v1 m (s25v0 x25 x26 x27 (w64 (x28 + 1)) x29 x30 x31 x32 x33 x34 x35 x36 x37) k))) else none) else (k (.exit 0) (s25v2 x29 x30 x31 x32 x33 x34 x35 x36 x37))) := by kernel_rfl
theorem q25v1 (fuel : Nat) (x25 : Nat) (x26 : Nat → Nat → CV) (x27 : Int) (x29 : Nat) (x30 : Nat → Nat → CV) (x31 : Nat) (x32 : Nat → Nat → CV) (x33 : ByteArray) (x34 : Int) (x35 : Int) (x36 : Int) (x37 : Bool) {ρ : Type} (k : Ex → St → Option ρ) : ∀ (m : Nat) (x28 : Int),
    loopH (B25v1 (C48 fuel) fuel) N25v1 m (s25v0 x25 x26 x27 x28 x29 x30 x31 x32 x33 x34 x35 x36 x37) k = L25v1 fuel x25 x26 x27 x29 x30 x31 x32 x33 x34 x35 x36 x37 m x28 (k .ret (s25v1 x29 x30 x31 x32 x33 x34 x35 x36 x37)) (k (.exit 0) (s25v2 x29 x30 x31 x32 x33 x34 x35 x36 x37))
  | 0, _ => rfl
  | m + 1, x28 => by
    rw [r25v1]
    simp only [L25v1, q25v1 fuel x25 x26 x27 x29 x30 x31 x32 x33 x34 x35 x36 x37 k m]
def B25v2 (C : Oracle) (fuel : Nat) {ρ : Type} : St → (Ex → St → Option ρ) → Option ρ := fun st k => evalC C fuel A25v5 st k
def N25v2 : St → Option St := fun s => s.norm (rl 0 4 (5 :: 6 :: (rl 9 34 (rl 46 13 [])))) 5
def s25v3 (x53 : ByteArray) (x54 : Int) (x55 : Int) (x56 : Int) (x57 : Bool) (x58 : Nat) (x59 : Nat → Nat → CV) (x60 : Int) (x61 : Int) (x62 : Nat) (x63 : Nat → Nat → CV) (x64 : Nat) (x65 : Nat → Nat → CV) (x66 : Nat) (x67 : Nat → Nat → CV) : St := ⟨(us 4 (.x (.ptr 2 0) :: .u :: .u :: .x (.c (.fn 51 1 (listF [(.rp (.pr .str (.pr (.int .i64) (.pr (.int .i64) (.pr (.int .i64) (.pr .bool .nil))))) (listF [(.s x53), (.i .i64 x54), (.i .i64 x55), (.i .i64 x56), (.b x57)]))]))) :: .x (.ptr 3 0) :: (us 34 (.x (.c (.ro false (.pr (.sl (.pr (.int .i64) (.pr (.int .i64) .nil))) .nil) x58 x59)) :: .x (.c (.i .i64 x60)) :: .x (.c (.i .i64 x61)) :: (us 13 []))))), [.box [(.c (.ro false (.pr (.int .i64) (.pr (.int .i64) .nil)) x62 x63)), (.c (.ro false (.pr (.sl (.pr (.int .i64) (.pr (.int .i64) .nil))) .nil) x58 x59))], .dead, .box [(.c (.ro true .nil 0 (fun _ _ => .any))), (.c (.ro true .nil 0 (fun _ _ => .any)))], .box [(.c (.ro false (.pr (.int .i64) (.pr (.int .i64) .nil)) x64 x65)), (.own 4 0 x66)], .arr (.pr (.sl (.pr (.int .i64) (.pr (.int .i64) .nil))) .nil) x66 x67]⟩
def s25v4 (x62 : Nat) (x63 : Nat → Nat → CV) (x58 : Nat) (x59 : Nat → Nat → CV) (x64 : Nat) (x65 : Nat → Nat → CV) (x69 : Nat) (x70 : Nat → Nat → CV) : St := ⟨(us 4 (.x (.ptr 2 0) :: (us 3 (.x (.ptr 3 0) :: (us 50 []))))), [.box [(.c (.ro false (.pr (.int .i64) (.pr (.int .i64) .nil)) x62 x63)), (.c (.ro false (.pr (.sl (.pr (.int .i64) (.pr (.int .i64) .nil))) .nil) x58 x59))], .dead, .box [(.c (.ro true .nil 0 (fun _ _ => .any))), (.c (.ro true .nil 0 (fun _ _ => .any)))], .box [(.c (.ro false (.pr (.int .i64) (.pr (.int .i64) .nil)) x64 x65)), (.own 4 0 x69)], .arr (.pr (.sl (.pr (.int .i64) (.pr (.int .i64) .nil))) .nil) x69 x70]⟩
def L25v2 {ρ : Type} (fuel : Nat) (x53 : ByteArray) (x54 : Int) (x55 : Int) (x56 : Int) (x57 : Bool) (x58 : Nat) (x59 : Nat → Nat → CV) (x60 : Int) (x62 : Nat) (x63 : Nat → Nat → CV) (x64 : Nat) (x65 : Nat → Nat → CV) : Nat → Int → Nat → (Nat → Nat → CV) → (Nat → (Nat → Nat → CV) → Option ρ) → Option ρ
  | 0, _, _, _, _ => none
  | m + 1, x61, x66, x67, k0 =>
    (bif (decide (x61 < x60)) then (bif (inb x61 x58) then (ob (F51 fuel (CV.len (x59 (Int.toNat x61) 0)) (CV.el (x59 (Int.toNat x61) 0)) (listF [(.s x53), (.i .i64 x54), (.i .i64 x55), (.i .i64 x56), (.b x57)])) fun x68 => (bif (Nat.ble (x66 + 1) 1073741824) then (L25v2 fuel x53 x54 x55 x56 x57 x58 x59 x60 x62 x63 x64 x65 m (w64 (x61 + 1)) (x66 + 1) (joinF x66 x67 (rowsF 1 [(.ro false (.pr (.int .i64) (.pr (.int .i64) .nil)) x68.1 x68.2)])) k0) else none)) else none) else (k0 x66 x67))
theorem nl25v2 {ρ σ : Type} (fuel : Nat) (x53 : ByteArray) (x54 : Int) (x55 : Int) (x56 : Int) (x57 : Bool) (x58 : Nat) (x59 : Nat → Nat → CV) (x60 : Int) (x62 : Nat) (x63 : Nat → Nat → CV) (x64 : Nat) (x65 : Nat → Nat → CV) (g : ρ → Option σ) : ∀ (m : Nat) (x61 : Int) (x66 : Nat) (x67 : Nat → Nat → CV) (k0 : Nat → (Nat → Nat → CV) → Option ρ), ob (L25v2 fuel x53 x54 x55 x56 x57 x58 x59 x60 x62 x63 x64 x65 m x61 x66 x67 k0) g = L25v2 fuel x53 x54 x55 x56 x57 x58 x59 x60 x62 x63 x64 x65 m x61 x66 x67 (fun x69 x70 => ob (k0 x69 x70) g)
  | 0, _, _, _, _ => rfl
  | m + 1, x61, x66, x67, k0 => by
    simp only [L25v2, ob_bif, ob_ob, ob_none, nl25v2 fuel x53 x54 x55 x56 x57 x58 x59 x60 x62 x63 x64 x65 g m]
theorem r25v2 (fuel : Nat) (m : Nat) {ρ : Type} (k : Ex → St → Option ρ) (x53 : ByteArray) (x54 : Int) (x55 : Int) (x56 : Int) (x57 : Bool) (x58 : Nat) (x59 : Nat → Nat → CV) (x60 : Int) (x62 : Nat) (x63 : Nat → Nat → CV) (x64 : Nat) (x65 : Nat → Nat → CV) (x61 : Int) (x66 : Nat) (x67 : Nat → Nat → CV) :
    loopH (B25v2 (C48 fuel) fuel) N25v2 (m + 1) (s25v3 x53 x54 x55 x56 x57 x58 x59 x60 x61 x62 x63 x64 x65 x66 x67) k =
    (bif (decide (x61 < x60)) then (bif (inb x61 x58) then (ob (F51 fuel (CV.len (x59 (Int.toNat x61) 0)) (CV.el (x59 (Int.toNat x61) 0)) (listF [(.s x53), (.i .i64 x54), (.i .i64 x55), (.i .i64 x56), (.b x57)])) fun x68 => (bif (Nat.ble (x66 + 1) 1073741824) then (loopH (B25v2 (C48 fuel) fuel) N25v2 m (s25v3 x53 x54 x55 x56 x57 x58 x59 x60 (w64 (x61 + 1)) x62 x63 x64 x65 (x66 + 1) (joinF x66 x67 (rowsF 1 [(.ro false (.pr (.int .i64) (.pr (.int .i64) .nil)) x68.1 x68.2)]))) k) else none)) else none) else (k (.exit 2) (s25v4 x62 x63 x58 x59 x64 x65 x66 x67))) := by kernel_rfl
theorem q25v2 (fuel : Nat) (x53 : ByteArray) (x54 : Int) (x55 : Int) (x56 : Int) (x57 : Bool) (x58 : Nat) (x59 : Nat → Nat → CV) (x60 : Int) (x62 : Nat) (x63 : Nat → Nat → CV) (x64 : Nat) (x65 : Nat → Nat → CV) {ρ : Type} (k : Ex → St → Option ρ) : ∀ (m : Nat) (x61 : Int) (x66 : Nat) (x67 : Nat → Nat → CV),
    loopH (B25v2 (C48 fuel) fuel) N25v2 m (s25v3 x53 x54 x55 x56 x57 x58 x59 x60 x61 x62 x63 x64 x65 x66 x67) k = L25v2 fuel x53 x54 x55 x56 x57 x58 x59 x60 x62 x63 x64 x65 m x61 x66 x67 (fun x69 x70 => k (.exit 2) (s25v4 x62 x63 x58 x59 x64 x65 x69 x70))
  | 0, _, _, _ => rfl
  | m + 1, x61, x66, x67 => by
    rw [r25v2]
    simp only [L25v2, q25v2 fuel x53 x54 x55 x56 x57 x58 x59 x60 x62 x63 x64 x65 k m]
def D25 {ρ : Type} (fuel : Nat) (x1 : Nat) (x2 : Nat → Nat → CV) (x3 : Nat) (x4 : Nat → Nat → CV) (x5 : ByteArray) (x6 : Int) (x7 : Int) (x8 : Int) (x9 : Bool) (k : (Bool × Nat × (Nat → Nat → CV) × Nat × (Nat → Nat → CV)) → Option ρ) : Option ρ :=
  (bif ((decide (x8 < 0)) == false) then (bif ((decide (x8 > 3)) == false) then (ob (F49 fuel x6 x7) fun x10 => (bif x10 then (k (true, 0, (fun _ _ => .any), 0, (fun _ _ => .any))) else (ob (F42 fuel x1 x2 x3 x4) fun x11 => (L25v1 fuel x11.1 x11.2 (Int.ofNat x11.1) x1 x2 x3 x4 x5 x6 x7 x8 x9 fuel 0
    (k (true, 0, (fun _ _ => .any), 0, (fun _ _ => .any)))
    (ob (F51 fuel x1 x2 (listF [(.s x5), (.i .i64 x6), (.i .i64 x7), (.i .i64 x8), (.b x9)])) fun x39 => (L25v2 fuel x5 x6 x7 x8 x9 x3 x4 (Int.ofNat x3) x1 x2 x39.1 x39.2 fuel 0 0 (fun _ _ => .any)
    (fun x71 x72 => (k (false, x39.1, x39.2, x71, x72))))))))) else (k (true, 0, (fun _ _ => .any), 0, (fun _ _ => .any)))) else (k (true, 0, (fun _ _ => .any), 0, (fun _ _ => .any))))
def FT25 (fuel : Nat) (x1 : Nat) (x2 : Nat → Nat → CV) (x3 : Nat) (x4 : Nat → Nat → CV) (x5 : ByteArray) (x6 : Int) (x7 : Int) (x8 : Int) (x9 : Bool) : Option (Bool × Nat × (Nat → Nat → CV) × Nat × (Nat → Nat → CV)) := D25 fuel x1 x2 x3 x4 x5 x6 x7 x8 x9 some
theorem n25 {ρ σ : Type} (fuel : Nat) (x1 : Nat) (x2 : Nat → Nat → CV) (x3 : Nat) (x4 : Nat → Nat → CV) (x5 : ByteArray) (x6 : Int) (x7 : Int) (x8 : Int) (x9 : Bool) (k : (Bool × Nat × (Nat → Nat → CV) × Nat × (Nat → Nat → CV)) → Option ρ) (g : ρ → Option σ) : ob (D25 fuel x1 x2 x3 x4 x5 x6 x7 x8 x9 k) g = D25 fuel x1 x2 x3 x4 x5 x6 x7 x8 x9 fun t => ob (k t) g := by
  simp only [D25, ob_bif, ob_ob, ob_none, nl25v1, nl25v2]
theorem f25 {ρ : Type} (fuel : Nat) (x1 : Nat) (x2 : Nat → Nat → CV) (x3 : Nat) (x4 : Nat → Nat → CV) (x5 : ByteArray) (x6 : Int) (x7 : Int) (x8 : Int) (x9 : Bool) (k : (Bool × Nat × (Nat → Nat → CV) × Nat × (Nat → Nat → CV)) → Option ρ) : D25 fuel x1 x2 x3 x4 x5 x6 x7 x8 x9 k = ob (FT25 fuel x1 x2 x3 x4 x5 x6 x7 x8 x9) k := by
  unfold FT25
  rw [n25]
  simp only [ob_some]
def s25v5 (x1 : Nat) (x2 : Nat → Nat → CV) (x3 : Nat) (x4 : Nat → Nat → CV) (x5 : ByteArray) (x6 : Int) (x7 : Int) (x8 : Int) (x9 : Bool) (x11 : Nat × (Nat → Nat → CV)) : St := ⟨(.agg [(.c (.ro false (.pr (.int .i64) (.pr (.int .i64) .nil)) x1 x2)), (.c (.ro false (.pr (.sl (.pr (.int .i64) (.pr (.int .i64) .nil))) .nil) x3 x4))] :: .agg [(.c (.s x5)), (.c (.i .i64 x6)), (.c (.i .i64 x7)), (.c (.i .i64 x8)), (.c (.b x9))] :: .x (.ptr 0 0) :: .x (.ptr 1 0) :: .x (.ptr 2 0) :: .undef :: .undef :: .undef :: .undef :: .undef :: .undef :: (us 14 [.agg [(.c (.ro false (.pr (.int .i64) (.pr (.int .i64) .nil)) x1 x2)), (.c (.ro false (.pr (.sl (.pr (.int .i64) (.pr (.int .i64) .nil))) .nil) x3 x4))], .x (.c (.ro false (.pr (.sl (.pr (.int .i64) (.pr (.int .i64) .nil))) .nil) x11.1 x11.2)), .x (.c (.i .i64 (Int.ofNat x11.1))), .x (.c (.i .i64 0)), .undef, .undef, .undef, .undef, .undef, .undef, .undef, .undef, .undef, .undef, .undef, .undef, .undef, .undef, .undef, .undef, .undef, .undef, .undef, .undef, .undef, .undef, .undef, .undef, .undef, .undef, .undef, .undef, .undef, .undef])), [.box [(.c (.ro false (.pr (.int .i64) (.pr (.int .i64) .nil)) x1 x2)), (.c (.ro false (.pr (.sl (.pr (.int .i64) (.pr (.int .i64) .nil))) .nil) x3 x4))], .box [(.c (.s x5)), (.c (.i .i64 x6)), (.c (.i .i64 x7)), (.c (.i .i64 x8)), (.c (.b x9))], .box [(.c (.ro true .nil 0 (fun _ _ => .any))), (.c (.ro true .nil 0 (fun _ _ => .any)))]]⟩
theorem walk25 (fuel : Nat) (x1 : Nat) (x2 : Nat → Nat → CV) (x3 : Nat) (x4 : Nat → Nat → CV) (x5 : ByteArray) (x6 : Int) (x7 : Int) (x8 : Int) (x9 : Bool) :
    evalF (C48 fuel) fuel A25 [.agg [(.ro false (.pr (.int .i64) (.pr (.int .i64) .nil)) x1 x2), (.ro false (.pr (.sl (.pr (.int .i64) (.pr (.int .i64) .nil))) .nil) x3 x4)], .agg [(.s x5), (.i .i64 x6), (.i .i64 x7), (.i .i64 x8), (.b x9)]] =
    (bif ((decide (x8 < 0)) == false) then (bif ((decide (x8 > 3)) == false) then (ob (F49 fuel x6 x7) fun x10 => (bif x10 then (some [.agg [(.ro true .nil 0 (fun _ _ => .any)), (.ro true .nil 0 (fun _ _ => .any))]]) else (ob (F42 fuel x1 x2 x3 x4) fun x11 => (loopN (B25v1 (C48 fuel) fuel) N25v1 fuel (s25v5 x1 x2 x3 x4 x5 x6 x7 x8 x9 x11) (kBlk 0 (kSeq (C48 fuel) fuel (6 :: (rl 25 11 [])) A25v7 (finish A25))))))) else (some [.agg [(.ro true .nil 0 (fun _ _ => .any)), (.ro true .nil 0 (fun _ _ => .any))]])) else (some [.agg [(.ro true .nil 0 (fun _ _ => .any)), (.ro true .nil 0 (fun _ _ => .any))]])) := by kernel_rfl
theorem t25v1 (fuel : Nat) {ρ : Type} (k : Ex → St → Option ρ) (x1 : Nat) (x2 : Nat → Nat → CV) (x3 : Nat) (x4 : Nat → Nat → CV) (x5 : ByteArray) (x6 : Int) (x7 : Int) (x8 : Int) (x9 : Bool) (x11 : Nat × (Nat → Nat → CV)) :
    loopN (B25v1 (C48 fuel) fuel) N25v1 fuel (s25v5 x1 x2 x3 x4 x5 x6 x7 x8 x9 x11) k =
    L25v1 fuel x11.1 x11.2 (Int.ofNat x11.1) x1 x2 x3 x4 x5 x6 x7 x8 x9 fuel 0 (k .ret (s25v1 x1 x2 x3 x4 x5 x6 x7 x8 x9)) (k (.exit 0) (s25v2 x1 x2 x3 x4 x5 x6 x7 x8 x9)) :=
  (loopN_at (st' := (s25v0 x11.1 x11.2 (Int.ofNat x11.1) 0 x1 x2 x3 x4 x5 x6 x7 x8 x9)) (by kernel_rfl)).trans (q25v1 fuel x11.1 x11.2 (Int.ofNat x11.1) x1 x2 x3 x4 x5 x6 x7 x8 x9 k fuel 0)
theorem g25v2 (fuel : Nat) (x1 : Nat) (x2 : Nat → Nat → CV) (x3 : Nat) (x4 : Nat → Nat → CV) (x5 : ByteArray) (x6 : Int) (x7 : Int) (x8 : Int) (x9 : Bool) :
    (kBlk 0 (kSeq (C48 fuel) fuel (6 :: (rl 25 11 [])) A25v7 (finish A25))) .ret (s25v1 x1 x2 x3 x4 x5 x6 x7 x8 x9) =
    (some [.agg [(.ro true .nil 0 (fun _ _ => .any)), (.ro true .nil 0 (fun _ _ => .any))]]) := by kernel_rfl
def s25v6 (x5 : ByteArray) (x6 : Int) (x7 : Int) (x8 : Int) (x9 : Bool) (x1 : Nat) (x2 : Nat → Nat → CV) (x39 : Nat × (Nat → Nat → CV)) (x3 : Nat) (x4 : Nat → Nat → CV) : St := ⟨(.u :: .u :: .x (.ptr 0 0) :: .x (.c (.rp (.pr .str (.pr (.int .i64) (.pr (.int .i64) (.pr (.int .i64) (.pr .bool .nil))))) (listF [(.s x5), (.i .i64 x6), (.i .i64 x7), (.i .i64 x8), (.b x9)]))) :: .x (.ptr 2 0) :: .u :: .u :: .x (.c (.fn 51 1 (listF [(.rp (.pr .str (.pr (.int .i64) (.pr (.int .i64) (.pr (.int .i64) (.pr .bool .nil))))) (listF [(.s x5), (.i .i64 x6), (.i .i64 x7), (.i .i64 x8), (.b x9)]))]))) :: .x (.ptr 3 0) :: (us 27 (.x (.c (.fn 51 1 (listF [(.rp (.pr .str (.pr (.int .i64) (.pr (.int .i64) (.pr (.int .i64) (.pr .bool .nil))))) (listF [(.s x5), (.i .i64 x6), (.i .i64 x7), (.i .i64 x8), (.b x9)]))]))) :: .x (.c (.fn 51 1 (listF [(.rp (.pr .str (.pr (.int .i64) (.pr (.int .i64) (.pr (.int .i64) (.pr .bool .nil))))) (listF [(.s x5), (.i .i64 x6), (.i .i64 x7), (.i .i64 x8), (.b x9)]))]))) :: .x (.ptr 0 0) :: .x (.c (.ro false (.pr (.int .i64) (.pr (.int .i64) .nil)) x1 x2)) :: .x (.c (.ro false (.pr (.int .i64) (.pr (.int .i64) .nil)) x39.1 x39.2)) :: .agg [(.c (.ro false (.pr (.int .i64) (.pr (.int .i64) .nil)) x39.1 x39.2)), (.c (.ro true .nil 0 (fun _ _ => .any)))] :: .x (.ptr 0 1) :: .x (.c (.ro false (.pr (.sl (.pr (.int .i64) (.pr (.int .i64) .nil))) .nil) x3 x4)) :: .x (.c (.i .i64 (Int.ofNat x3))) :: .x (.c (.i .i64 0)) :: (us 13 [])))), [.box [(.c (.ro false (.pr (.int .i64) (.pr (.int .i64) .nil)) x1 x2)), (.c (.ro false (.pr (.sl (.pr (.int .i64) (.pr (.int .i64) .nil))) .nil) x3 x4))], .dead, .box [(.c (.ro true .nil 0 (fun _ _ => .any))), (.c (.ro true .nil 0 (fun _ _ => .any)))], .box [(.c (.ro false (.pr (.int .i64) (.pr (.int .i64) .nil)) x39.1 x39.2)), (.own 4 0 0)], .arr (.pr (.sl (.pr (.int .i64) (.pr (.int .i64) .nil))) .nil) 0 (fun _ _ => .any)]⟩
theorem g25v3 (fuel : Nat) (x1 : Nat) (x2 : Nat → Nat → CV) (x3 : Nat) (x4 : Nat → Nat → CV) (x5 : ByteArray) (x6 : Int) (x7 : Int) (x8 : Int) (x9 : Bool) :
    (kBlk 0 (kSeq (C48 fuel) fuel (6 :: (rl 25 11 [])) A25v7 (finish A25))) (.exit 0) (s25v2 x1 x2 x3 x4 x5 x6 x7 x8 x9) =
    (ob (F51 fuel x1 x2 (listF [(.s x5), (.i .i64 x6), (.i .i64 x7), (.i .i64 x8), (.b x9)])) fun x39 => (loopN (B25v2 (C48 fuel) fuel) N25v2 fuel (s25v6 x5 x6 x7 x8 x9 x1 x2 x39 x3 x4) (kBlk 2 (kSeq (C48 fuel) fuel (10 :: (rl 42 16 [])) A25v6 (finish A25))))) := by kernel_rfl
theorem t25v4 (fuel : Nat) {ρ : Type} (k : Ex → St → Option ρ) (x5 : ByteArray) (x6 : Int) (x7 : Int) (x8 : Int) (x9 : Bool) (x1 : Nat) (x2 : Nat → Nat → CV) (x39 : Nat × (Nat → Nat → CV)) (x3 : Nat) (x4 : Nat → Nat → CV) :
    loopN (B25v2 (C48 fuel) fuel) N25v2 fuel (s25v6 x5 x6 x7 x8 x9 x1 x2 x39 x3 x4) k =
    L25v2 fuel x5 x6 x7 x8 x9 x3 x4 (Int.ofNat x3) x1 x2 x39.1 x39.2 fuel 0 0 (fun _ _ => .any) (fun x69 x70 => k (.exit 2) (s25v4 x1 x2 x3 x4 x39.1 x39.2 x69 x70)) :=
  (loopN_at (st' := (s25v3 x5 x6 x7 x8 x9 x3 x4 (Int.ofNat x3) 0 x1 x2 x39.1 x39.2 0 (fun _ _ => .any))) (by kernel_rfl)).trans (q25v2 fuel x5 x6 x7 x8 x9 x3 x4 (Int.ofNat x3) x1 x2 x39.1 x39.2 k fuel 0 0 (fun _ _ => .any))
theorem g25v5 (fuel : Nat) (x1 : Nat) (x2 : Nat → Nat → CV) (x3 : Nat) (x4 : Nat → Nat → CV) (x39 : Nat × (Nat → Nat → CV)) (x71 : Nat) (x72 : Nat → Nat → CV) :
    (kBlk 2 (kSeq (C48 fuel) fuel (10 :: (rl 42 16 [])) A25v6 (finish A25))) (.exit 2) (s25v4 x1 x2 x3 x4 x39.1 x39.2 x71 x72) =
    (some [.agg [(.ro false (.pr (.int .i64) (.pr (.int .i64) .nil)) x39.1 x39.2), (.ro false (.pr (.sl (.pr (.int .i64) (.pr (.int .i64) .nil))) .nil) x71 x72)]]) := by kernel_rfl
theorem e25 (fuel : Nat) (x1 : Nat) (x2 : Nat → Nat → CV) (x3 : Nat) (x4 : Nat → Nat → CV) (x5 : ByteArray) (x6 : Int) (x7 : Int) (x8 : Int) (x9 : Bool) : evalF (C48 fuel) fuel A25 [.agg [(.ro false (.pr (.int .i64) (.pr (.int .i64) .nil)) x1 x2), (.ro false (.pr (.sl (.pr (.int .i64) (.pr (.int .i64) .nil))) .nil) x3 x4)], .agg [(.s x5), (.i .i64 x6), (.i .i64 x7), (.i .i64 x8), (.b x9)]] = ob (FT25 fuel x1 x2 x3 x4 x5 x6 x7 x8 x9) fun t => some (bif t.1 then [.agg [(.ro true .nil 0 (fun _ _ => .any)), (.ro true .nil 0 (fun _ _ => .any))]] else [.agg [(.ro false (.pr (.int .i64) (.pr (.int .i64) .nil)) t.2.1 t.2.2.1), (.ro false (.pr (.sl (.pr (.int .i64) (.pr (.int .i64) .nil))) .nil) t.2.2.2.1 t.2.2.2.2)]]) := by
  rw [walk25, ← f25]
  simp only [D25, t25v1, g25v2, g25v3, t25v4, g25v5, cond_true, cond_false]
def F25 (fuel : Nat) (x1 : Nat) (x2 : Nat → Nat → CV) (x3 : Nat) (x4 : Nat → Nat → CV) (x5 : ByteArray) (x6 : Int) (x7 : Int) (x8 : Int) (x9 : Bool) : Option (Nat × (Nat → Nat → CV) × Nat × (Nat → Nat → CV)) := ob (FT25 fuel x1 x2 x3 x4 x5 x6 x7 x8 x9) fun t => some (bif t.1 then (0, (fun _ _ => .any), 0, (fun _ _ => .any)) else (t.2.1, t.2.2.1, t.2.2.2.1, t.2.2.2.2))
def O25 (fuel : Nat) : Ora where
  o := fun args {ρ} K =>
    wc args fun a1 l2 =>
    wagg a1 fun l3 =>
    wc l3 fun c4 l5 =>
    wL (.pr (.int .i64) (.pr (.int .i64) .nil)) c4 fun y6 y7 =>
    wc l5 fun c9 l10 =>
    wL (.pr (.sl (.pr (.int .i64) (.pr (.int .i64) .nil))) .nil) c9 fun y11 y12 =>
    wn l10 <|
    wc l2 fun a14 l15 =>
    wagg a14 fun l16 =>
    wc l16 fun c17 l18 =>
    wS c17 fun y19 =>
    wc l18 fun c21 l22 =>
    wI .i64 c21 fun y23 =>
    wc l22 fun c25 l26 =>
    wI .i64 c25 fun y27 =>
    wc l26 fun c29 l30 =>
    wI .i64 c29 fun y31 =>
    wc l30 fun c33 l34 =>
    wB c33 fun y35 =>
    wn l34 <|
    wn l15 <|
    (ob (F25 fuel y6 y7 y11 y12 y19 y23 y27 y31 y35) fun t => K [.agg [(.ro false (.pr (.int .i64) (.pr (.int .i64) .nil)) t.1 t.2.1), (.ro false (.pr (.sl (.pr (.int .i64) (.pr (.int .i64) .nil))) .nil) t.2.2.1 t.2.2.2)]])
  nat := fun args {ρ} K => by
    simp only [bind_wc, bind_wn, bind_wv, bind_wagg, bind_wI, bind_wB, bind_wS, bind_wL, bind_wP, bind_wFn, bind_ob, Option.bind_some]
theorem d25 {P : Program} (fuel : Nat) (hmix : P.follows .mixedOrders = true) (hC : Sound P (C48 fuel)) (hF : FFits P 25 A25) (args res : List A) (h : (O25 fuel).o args some = some res) : Den P 25 args res := by
  obtain ⟨a1, l2, rfl, z0⟩ := inv_wc h
  obtain ⟨l3, rfl, z1⟩ := inv_wagg z0
  obtain ⟨c4, l5, rfl, z2⟩ := inv_wc z1
  obtain ⟨y6, y7, h8, z3⟩ := inv_wL z2
  obtain ⟨c9, l10, rfl, z4⟩ := inv_wc z3
  obtain ⟨y11, y12, h13, z5⟩ := inv_wL z4
  obtain ⟨hn, z6⟩ := inv_wn z5
  cases hn
  obtain ⟨a14, l15, rfl, z7⟩ := inv_wc z6
  obtain ⟨l16, rfl, z8⟩ := inv_wagg z7
  obtain ⟨c17, l18, rfl, z9⟩ := inv_wc z8
  obtain ⟨y19, h20, z10⟩ := inv_wS z9
  obtain ⟨c21, l22, rfl, z11⟩ := inv_wc z10
  obtain ⟨y23, h24, z12⟩ := inv_wI z11
  obtain ⟨c25, l26, rfl, z13⟩ := inv_wc z12
  obtain ⟨y27, h28, z14⟩ := inv_wI z13
  obtain ⟨c29, l30, rfl, z15⟩ := inv_wc z14
  obtain ⟨y31, h32, z16⟩ := inv_wI z15
  obtain ⟨c33, l34, rfl, z17⟩ := inv_wc z16
  obtain ⟨y35, h36, z18⟩ := inv_wB z17
  obtain ⟨hn, z19⟩ := inv_wn z18
  cases hn
  obtain ⟨hn, z20⟩ := inv_wn z19
  cases hn
  obtain ⟨u, hu, hr⟩ := ob_inv z20
  cases hr
  obtain ⟨t, ht, hv⟩ := ob_inv (show ob (FT25 fuel y6 y7 y11 y12 y19 y23 y27 y31 y35) _ = some u from hu)
  cases hv
  refine Den.results ?_ (Den.weaken (.cons (WkA.agg (.cons h8 (.cons h13 .nil))) (.cons (WkA.agg (.cons (Wk.s h20) (.cons (Wk.i h24) (.cons (Wk.i h28) (.cons (Wk.i h32) (.cons (Wk.b h36) .nil)))))) .nil)) (evalF_sound hmix hC hF ((e25 fuel y6 y7 y11 y12 y19 y23 y27 y31 y35).trans (by rw [ht]; rfl))))
  obtain ⟨b, t⟩ := t
  cases b with
  | true => exact (.cons (WkA.agg (.cons (Wk.ro (by rfl)) (.cons (Wk.ro (by rfl)) .nil))) .nil)
  | false =>
    exact (.cons (WkA.agg (.cons (Wk.refl _) (.cons (Wk.refl _) .nil))) .nil)
def C49 (fuel : Nat) : Oracle := (C48 fuel).add 25 (fun _ => true) (O25 fuel)
def A43v1 : AC := (.seq (.block 1
  (.seq (.region 5 [mv 15 13, o1 16 (.indexAddr 22 34 2 (tm 11) (tm 13)), o1 17 (.load 34 (some 2) (tm 16)), o1 5 (.alloc 0 34 [.c (.i .i64 0), .c (.i .i64 0)]), o1 4 (.assign (tm 15)), o0 (.store 34 2 (tm 5) (tm 17))] 1 none) []
    (.seq (.region 6 [mv 18 0, mv 19 4, o1 20 (.binOp .add 3 (tm 19) (ic 1) 3), mv 21 0, o1 22 (.len 22 false (tm 21)), o1 23 (.binOp .rem 3 (tm 20) (tm 22) 3), o1 24 (.indexAddr 22 34 2 (tm 18) (tm 23)), o1 25 (.load 34 (some 2) (tm 24)), o1 6 (.alloc 0 34 [.c (.i .i64 0), .c (.i .i64 0)]), o0 (.store 34 2 (tm 6) (tm 25))] 1 none) []
    (.seq (.region 7 [o1 26 (.fieldAddr 34 (tm 5) 0 0), o1 27 (.load 3 none (tm 26)), o1 28 (.fieldAddr 34 (tm 6) 1 1), o1 29 (.load 3 none (tm 28)), o1 30 (.binOp .mul 3 (tm 27) (tm 29) 3), o1 31 (.fieldAddr 34 (tm 6) 0 0), o1 32 (.load 3 none (tm 31)), o1 33 (.fieldAddr 34 (tm 5) 1 1), o1 34 (.load 3 none (tm 33)), o1 35 (.binOp .mul 3 (tm 32) (tm 34) 3), o1 36 (.binOp .sub 3 (tm 30) (tm 35) 3), o1 7 (.assign (tm 36))] 0 none) []
    (.seq (.region 8 [mv 37 2, o1 38 (.fieldAddr 34 (tm 5) 0 0), o1 39 (.load 3 none (tm 38)), o1 40 (.fieldAddr 34 (tm 6) 0 0), o1 41 (.load 3 none (tm 40)), o1 42 (.binOp .add 3 (tm 39) (tm 41) 3), mv 43 7, o1 44 (.binOp .mul 3 (tm 42) (tm 43) 3), o1 45 (.binOp .add 3 (tm 37) (tm 44) 3), o1 2 (.assign (tm 45))] 0 none) []
    (.region 9 [mv 46 3, o1 47 (.fieldAddr 34 (tm 5) 1 1), o1 48 (.load 3 none (tm 47)), o1 49 (.fieldAddr 34 (tm 6) 1 1), o1 50 (.load 3 none (tm 49)), o1 51 (.binOp .add 3 (tm 48) (tm 50) 3), mv 52 7, o1 53 (.binOp .mul 3 (tm 51) (tm 52) 3), o1 54 (.binOp .add 3 (tm 46) (tm 53) 3), o1 3 (.assign (tm 54))] 0 none)))))) []
  (.region 10 [o1 55 (.binOp .add 3 (tm 13) (ic 1) 3), mv 13 55] 0 none))
def A43v2 : AC := (.seq (.region 4 [o1 14 (.binOp .lss 3 (tm 13) (tm 12) 3)] 0 none) []
  (.seq (.cond (tm 14)
  .skip
  (.exit 0 (0 :: 1 :: (rl 4 54 [])))) []
  A43v1))
def A43v3 : AC := (.seq (.region 11 [mv 56 2, mv 57 3, o1 2 (.assign (tm 56)), o1 3 (.assign (tm 57))] 0 none) []
  (.ret (0 :: 1 :: (rl 4 54 []))))
def A43v4 : AC := (.seq (.seq (.region 3 [mv 11 0, o1 12 (.len 22 false (tm 11)), o1 13 (.move (ic 0))] 0 none) []
  (.block 0
  (.loop [] (1 :: (rl 4 7 (rl 14 44 [])))
    A43v2))) (rl 4 4 (rl 11 45 []))
  A43v3)
def A43 : AF := ⟨58, [.tmp 2, .tmp 3],
  (.seq (.region 0 [o1 2 (.assign (ic 0)), o1 3 (.assign (ic 0))] 0 none) []
  (.seq (.seq (.region 1 [mv 8 0, o1 9 (.call 33 [(tm 8)] [22] .snap), o1 10 (.binOp .neq 27 (tm 9) (ic 0) 27)] 0 none) []
  (.cond (tm 10)
  (.seq (.region 2 [o1 2 (.assign (ic 0)), o1 3 (.assign (ic 0))] 0 none) []
    (.ret (0 :: 1 :: (rl 4 54 []))))
  .skip)) [8, 9, 10]
  A43v4))⟩
def B43v1 (C : Oracle) (fuel : Nat) {ρ : Type} : St → (Ex → St → Option ρ) → Option ρ := fun st k => evalC C fuel A43v2 st k
def N43v1 : St → Option St := fun s => s.norm (1 :: (rl 4 7 (rl 14 44 []))) 0
def s43v0 (x7 : Nat) (x8 : Nat → Nat → CV) (x9 : Int) (x10 : Int) (x11 : Int) (x12 : Int) : St := ⟨(.x (.c (.ro false (.pr (.int .i64) (.pr (.int .i64) .nil)) x7 x8)) :: .u :: .x (.c (.i .i64 x9)) :: .x (.c (.i .i64 x10)) :: (us 7 (.x (.c (.ro false (.pr (.int .i64) (.pr (.int .i64) .nil)) x7 x8)) :: .x (.c (.i .i64 x11)) :: .x (.c (.i .i64 x12)) :: (us 44 [])))), []⟩
def s43v1 (x13 : Int) (x14 : Int) : St := ⟨(.u :: .u :: .x (.c (.i .i64 x13)) :: .x (.c (.i .i64 x14)) :: (us 54 [])), []⟩
def L43v1 {ρ : Type} (fuel : Nat) (x7 : Nat) (x8 : Nat → Nat → CV) (x11 : Int) : Nat → Int → Int → Int → (Int → Int → Option ρ) → Option ρ
  | 0, _, _, _, _ => none
  | m + 1, x9, x10, x12, k0 =>
    (bif (decide (x12 < x11)) then (bif (inb x12 x7) then (bif ((Int.ofNat x7) == 0) then none else (bif (inb (Int.tmod (w64 (x12 + 1)) (Int.ofNat x7)) x7) then (L43v1 fuel x7 x8 x11 m (w64 (x9 + (w64 ((w64 ((CV.int (x8 (Int.toNat x12) 0)) + (CV.int (x8 (Int.toNat (Int.tmod (w64 (x12 + 1)) (Int.ofNat x7))) 0)))) * (w64 ((w64 ((CV.int (x8 (Int.toNat x12) 0)) * (CV.int (x8 (Int.toNat (Int.tmod (w64 (x12 + 1)) (Int.ofNat x7))) 1)))) - (w64 ((CV.int (x8 (Int.toNat (Int.tmod (w64 (x12 + 1)) (Int.ofNat x7))) 0)) * (CV.int (x8 (Int.toNat x12) 1)))))))))) (w64 (x10 + (w64 ((w64 ((CV.int (x8 (Int.toNat x12) 1)) + (CV.int (x8 (Int.toNat (Int.tmod (w64 (x12 + 1)) (Int.ofNat x7))) 1)))) * (w64 ((w64 ((CV.int (x8 (Int.toNat x12) 0)) * (CV.int (x8 (Int.toNat (Int.tmod (w64 (x12 + 1)) (Int.ofNat x7))) 1)))) - (w64 ((CV.int (x8 (Int.toNat (Int.tmod (w64 (x12 + 1)) (Int.ofNat x7))) 0)) * (CV.int (x8 (Int.toNat x12) 1)))))))))) (w64 (x12 + 1)) k0) else none)) else none) else (k0 x9 x10))
theorem nl43v1 {ρ σ : Type} (fuel : Nat) (x7 : Nat) (x8 : Nat → Nat → CV) (x11 : Int) (g : ρ → Option σ) : ∀ (m : Nat) (x9 : Int) (x10 : Int) (x12 : Int) (k0 : Int → Int → Option ρ), ob (L43v1 fuel x7 x8 x11 m x9 x10 x12 k0) g = L43v1 fuel x7 x8 x11 m x9 x10 x12 (fun x13 x14 => ob (k0 x13 x14) g)
  | 0, _, _, _, _ => rfl
  | m + 1, x9, x10, x12, k0 => by
    simp only [L43v1, ob_bif, ob_ob, ob_none, nl43v1 fuel x7 x8 x11 g m]
theorem r43v1 (fuel : Nat) (m : Nat) {ρ : Type} (k : Ex → St → Option ρ) (x7 : Nat) (x8 : Nat → Nat → CV) (x11 : Int) (x9 : Int) (x10 : Int) (x12 : Int) :
    loopH (B43v1 (C49 fuel) fuel) N43v1 (m + 1) (s43v0 x7 x8 x9 x10 x11 x12) k =
    (bif (decide (x12 < x11)) then (bif (inb x12 x7) then (bif ((Int.ofNat x7) == 0) then none else (bif (inb (Int.tmod (w64 (x12 + 1)) (Int.ofNat x7)) x7) then (loopH (B43v1 (C49 fuel) fuel) N43v1 m (s43v0 x7 x8 (w64 (x9 + (w64 ((w64 ((CV.int (x8 (Int.toNat x12) 0)) + (CV.int (x8 (Int.toNat (Int.tmod (w64 (x12 + 1)) (Int.ofNat x7))) 0)))) * (w64 ((w64 ((CV.int (x8 (Int.toNat x12) 0)) * (CV.int (x8 (Int.toNat (Int.tmod (w64 (x12 + 1)) (Int.ofNat x7))) 1)))) - (w64 ((CV.int (x8 (Int.toNat (Int.tmod (w64 (x12 + 1)) (Int.ofNat x7))) 0)) * (CV.int (x8 (Int.toNat x12) 1)))))))))) (w64 (x10 + (w64 ((w64 ((CV.int (x8 (Int.toNat x12) 1)) + (CV.int (x8 (Int.toNat (Int.tmod (w64 (x12 + 1)) (Int.ofNat x7))) 1)))) * (w64 ((w64 ((CV.int (x8 (Int.toNat x12) 0)) * (CV.int (x8 (Int.toNat (Int.tmod (w64 (x12 + 1)) (Int.ofNat x7))) 1)))) - (w64 ((CV.int (x8 (Int.toNat (Int.tmod (w64 (x12 + 1)) (Int.ofNat x7))) 0)) * (CV.int (x8 (Int.toNat x12) 1)))))))))) x11 (w64 (x12 + 1))) k) else none)) else none) else (k (.exit 0) (s43v1 x9 x10))) := by kernel_rfl
theorem q43v1 (fuel : Nat) (x7 : Nat) (x8 : Nat → Nat → CV) (x11 : Int) {ρ : Type} (k : Ex → St → Option ρ) : ∀ (m : Nat) (x9 : Int) (x10 : Int) (x12 : Int),
    loopH (B43v1 (C49 fuel) fuel) N43v1 m (s43v0 x7 x8 x9 x10 x11 x12) k = L43v1 fuel x7 x8 x11 m x9 x10 x12 (fun x13 x14 => k (.exit 0) (s43v1 x13 x14))
  | 0, _, _, _ => rfl
  | m + 1, x9, x10, x12 => by
    rw [r43v1]
    simp only [L43v1, q43v1 fuel x7 x8 x11 k m]
def D43 {ρ : Type} (fuel : Nat) (x1 : Nat) (x2 : Nat → Nat → CV) (k : (Int × Int) → Option ρ) : Option ρ :=
  (ob (F33 fuel x1 x2) fun x3 => (bif (x3 != 0) then (k (0, 0)) else (L43v1 fuel x1 x2 (Int.ofNat x1) fuel 0 0 0
    (fun x15 x16 => (k (x15, x16))))))
def F43 (fuel : Nat) (x1 : Nat) (x2 : Nat → Nat → CV) : Option (Int × Int) := D43 fuel x1 x2 some
theorem n43 {ρ σ : Type} (fuel : Nat) (x1 : Nat) (x2 : Nat → Nat → CV) (k : (Int × Int) → Option ρ) (g : ρ → Option σ) : ob (D43 fuel x1 x2 k) g = D43 fuel x1 x2 fun t => ob (k t) g := by
  simp only [D43, ob_bif, ob_ob, ob_none, nl43v1]
theorem f43 {ρ : Type} (fuel : Nat) (x1 : Nat) (x2 : Nat → Nat → CV) (k : (Int × Int) → Option ρ) : D43 fuel x1 x2 k = ob (F43 fuel x1 x2) k := by
  unfold F43
  rw [n43]
  simp only [ob_some]
def s43v2 (x1 : Nat) (x2 : Nat → Nat → CV) : St := ⟨(.x (.c (.ro false (.pr (.int .i64) (.pr (.int .i64) .nil)) x1 x2)) :: .undef :: .x (.c (.i .i64 0)) :: .x (.c (.i .i64 0)) :: .undef :: .undef :: .undef :: .undef :: (us 3 [.x (.c (.ro false (.pr (.int .i64) (.pr (.int .i64) .nil)) x1 x2)), .x (.c (.i .i64 (Int.ofNat x1))), .x (.c (.i .i64 0)), .undef, .undef, .undef, .undef, .undef, .undef, .undef, .undef, .undef, .undef, .undef, .undef, .undef, .undef, .undef, .undef, .undef, .undef, .undef, .undef, .undef, .undef, .undef, .undef, .undef, .undef, .undef, .undef, .undef, .undef, .undef, .undef, .undef, .undef, .undef, .undef, .undef, .undef, .undef, .undef, .undef, .undef, .undef, .undef])), []⟩
theorem walk43 (fuel : Nat) (x1 : Nat) (x2 : Nat → Nat → CV) :
    evalF (C49 fuel) fuel A43 [.v (.ro false (.pr (.int .i64) (.pr (.int .i64) .nil)) x1 x2)] =
    (ob (F33 fuel x1 x2) fun x3 => (bif (x3 != 0) then (some [.v (.i .i64 0), .v (.i .i64 0)]) else (loopN (B43v1 (C49 fuel) fuel) N43v1 fuel (s43v2 x1 x2) (kBlk 0 (kSeq (C49 fuel) fuel (rl 4 4 (rl 11 45 [])) A43v3 (finish A43)))))) := by kernel_rfl
theorem t43v1 (fuel : Nat) {ρ : Type} (k : Ex → St → Option ρ) (x1 : Nat) (x2 : Nat → Nat → CV) :
    loopN (B43v1 (C49 fuel) fuel) N43v1 fuel (s43v2 x1 x2) k =
    L43v1 fuel x1 x2 (Int.ofNat x1) fuel 0 0 0 (fun x13 x14 => k (.exit 0) (s43v1 x13 x14)) :=
  (loopN_at (st' := (s43v0 x1 x2 0 0 (Int.ofNat x1) 0)) (by kernel_rfl)).trans (q43v1 fuel x1 x2 (Int.ofNat x1) k fuel 0 0 0)
theorem g43v2 (fuel : Nat) (x15 : Int) (x16 : Int) :
    (kBlk 0 (kSeq (C49 fuel) fuel (rl 4 4 (rl 11 45 [])) A43v3 (finish A43))) (.exit 0) (s43v1 x15 x16) =
    (some [.v (.i .i64 x15), .v (.i .i64 x16)]) := by kernel_rfl
theorem e43 (fuel : Nat) (x1 : Nat) (x2 : Nat → Nat → CV) : evalF (C49 fuel) fuel A43 [.v (.ro false (.pr (.int .i64) (.pr (.int .i64) .nil)) x1 x2)] = ob (F43 fuel x1 x2) fun t => some [.v (.i .i64 t.1), .v (.i .i64 t.2)] := by
  rw [walk43, ← f43]
  simp only [D43, t43v1, g43v2]
def O43 (fuel : Nat) : Ora where
  o := fun args {ρ} K =>
    wc args fun a1 l2 =>
    wv a1 fun c3 =>
    wL (.pr (.int .i64) (.pr (.int .i64) .nil)) c3 fun y4 y5 =>
    wn l2 <|
    (ob (F43 fuel y4 y5) fun t => K [.v (.i .i64 t.1), .v (.i .i64 t.2)])
  nat := fun args {ρ} K => by
    simp only [bind_wc, bind_wn, bind_wv, bind_wagg, bind_wI, bind_wB, bind_wS, bind_wL, bind_wP, bind_wFn, bind_ob, Option.bind_some]
theorem d43 {P : Program} (fuel : Nat) (hmix : P.follows .mixedOrders = true) (hC : Sound P (C49 fuel)) (hF : FFits P 43 A43) (args res : List A) (h : (O43 fuel).o args some = some res) : Den P 43 args res := by
  obtain ⟨a1, l2, rfl, z0⟩ := inv_wc h
  obtain ⟨c3, rfl, z1⟩ := inv_wv z0
  obtain ⟨y4, y5, h6, z2⟩ := inv_wL z1
  obtain ⟨hn, z3⟩ := inv_wn z2
  cases hn
  exact Den.weaken (.cons (WkA.v h6) .nil) (evalF_sound hmix hC hF ((e43 fuel y4 y5).trans z3))
def C50 (fuel : Nat) : Oracle := (C49 fuel).add 43 (fun _ => true) (O43 fuel)
def A16v1 : AC := (.seq (.block 1
  (.seq (.region 6 [o1 18 (.indexAddr 23 22 1 (tm 14) (tm 16)), o1 19 (.load 22 none (tm 18)), o1 7 (.assign (tm 19))] 0 none) []
    (.seq (.region 7 [mv 21 7, o1 22 (.call 43 [(tm 21)] [22] .snap), mv 20 22, o1 23 (.extract (tm 20) 0), o1 24 (.extract (tm 20) 1), o1 8 (.assign (tm 23)), o1 9 (.assign (tm 24))] 0 none) []
    (.region 8 [mv 25 4, mv 26 8, o1 27 (.binOp .add 3 (tm 25) (tm 26) 3), mv 28 5, mv 29 9, o1 30 (.binOp .add 3 (tm 28) (tm 29) 3), o1 4 (.assign (tm 27)), o1 5 (.assign (tm 30))] 0 none)))) []
  (.region 9 [o1 31 (.binOp .add 3 (tm 16) (ic 1) 3), mv 16 31] 0 none))
def A16v2 : AC := (.seq (.region 5 [o1 17 (.binOp .lss 3 (tm 16) (tm 15) 3)] 0 none) []
  (.seq (.cond (tm 17)
  .skip
  (.exit 0 (rl 0 4 (rl 6 28 [])))) []
  A16v1))
def A16v3 : AC := (.seq (.region 10 [mv 32 4, mv 33 5, o1 2 (.assign (tm 32)), o1 3 (.assign (tm 33))] 0 none) []
  (.ret (0 :: 1 :: (rl 4 30 []))))
def A16v4 : AC := (.seq (.region 3 [o1 4 (.assign (ic 0)), o1 5 (.assign (ic 0))] 0 none) []
  (.seq (.seq (.region 4 [o1 13 (.load 25 (some 2) (tm 1)), o1 14 (.call 42 [(tm 13)] [25] .freeze), o1 15 (.len 23 false (tm 14)), o1 16 (.move (ic 0))] 0 none) []
  (.block 0
  (.loop [] (rl 0 4 (rl 6 8 (rl 17 17 [])))
    A16v2))) (7 :: 8 :: 9 :: (rl 13 19 []))
  A16v3))
def A16 : AF := ⟨34, [.tmp 2, .tmp 3],
  (.seq (.region 0 [o1 1 (.box 0 25 (tm 0)), o1 2 (.assign (ic 0)), o1 3 (.assign (ic 0))] 1 none) []
  (.seq (.seq (.region 1 [o1 10 (.load 25 (some 2) (tm 1)), o1 11 (.call 13 [(tm 10)] [25] .snap), o1 12 (.binOp .neq 27 (tm 11) (ic 0) 27)] 0 none) []
  (.cond (tm 12)
  (.seq (.region 2 [o1 2 (.assign (ic 0)), o1 3 (.assign (ic 0))] 0 none) []
    (.ret (0 :: 1 :: (rl 4 30 []))))
  .skip)) [2, 3, 10, 11, 12]
  A16v4))⟩
def B16v1 (C : Oracle) (fuel : Nat) {ρ : Type} : St → (Ex → St → Option ρ) → Option ρ := fun st k => evalC C fuel A16v2 st k
def N16v1 : St → Option St := fun s => s.norm (rl 0 4 (rl 6 8 (rl 17 17 []))) 1
def s16v0 (x15 : Int) (x16 : Int) (x17 : Nat) (x18 : Nat → Nat → CV) (x19 : Int) (x20 : Int) (x21 : Nat) (x22 : Nat → Nat → CV) (x23 : Nat) (x24 : Nat → Nat → CV) : St := ⟨(us 4 (.x (.c (.i .i64 x15)) :: .x (.c (.i .i64 x16)) :: (us 8 (.x (.c (.ro false (.pr (.sl (.pr (.int .i64) (.pr (.int .i64) .nil))) .nil) x17 x18)) :: .x (.c (.i .i64 x19)) :: .x (.c (.i .i64 x20)) :: (us 17 []))))), [.box [(.c (.ro false (.pr (.int .i64) (.pr (.int .i64) .nil)) x21 x22)), (.c (.ro false (.pr (.sl (.pr (.int .i64) (.pr (.int .i64) .nil))) .nil) x23 x24))]]⟩
def s16v1 (x26 : Int) (x27 : Int) (x21 : Nat) (x22 : Nat → Nat → CV) (x23 : Nat) (x24 : Nat → Nat → CV) : St := ⟨(us 4 (.x (.c (.i .i64 x26)) :: .x (.c (.i .i64 x27)) :: (us 28 []))), [.box [(.c (.ro false (.pr (.int .i64) (.pr (.int .i64) .nil)) x21 x22)), (.c (.ro false (.pr (.sl (.pr (.int .i64) (.pr (.int .i64) .nil))) .nil) x23 x24))]]⟩
def L16v1 {ρ : Type} (fuel : Nat) (x17 : Nat) (x18 : Nat → Nat → CV) (x19 : Int) (x21 : Nat) (x22 : Nat → Nat → CV) (x23 : Nat) (x24 : Nat → Nat → CV) : Nat → Int → Int → Int → (Int → Int → Option ρ) → Option ρ
  | 0, _, _, _, _ => none
  | m + 1, x15, x16, x20, k0 =>
    (bif (decide (x20 < x19)) then (bif (inb x20 x17) then (ob (F43 fuel (CV.len (x18 (Int.toNat x20) 0)) (CV.el (x18 (Int.toNat x20) 0))) fun x25 => (L16v1 fuel x17 x18 x19 x21 x22 x23 x24 m (w64 (x15 + x25.1)) (w64 (x16 + x25.2)) (w64 (x20 + 1)) k0)) else none) else (k0 x15 x16))
theorem nl16v1 {ρ σ : Type} (fuel : Nat) (x17 : Nat) (x18 : Nat → Nat → CV) (x19 : Int) (x21 : Nat) (x22 : Nat → Nat → CV) (x23 : Nat) (x24 : Nat → Nat → CV) (g : ρ → Option σ) : ∀ (m : Nat) (x15 : Int) (x16 : Int) (x20 : Int) (k0 : Int → Int → Option ρ), ob (L16v1 fuel x17 x18 x19 x21 x22 x23 x24 m x15 x16 x20 k0) g = L16v1 fuel x17 x18 x19 x21 x22 x23 x24 m x15 x16 x20 (fun x26 x27 => ob (k0 x26 x27) g)
  | 0, _, _, _, _ => rfl
  | m + 1, x15, x16, x20, k0 => by
    simp only [L16v1, ob_bif, ob_ob, ob_none, nl16v1 fuel x17 x18 x19 x21 x22 x23 x24 g m]
theorem r16v1 (fuel : Nat) (m : Nat) {ρ : Type} (k : Ex → St → Option ρ) (x17 : Nat) (x18 : Nat → Nat → CV) (x19 : Int) (x21 : Nat) (x22 : Nat → Nat → CV) (x23 : Nat) (x24 : Nat → Nat → CV) (x15 : Int) (x16 : Int) (x20 : Int) :
    loopH (B16v1 (C50 fuel) fuel) N16v1 (m + 1) (s16v0 x15 x16 x17 x18 x19 x20 x21 x22 x23 x24) k =
    (bif (decide (x20 < x19)) then (bif (inb x20 x17) then (ob (F43 fuel (CV.len (x18 (Int.toNat x20) 0)) (CV.el (x18 (Int.toNat x20) 0))) fun x25 => (loopH (B16v1 (C50 fuel) fuel) N16v1 m (s16v0 (w64 (x15 + x25.1)) (w64 (x16 + x25.2)) x17 x18 x19 (w64 (x20 + 1)) x21 x22 x23 x24) k)) else none) else (k (.exit 0) (s16v1 x15 x16 x21 x22 x23 x24))) := by kernel_rfl
theorem q16v1 (fuel : Nat) (x17 : Nat) (x18 : Nat → Nat → CV) (x19 : Int) (x21 : Nat) (x22 : Nat → Nat → CV) (x23 : Nat) (x24 : Nat → Nat → CV) {ρ : Type} (k : Ex → St → Option ρ) : ∀ (m : Nat) (x15 : Int) (x16 : Int) (x20 : Int),
    loopH (B16v1 (C50 fuel) fuel) N16v1 m (s16v0 x15 x16 x17 x18 x19 x20 x21 x22 x23 x24) k = L16v1 fuel x17 x18 x19 x21 x22 x23 x24 m x15 x16 x20 (fun x26 x27 => k (.exit 0) (s16v1 x26 x27 x21 x22 x23 x24))
  | 0, _, _, _ => rfl
  | m + 1, x15, x16, x20 => by
    rw [r16v1]
    simp only [L16v1, q16v1 fuel x17 x18 x19 x21 x22 x23 x24 k m]
def D16 {ρ : Type} (fuel : Nat) (x1 : Nat) (x2 : Nat → Nat → CV) (x3 : Nat) (x4 : Nat → Nat → CV) (k : (Int × Int) → Option ρ) : Option ρ :=
  (ob (F13 fuel x1 x2 x3 x4) fun x5 => (bif (x5 != 0) then (k (0, 0)) else (ob (F42 fuel x1 x2 x3 x4) fun x6 => (L16v1 fuel x6.1 x6.2 (Int.ofNat x6.1) x1 x2 x3 x4 fuel 0 0 0
    (fun x28 x29 => (k (x28, x29)))))))
def F16 (fuel : Nat) (x1 : Nat) (x2 : Nat → Nat → CV) (x3 : Nat) (x4 : Nat → Nat → CV) : Option (Int × Int) := D16 fuel x1 x2 x3 x4 some
theorem n16 {ρ σ : Type} (fuel : Nat) (x1 : Nat) (x2 : Nat → Nat → CV) (x3 : Nat) (x4 : Nat → Nat → CV) (k : (Int × Int) → Option ρ) (g : ρ → Option σ) : ob (D16 fuel x1 x2 x3 x4 k) g = D16 fuel x1 x2 x3 x4 fun t => ob (k t) g := by
  simp only [D16, ob_bif, ob_ob, ob_none, nl16v1]
theorem f16 {ρ : Type} (fuel : Nat) (x1 : Nat) (x2 : Nat → Nat → CV) (x3 : Nat) (x4 : Nat → Nat → CV) (k : (Int × Int) → Option ρ) : D16 fuel x1 x2 x3 x4 k = ob (F16 fuel x1 x2 x3 x4) k := by
  unfold F16
  rw [n16]
  simp only [ob_some]
def s16v2 (x1 : Nat) (x2 : Nat → Nat → CV) (x3 : Nat) (x4 : Nat → Nat → CV) (x6 : Nat × (Nat → Nat → CV)) : St := ⟨(.agg [(.c (.ro false (.pr (.int .i64) (.pr (.int .i64) .nil)) x1 x2)), (.c (.ro false (.pr (.sl (.pr (.int .i64) (.pr (.int .i64) .nil))) .nil) x3 x4))] :: .x (.ptr 0 0) :: .u :: .u :: .x (.c (.i .i64 0)) :: .x (.c (.i .i64 0)) :: .undef :: .undef :: .undef :: .undef :: (us 3 [.agg [(.c (.ro false (.pr (.int .i64) (.pr (.int .i64) .nil)) x1 x2)), (.c (.ro false (.pr (.sl (.pr (.int .i64) (.pr (.int .i64) .nil))) .nil) x3 x4))], .x (.c (.ro false (.pr (.sl (.pr (.int .i64) (.pr (.int .i64) .nil))) .nil) x6.1 x6.2)), .x (.c (.i .i64 (Int.ofNat x6.1))), .x (.c (.i .i64 0)), .undef, .undef, .undef, .undef, .undef, .undef, .undef, .undef, .undef, .undef, .undef, .undef, .undef, .undef, .undef, .undef, .undef])), [.box [(.c (.ro false (.pr (.int .i64) (.pr (.int .i64) .nil)) x1 x2)), (.c (.ro false (.pr (.sl (.pr (.int .i64) (.pr (.int .i64) .nil))) .nil) x3 x4))]]⟩
theorem walk16 (fuel : Nat) (x1 : Nat) (x2 : Nat → Nat → CV) (x3 : Nat) (x4 : Nat → Nat → CV) :
    evalF (C50 fuel) fuel A16 [.agg [(.ro false (.pr (.int .i64) (.pr (.int .i64) .nil)) x1 x2), (.ro false (.pr (.sl (.pr (.int .i64) (.pr (.int .i64) .nil))) .nil) x3 x4)]] =
    (ob (F13 fuel x1 x2 x3 x4) fun x5 => (bif (x5 != 0) then (some [.v (.i .i64 0), .v (.i .i64 0)]) else (ob (F42 fuel x1 x2 x3 x4) fun x6 => (loopN (B16v1 (C50 fuel) fuel) N16v1 fuel (s16v2 x1 x2 x3 x4 x6) (kBlk 0 (kSeq (C50 fuel) fuel (7 :: 8 :: 9 :: (rl 13 19 [])) A16v3 (finish A16))))))) := by kernel_rfl
theorem t16v1 (fuel : Nat) {ρ : Type} (k : Ex → St → Option ρ) (x1 : Nat) (x2 : Nat → Nat → CV) (x3 : Nat) (x4 : Nat → Nat → CV) (x6 : Nat × (Nat → Nat → CV)) :
    loopN (B16v1 (C50 fuel) fuel) N16v1 fuel (s16v2 x1 x2 x3 x4 x6) k =
    L16v1 fuel x6.1 x6.2 (Int.ofNat x6.1) x1 x2 x3 x4 fuel 0 0 0 (fun x26 x27 => k (.exit 0) (s16v1 x26 x27 x1 x2 x3 x4)) :=
  (loopN_at (st' := (s16v0 0 0 x6.1 x6.2 (Int.ofNat x6.1) 0 x1 x2 x3 x4)) (by kernel_rfl)).trans (q16v1 fuel x6.1 x6.2 (Int.ofNat x6.1) x1 x2 x3 x4 k fuel 0 0 0)
theorem g16v2 (fuel : Nat) (x28 : Int) (x29 : Int) (x1 : Nat) (x2 : Nat → Nat → CV) (x3 : Nat) (x4 : Nat → Nat → CV) :
    (kBlk 0 (kSeq (C50 fuel) fuel (7 :: 8 :: 9 :: (rl 13 19 [])) A16v3 (finish A16))) (.exit 0) (s16v1 x28 x29 x1 x2 x3 x4) =
    (some [.v (.i .i64 x28), .v (.i .i64 x29)]) := by kernel_rfl
theorem e16 (fuel : Nat) (x1 : Nat) (x2 : Nat → Nat → CV) (x3 : Nat) (x4 : Nat → Nat → CV) : evalF (C50 fuel) fuel A16 [.agg [(.ro false (.pr (.int .i64) (.pr (.int .i64) .nil)) x1 x2), (.ro false (.pr (.sl (.pr (.int .i64) (.pr (.int .i64) .nil))) .nil) x3 x4)]] = ob (F16 fuel x1 x2 x3 x4) fun t => some [.v (.i .i64 t.1), .v (.i .i64 t.2)] := by
  rw [walk16, ← f16]
  simp only [D16, t16v1, g16v2]
def O16 (fuel : Nat) : Ora where
  o := fun args {ρ} K =>
    wc args fun a1 l2 =>
    wagg a1 fun l3 =>
    wc l3 fun c4 l5 =>
    wL (.pr (.int .i64) (.pr (.int .i64) .nil)) c4 fun y6 y7 =>
    wc l5 fun c9 l10 =>
    wL (.pr (.sl (.pr (.int .i64) (.pr (.int .i64) .nil))) .nil) c9 fun y11 y12 =>
    wn l10 <|
    wn l2 <|
    (ob (F16 fuel y6 y7 y11 y12) fun t => K [.v (.i .i64 t.1), .v (.i .i64 t.2)])
  nat := fun args {ρ} K => by
    simp only [bind_wc, bind_wn, bind_wv, bind_wagg, bind_wI, bind_wB, bind_wS, bind_wL, bind_wP, bind_wFn, bind_ob, Option.bind_some]
theorem d16 {P : Program} (fuel : Nat) (hmix : P.follows .mixedOrders = true) (hC : Sound P (C50 fuel)) (hF : FFits P 16 A16) (args res : List A) (h : (O16 fuel).o args some = some res) : Den P 16 args res := by
  obtain ⟨a1, l2, rfl, z0⟩ := inv_wc h
  obtain ⟨l3, rfl, z1⟩ := inv_wagg z0
  obtain ⟨c4, l5, rfl, z2⟩ := inv_wc z1
  obtain ⟨y6, y7, h8, z3⟩ := inv_wL z2
  obtain ⟨c9, l10, rfl, z4⟩ := inv_wc z3
  obtain ⟨y11, y12, h13, z5⟩ := inv_wL z4
  obtain ⟨hn, z6⟩ := inv_wn z5
  cases hn
  obtain ⟨hn, z7⟩ := inv_wn z6
  cases hn
  exact Den.weaken (.cons (WkA.agg (.cons h8 (.cons h13 .nil))) .nil) (evalF_sound hmix hC hF ((e16 fuel y6 y7 y11 y12).trans z7))
def C51 (fuel : Nat) : Oracle := (C50 fuel).add 16 (fun _ => true) (O16 fuel)
def A18v1 : AC := (.seq (.block 1
  (.seq (.region 6 [o1 14 (.indexAddr 23 22 1 (tm 10) (tm 12)), o1 15 (.load 22 none (tm 14)), o1 5 (.assign (tm 15))] 0 none) []
    (.region 7 [mv 16 3, mv 17 5, o1 18 (.call 34 [(tm 17)] [22] .snap), o1 19 (.binOp .add 3 (tm 16) (tm 18) 3), o1 3 (.assign (tm 19))] 0 none))) []
  (.region 8 [o1 20 (.binOp .add 3 (tm 12) (ic 1) 3), mv 12 20] 0 none))
def A18v2 : AC := (.seq (.region 5 [o1 13 (.binOp .lss 3 (tm 12) (tm 11) 3)] 0 none) []
  (.seq (.cond (tm 13)
  .skip
  (.exit 0 (0 :: 1 :: 2 :: (rl 4 18 [])))) []
  A18v1))
def A18v3 : AC := (.seq (.region 9 [mv 21 3, o1 2 (.assign (tm 21))] 0 none) []
  (.ret (0 :: 1 :: (rl 3 19 []))))
def A18v4 : AC := (.seq (.region 3 [o1 3 (.assign (ic 0))] 0 none) []
  (.seq (.seq (.region 4 [o1 9 (.load 25 (some 2) (tm 1)), o1 10 (.call 42 [(tm 9)] [25] .freeze), o1 11 (.len 23 false (tm 10)), o1 12 (.move (ic 0))] 0 none) []
  (.block 0
  (.loop [] (0 :: 1 :: 2 :: (rl 4 6 (rl 13 9 [])))
    A18v2))) (5 :: (rl 9 12 []))
  A18v3))
def A18 : AF := ⟨22, [.tmp 2],
  (.seq (.region 0 [o1 1 (.box 0 25 (tm 0)), o1 2 (.assign (ic 0))] 1 none) []
  (.seq (.seq (.region 1 [o1 6 (.load 25 (some 2) (tm 1)), o1 7 (.call 13 [(tm 6)] [25] .snap), o1 8 (.binOp .neq 27 (tm 7) (ic 0) 27)] 0 none) []
  (.cond (tm 8)
  (.seq (.region 2 [o1 2 (.assign (ic 0))] 0 none) []
    (.ret (0 :: 1 :: (rl 3 19 []))))
  .skip)) [2, 6, 7, 8]
  A18v4))⟩
def B18v1 (C : Oracle) (fuel : Nat) {ρ : Type} : St → (Ex → St → Option ρ) → Option ρ := fun st k => evalC C fuel A18v2 st k
def N18v1 : St → Option St := fun s => s.norm (0 :: 1 :: 2 :: (rl 4 6 (rl 13 9 []))) 1
def s18v0 (x15 : Int) (x16 : Nat) (x17 : Nat → Nat → CV) (x18 : Int) (x19 : Int) (x20 : Nat) (x21 : Nat → Nat → CV) (x22 : Nat) (x23 : Nat → Nat → CV) : St := ⟨(us 3 (.x (.c (.i .i64 x15)) :: (us 6 (.x (.c (.ro false (.pr (.sl (.pr (.int .i64) (.pr (.int .i64) .nil))) .nil) x16 x17)) :: .x (.c (.i .i64 x18)) :: .x (.c (.i .i64 x19)) :: (us 9 []))))), [.box [(.c (.ro false (.pr (.int .i64) (.pr (.int .i64) .nil)) x20 x21)), (.c (.ro false (.pr (.sl (.pr (.int .i64) (.pr (.int .i64) .nil))) .nil) x22 x23))]]⟩
def s18v1 (x25 : Int) (x20 : Nat) (x21 : Nat → Nat → CV) (x22 : Nat) (x23 : Nat → Nat → CV) : St := ⟨(us 3 (.x (.c (.i .i64 x25)) :: (us 18 []))), [.box [(.c (.ro false (.pr (.int .i64) (.pr (.int .i64) .nil)) x20 x21)), (.c (.ro false (.pr (.sl (.pr (.int .i64) (.pr (.int .i64) .nil))) .nil) x22 x23))]]⟩
def L18v1 {ρ : Type} (fuel : Nat) (x16 : Nat) (x17 : Nat → Nat → CV) (x18 : Int) (x20 : Nat) (x21 : Nat → Nat → CV) (x22 : Nat) (x23 : Nat → Nat → CV) : Nat → Int → Int → (Int → Option ρ) → Option ρ
  | 0, _, _, _ => none
  | m + 1, x15, x19, k0 =>
    (bif (decide (x19 < x18)) then (bif (inb x19 x16) then (ob (F34 fuel (CV.len (x17 (Int.toNat x19) 0)) (CV.el (x17 (Int.toNat x19) 0))) fun x24 => (L18v1 fuel x16 x17 x18 x20 x21 x22 x23 m (w64 (x15 + x24)) (w64 (x19 + 1)) k0)) else none) else (k0 x15))
theorem nl18v1 {ρ σ : Type} (fuel : Nat) (x16 : Nat) (x17 : Nat → Nat → CV) (x18 : Int) (x20 : Nat) (x21 : Nat → Nat → CV) (x22 : Nat) (x23 : Nat → Nat → CV) (g : ρ → Option σ) : ∀ (m : Nat) (x15 : Int) (x19 : Int) (k0 : Int → Option ρ), ob (L18v1 fuel x16 x17 x18 x20 x21 x22 x23 m x15 x19 k0) g = L18v1 fuel x16 x17 x18 x20 x21 x22 x23 m x15 x19 (fun x25 => ob (k0 x25) g)
  | 0, _, _, _ => rfl
  | m + 1, x15, x19, k0 => by
    simp only [L18v1, ob_bif, ob_ob, ob_none, nl18v1 fuel x16 x17 x18 x20 x21 x22 x23 g m]
theorem r18v1 (fuel : Nat) (m : Nat) {ρ : Type} (k : Ex → St → Option ρ) (x16 : Nat) (x17 : Nat → Nat → CV) (x18 : Int) (x20 : Nat) (x21 : Nat → Nat → CV) (x22 : Nat) (x23 : Nat → Nat → CV) (x15 : Int) (x19 : Int) :
    loopH (B18v1 (C51 fuel) fuel) N18v1 (m + 1) (s18v0 x15 x16 x17 x18 x19 x20 x21 x22 x23) k =
    (bif (decide (x19 < x18)) then (bif (inb x19 x16) then (ob (F34 fuel (CV.len (x17 (Int.toNat x19) 0)) (CV.el (x17 (Int.toNat x19) 0))) fun x24 => (loopH (B18v1 (C51 fuel) fuel) N18v1 m (s18v0 (w64 (x15 + x24)) x16 x17 x18 (w64 (x19 + 1)) x20 x21 x22 x23) k)) else none) else (k (.exit 0) (s18v1 x15 x20 x21 x22 x23))) := by kernel_rfl
theorem q18v1 (fuel : Nat) (x16 : Nat) (x17 : Nat → Nat → CV) (x18 : Int) (x20 : Nat) (x21 : Nat → Nat → CV) (x22 : Nat) (x23 : Nat → Nat → CV) {ρ : Type} (k : Ex → St → Option ρ) : ∀ (m : Nat) (x15 : Int) (x19 : Int),
    loopH (B18v1 (C51 fuel) fuel) N18v1 m (s18v0 x15 x16 x17 x18 x19 x20 x21 x22 x23) k = L18v1 fuel x16 x17 x18 x20 x21 x22 x23 m x15 x19 (fun x25 => k (.exit 0) (s18v1 x25 x20 x21 x22 x23))
  | 0, _, _ => rfl
  | m + 1, x15, x19 => by
    rw [r18v1]
    simp only [L18v1, q18v1 fuel x16 x17 x18 x20 x21 x22 x23 k m]
def D18 {ρ : Type} (fuel : Nat) (x1 : Nat) (x2 : Nat → Nat → CV) (x3 : Nat) (x4 : Nat → Nat → CV) (k : Int → Option ρ) : Option ρ :=
  (ob (F13 fuel x1 x2 x3 x4) fun x5 => (bif (x5 != 0) then (k 0) else (ob (F42 fuel x1 x2 x3 x4) fun x6 => (L18v1 fuel x6.1 x6.2 (Int.ofNat x6.1) x1 x2 x3 x4 fuel 0 0
    (fun x26 => (k x26))))))
def F18 (fuel : Nat) (x1 : Nat) (x2 : Nat → Nat → CV) (x3 : Nat) (x4 : Nat → Nat → CV) : Option (Int) := D18 fuel x1 x2 x3 x4 some
theorem n18 {ρ σ : Type} (fuel : Nat) (x1 : Nat) (x2 : Nat → Nat → CV) (x3 : Nat) (x4 : Nat → Nat → CV) (k : (Int) → Option ρ) (g : ρ → Option σ) : ob (D18 fuel x1 x2 x3 x4 k) g = D18 fuel x1 x2 x3 x4 fun t => ob (k t) g := by
  simp only [D18, ob_bif, ob_ob, ob_none, nl18v1]
theorem f18 {ρ : Type} (fuel : Nat) (x1 : Nat) (x2 : Nat → Nat → CV) (x3 : Nat) (x4 : Nat → Nat → CV) (k : (Int) → Option ρ) : D18 fuel x1 x2 x3 x4 k = ob (F18 fuel x1 x2 x3 x4) k := by
  unfold F18
  rw [n18]
  simp only [ob_some]
def s18v2 (x1 : Nat) (x2 : Nat → Nat → CV) (x3 : Nat) (x4 : Nat → Nat → CV) (x6 : Nat × (Nat → Nat → CV)) : St := ⟨(.agg [(.c (.ro false (.pr (.int .i64) (.pr (.int .i64) .nil)) x1 x2)), (.c (.ro false (.pr (.sl (.pr (.int .i64) (.pr (.int .i64) .nil))) .nil) x3 x4))] :: .x (.ptr 0 0) :: .u :: .x (.c (.i .i64 0)) :: .undef :: .undef :: (us 3 [.agg [(.c (.ro false (.pr (.int .i64) (.pr (.int .i64) .nil)) x1 x2)), (.c (.ro false (.pr (.sl (.pr (.int .i64) (.pr (.int .i64) .nil))) .nil) x3 x4))], .x (.c (.ro false (.pr (.sl (.pr (.int .i64) (.pr (.int .i64) .nil))) .nil) x6.1 x6.2)), .x (.c (.i .i64 (Int.ofNat x6.1))), .x (.c (.i .i64 0)), .undef, .undef, .undef, .undef, .undef, .undef, .undef, .undef, .undef])), [.box [(.c (.ro false (.pr (.int .i64) (.pr (.int .i64) .nil)) x1 x2)), (.c (.ro false (.pr (.sl (.pr (.int .i64) (.pr (.int .i64) .nil))) .nil) x3 x4))]]⟩
theorem walk18 (fuel : Nat) (x1 : Nat) (x2 : Nat → Nat → CV) (x3 : Nat) (x4 : Nat → Nat → CV) :
    evalF (C51 fuel) fuel A18 [.agg [(.ro false (.pr (.int .i64) (.pr (.int .i64) .nil)) x1 x2), (.ro false (.pr (.sl (.pr (.int .i64) (.pr (.int .i64) .nil))) .nil) x3 x4)]] =
    (ob (F13 fuel x1 x2 x3 x4) fun x5 => (bif (x5 != 0) then (some [.v (.i .i64 0)]) else (ob (F42 fuel x1 x2 x3 x4) fun x6 => (loopN (B18v1 (C51 fuel) fuel) N18v1 fuel (s18v2 x1 x2 x3 x4 x6) (kBlk 0 (kSeq (C51 fuel) fuel (5 :: (rl 9 12 [])) A18v3 (finish A18))))))) := by kernel_rfl
theorem t18v1 (fuel : Nat) {ρ : Type} (k : Ex → St → Option ρ) (x1 : Nat) (x2 : Nat → Nat → CV) (x3 : Nat) (x4 : Nat → Nat → CV) (x6 : Nat × (Nat → Nat → CV)) :
    loopN (B18v1 (C51 fuel) fuel) N18v1 fuel (s18v2 x1 x2 x3 x4 x6) k =
    L18v1 fuel x6.1 x6.2 (Int.ofNat x6.1) x1 x2 x3 x4 fuel 0 0 (fun x25 => k (.exit 0) (s18v1 x25 x1 x2 x3 x4)) :=
  (loopN_at (st' := (s18v0 0 x6.1 x6.2 (Int.ofNat x6.1) 0 x1 x2 x3 x4)) (by kernel_rfl)).trans (q18v1 fuel x6.1 x6.2 (Int.ofNat x6.1) x1 x2 x3 x4 k fuel 0 0)
theorem g18v2 (fuel : Nat) (x26 : Int) (x1 : Nat) (x2 : Nat → Nat → CV) (x3 : Nat) (x4 : Nat → Nat → CV) :
    (kBlk 0 (kSeq (C51 fuel) fuel (5 :: (rl 9 12 [])) A18v3 (finish A18))) (.exit 0) (s18v1 x26 x1 x2 x3 x4) =
    (some [.v (.i .i64 x26)]) := by kernel_rfl
theorem e18 (fuel : Nat) (x1 : Nat) (x2 : Nat → Nat → CV) (x3 : Nat) (x4 : Nat → Nat → CV) : evalF (C51 fuel) fuel A18 [.agg [(.ro false (.pr (.int .i64) (.pr (.int .i64) .nil)) x1 x2), (.ro false (.pr (.sl (.pr (.int .i64) (.pr (.int .i64) .nil))) .nil) x3 x4)]] = ob (F18 fuel x1 x2 x3 x4) fun t => some [.v (.i .i64 t)] := by
  rw [walk18, ← f18]
  simp only [D18, t18v1, g18v2]
def O18 (fuel : Nat) : Ora where
  o := fun args {ρ} K =>
    wc args fun a1 l2 =>
    wagg a1 fun l3 =>
    wc l3 fun c4 l5 =>
    wL (.pr (.int .i64) (.pr (.int .i64) .nil)) c4 fun y6 y7 =>
    wc l5 fun c9 l10 =>
    wL (.pr (.sl (.pr (.int .i64) (.pr (.int .i64) .nil))) .nil) c9 fun y11 y12 =>
    wn l10 <|
    wn l2 <|
    (ob (F18 fuel y6 y7 y11 y12) fun t => K [.v (.i .i64 t)])
  nat := fun args {ρ} K => by
    simp only [bind_wc, bind_wn, bind_wv, bind_wagg, bind_wI, bind_wB, bind_wS, bind_wL, bind_wP, bind_wFn, bind_ob, Option.bind_some]
theorem d18 {P : Program} (fuel : Nat) (hmix : P.follows .mixedOrders = true) (hC : Sound P (C51 fuel)) (hF : FFits P 18 A18) (args res : List A) (h : (O18 fuel).o args some = some res) : Den P 18 args res := by
  obtain ⟨a1, l2, rfl, z0⟩ := inv_wc h
  obtain ⟨l3, rfl, z1⟩ := inv_wagg z0
  obtain ⟨c4, l5, rfl, z2⟩ := inv_wc z1
  obtain ⟨y6, y7, h8, z3⟩ := inv_wL z2
  obtain ⟨c9, l10, rfl, z4⟩ := inv_wc z3
  obtain ⟨y11, y12, h13, z5⟩ := inv_wL z4
  obtain ⟨hn, z6⟩ := inv_wn z5
  cases hn
  obtain ⟨hn, z7⟩ := inv_wn z6
  cases hn
  exact Den.weaken (.cons (WkA.agg (.cons h8 (.cons h13 .nil))) .nil) (evalF_sound hmix hC hF ((e18 fuel y6 y7 y11 y12).trans z7))
def C52 (fuel : Nat) : Oracle := (C51 fuel).add 18 (fun _ => true) (O18 fuel)
def A48v1 : AC := (.region 5 [mv 15 5, o1 16 (.binOp .add 3 (tm 15) (ic 1) 3), o1 5 (.assign (tm 16))] 0 none)
def A48v2 : AC := (.seq (.block 1
  (.seq (.region 6 [mv 17 0, mv 18 5, o1 19 (.indexAddr 22 34 2 (tm 17) (tm 18)), o1 20 (.load 34 (some 2) (tm 19)), mv 21 1, mv 22 5, o1 23 (.indexAddr 22 34 2 (tm 21) (tm 22)), o1 24 (.load 34 (some 2) (tm 23)), o1 25 (.eqA true (.pr (.int .i64) (.pr (.int .i64) .nil)) 34 (tm 20) (tm 24) 34)] 0 (some [[], [], [0, 1], [0, 1, 2], [], [], [4, 5], [4, 5, 6], (rl 0 8 [])])) []
    (.cond (tm 25)
    (.seq (.region 7 [o1 4 (.assign (.const (.bool false)))] 0 none) []
      (.ret (rl 0 4 (rl 5 21 []))))
    .skip))) (4 :: (rl 17 9 []))
  A48v1)
def A48v3 : AC := (.seq (.seq (.region 4 [mv 11 5, mv 12 0, o1 13 (.len 22 false (tm 12)), o1 14 (.binOp .lss 3 (tm 11) (tm 13) 3)] 0 none) []
  (.cond (tm 14)
  .skip
  (.exit 0 (rl 0 26 [])))) (rl 11 4 [])
  A48v2)
def A48v4 : AC := (.seq (.region 8 [o1 4 (.assign (.const (.bool true)))] 0 none) []
  (.ret (rl 0 4 (rl 5 21 []))))
def A48v5 : AC := (.seq (.seq (.region 3 [o1 5 (.assign (ic 0))] 0 none) []
  (.block 0
  (.loop [] (2 :: 3 :: 4 :: (rl 6 20 []))
    A48v3))) (4 :: 5 :: (rl 11 15 []))
  A48v4)
def A48 : AF := ⟨26, [.tmp 4],
  (.seq (.region 0 [o1 4 (.assign (.const (.bool false)))] 0 none) []
  (.seq (.seq (.region 1 [mv 6 0, o1 7 (.len 22 false (tm 6)), mv 8 1, o1 9 (.len 22 false (tm 8)), o1 10 (.binOp .neq 3 (tm 7) (tm 9) 3)] 0 none) []
  (.cond (tm 10)
  (.seq (.region 2 [o1 4 (.assign (.const (.bool false)))] 0 none) []
    (.ret (rl 0 4 (rl 5 21 []))))
  .skip)) (4 :: (rl 6 5 []))
  A48v5))⟩
def B48v1 (C : Oracle) (fuel : Nat) {ρ : Type} : St → (Ex → St → Option ρ) → Option ρ := fun st k => evalC C fuel A48v3 st k
def N48v1 : St → Option St := fun s => s.norm (2 :: 3 :: 4 :: (rl 6 20 [])) 0
def s48v0 (x9 : Nat) (x10 : Nat → Nat → CV) (x11 : Nat) (x12 : Nat → Nat → CV) (x13 : Int) : St := ⟨(.x (.c (.ro false (.pr (.int .i64) (.pr (.int .i64) .nil)) x9 x10)) :: .x (.c (.ro false (.pr (.int .i64) (.pr (.int .i64) .nil)) x11 x12)) :: (us 3 (.x (.c (.i .i64 x13)) :: (us 20 [])))), []⟩
def s48v1 : St := ⟨(us 4 (.x (.c (.b false)) :: (us 21 []))), []⟩
def s48v2 : St := ⟨(us 26 []), []⟩
def L48v1 {ρ : Type} (fuel : Nat) (x9 : Nat) (x10 : Nat → Nat → CV) (x11 : Nat) (x12 : Nat → Nat → CV) : Nat → Int → (Option ρ) → (Option ρ) → Option ρ
  | 0, _, _, _ => none
  | m + 1, x13, k0, k1 =>
    (bif (decide (x13 < (Int.ofNat x9))) then (bif (inb x13 x9) then (bif (inb x13 x11) then (bif (!(((CV.int (x10 (Int.toNat x13) 0)) == (CV.int (x12 (Int.toNat x13) 0))) && (((CV.int (x10 (Int.toNat x13) 1)) == (CV.int (x12 (Int.toNat x13) 1))) && true))) then k0 else (L48v1 fuel x9 x10 x11 x12 m (w64 (x13 + 1)) k0 k1)) else none) else none) else k1)
theorem nl48v1 {ρ σ : Type} (fuel : Nat) (x9 : Nat) (x10 : Nat → Nat → CV) (x11 : Nat) (x12 : Nat → Nat → CV) (g : ρ → Option σ) : ∀ (m : Nat) (x13 : Int) (k0 : Option ρ) (k1 : Option ρ), ob (L48v1 fuel x9 x10 x11 x12 m x13 k0 k1) g = L48v1 fuel x9 x10 x11 x12 m x13 (ob k0 g) (ob k1 g)
  | 0, _, _, _ => rfl
  | m + 1, x13, k0, k1 => by
    simp only [L48v1, ob_bif, ob_ob, ob_none, nl48v1 fuel x9 x10 x11 x12 g m]
theorem r48v1 (fuel : Nat) (m : Nat) {ρ : Type} (k : Ex → St → Option ρ) (x9 : Nat) (x10 : Nat → Nat → CV) (x11 : Nat) (x12 : Nat → Nat → CV) (x13 : Int) :
    loopH (B48v1 (C52 fuel) fuel) N48v1 (m + 1) (s48v0 x9 x10 x11 x12 x13) k =
    (bif (decide (x13 < (Int.ofNat x9))) then (bif (inb x13 x9) then (bif (inb x13 x11) then (bif (!(((CV.int (x10 (Int.toNat x13) 0)) == (CV.int (x12 (Int.toNat x13) 0))) && (((CV.int (x10 (Int.toNat x13) 1)) == (CV.int (x12 (Int.toNat x13) 1))) && true))) then (k .ret s48v1) else (loopH (B48v1 (C52 fuel) fuel) N48v1 m (s48v0 x9 x10 x11 x12 (w64 (x13 + 1))) k)) else none) else none) else (k (.exit 0) s48v2)) := by kernel_rfl
theorem q48v1 (fuel : Nat) (x9 : Nat) (x10 : Nat → Nat → CV) (x11 : Nat) (x12 : Nat → Nat → CV) {ρ : Type} (k : Ex → St → Option ρ) : ∀ (m : Nat) (x13 : Int),
    loopH (B48v1 (C52 fuel) fuel) N48v1 m (s48v0 x9 x10 x11 x12 x13) k = L48v1 fuel x9 x10 x11 x12 m x13 (k .ret s48v1) (k (.exit 0) s48v2)
  | 0, _ => rfl
  | m + 1, x13 => by
    rw [r48v1]
    simp only [L48v1, q48v1 fuel x9 x10 x11 x12 k m]
def D48 {ρ : Type} (fuel : Nat) (x1 : Nat) (x2 : Nat → Nat → CV) (x3 : Nat) (x4 : Nat → Nat → CV) (k : Bool → Option ρ) : Option ρ :=
  (bif ((Int.ofNat x1) != (Int.ofNat x3)) then (k false) else (L48v1 fuel x1 x2 x3 x4 fuel 0
    (k false)
    (k true)))
def F48 (fuel : Nat) (x1 : Nat) (x2 : Nat → Nat → CV) (x3 : Nat) (x4 : Nat → Nat → CV) : Option (Bool) := D48 fuel x1 x2 x3 x4 some
theorem n48 {ρ σ : Type} (fuel : Nat) (x1 : Nat) (x2 : Nat → Nat → CV) (x3 : Nat) (x4 : Nat → Nat → CV) (k : (Bool) → Option ρ) (g : ρ → Option σ) : ob (D48 fuel x1 x2 x3 x4 k) g = D48 fuel x1 x2 x3 x4 fun t => ob (k t) g := by
  simp only [D48, ob_bif, ob_ob, ob_none, nl48v1]
theorem f48 {ρ : Type} (fuel : Nat) (x1 : Nat) (x2 : Nat → Nat → CV) (x3 : Nat) (x4 : Nat → Nat → CV) (k : (Bool) → Option ρ) : D48 fuel x1 x2 x3 x4 k = ob (F48 fuel x1 x2 x3 x4) k := by
  unfold F48
  rw [n48]
  simp only [ob_some]
def s48v3 (x1 : Nat) (x2 : Nat → Nat → CV) (x3 : Nat) (x4 : Nat → Nat → CV) : St := ⟨(.x (.c (.ro false (.pr (.int .i64) (.pr (.int .i64) .nil)) x1 x2)) :: .x (.c (.ro false (.pr (.int .i64) (.pr (.int .i64) .nil)) x3 x4)) :: .undef :: .undef :: .u :: .x (.c (.i .i64 0)) :: (us 5 [.undef, .undef, .undef, .undef, .undef, .undef, .undef, .undef, .undef, .undef, .undef, .undef, .undef, .undef, .undef])), []⟩
theorem walk48 (fuel : Nat) (x1 : Nat) (x2 : Nat → Nat → CV) (x3 : Nat) (x4 : Nat → Nat → CV) :
    evalF (C52 fuel) fuel A48 [.v (.ro false (.pr (.int .i64) (.pr (.int .i64) .nil)) x1 x2), .v (.ro false (.pr (.int .i64) (.pr (.int .i64) .nil)) x3 x4)] =
    (bif ((Int.ofNat x1) != (Int.ofNat x3)) then (some [.v (.b false)]) else (loopN (B48v1 (C52 fuel) fuel) N48v1 fuel (s48v3 x1 x2 x3 x4) (kBlk 0 (kSeq (C52 fuel) fuel (4 :: 5 :: (rl 11 15 [])) A48v4 (finish A48))))) := by kernel_rfl
theorem t48v1 (fuel : Nat) {ρ : Type} (k : Ex → St → Option ρ) (x1 : Nat) (x2 : Nat → Nat → CV) (x3 : Nat) (x4 : Nat → Nat → CV) :
    loopN (B48v1 (C52 fuel) fuel) N48v1 fuel (s48v3 x1 x2 x3 x4) k =
    L48v1 fuel x1 x2 x3 x4 fuel 0 (k .ret s48v1) (k (.exit 0) s48v2) :=
  (loopN_at (st' := (s48v0 x1 x2 x3 x4 0)) (by kernel_rfl)).trans (q48v1 fuel x1 x2 x3 x4 k fuel 0)
theorem g48v2 (fuel : Nat) :
    (kBlk 0 (kSeq (C52 fuel) fuel (4 :: 5 :: (rl 11 15 [])) A48v4 (finish A48))) .ret s48v1 =
    (some [.v (.b false)]) := by kernel_rfl
theorem g48v3 (fuel : Nat) :
    (kBlk 0 (kSeq (C52 fuel) fuel (4 :: 5 :: (rl 11 15 [])) A48v4 (finish A48))) (.exit 0) s48v2 =
    (some [.v (.b true)]) := by kernel_rfl
theorem e48 (fuel : Nat) (x1 : Nat) (x2 : Nat → Nat → CV) (x3 : Nat) (x4 : Nat → Nat → CV) : evalF (C52 fuel) fuel A48 [.v (.ro false (.pr (.int .i64) (.pr (.int .i64) .nil)) x1 x2), .v (.ro false (.pr (.int .i64) (.pr (.int .i64) .nil)) x3 x4)] = ob (F48 fuel x1 x2 x3 x4) fun t => some [.v (.b t)] := by
  rw [walk48, ← f48]
  simp only [D48, t48v1, g48v2, g48v3]
def O48 (fuel : Nat) : Ora where
  o := fun args {ρ} K =>
    wc args fun a1 l2 =>
    wv a1 fun c3 =>
    wL (.pr (.int .i64) (.pr (.int .i64) .nil)) c3 fun y4 y5 =>
    wc l2 fun a7 l8 =>
    wv a7 fun c9 =>
    wL (.pr (.int .i64) (.pr (.int .i64) .nil)) c9 fun y10 y11 =>
    wn l8 <|
    (ob (F48 fuel y4 y5 y10 y11) fun t => K [.v (.b t)])
  nat := fun args {ρ} K => by
    simp only [bind_wc, bind_wn, bind_wv, bind_wagg, bind_wI, bind_wB, bind_wS, bind_wL, bind_wP, bind_wFn, bind_ob, Option.bind_some]
theorem d48 {P : Program} (fuel : Nat) (hmix : P.follows .mixedOrders = true) (hC : Sound P (C52 fuel)) (hF : FFits P 48 A48) (args res : List A) (h : (O48 fuel).o args some = some res) : Den P 48 args res := by
  obtain ⟨a1, l2, rfl, z0⟩ := inv_wc h
  obtain ⟨c3, rfl, z1⟩ := inv_wv z0
  obtain ⟨y4, y5, h6, z2⟩ := inv_wL z1
  obtain ⟨a7, l8, rfl, z3⟩ := inv_wc z2
  obtain ⟨c9, rfl, z4⟩ := inv_wv z3
  obtain ⟨y10, y11, h12, z5⟩ := inv_wL z4
  obtain ⟨hn, z6⟩ := inv_wn z5
  cases hn
  exact Den.weaken (.cons (WkA.v h6) (.cons (WkA.v h12) .nil)) (evalF_sound hmix hC hF ((e48 fuel y4 y5 y10 y11).trans z6))
def C53 (fuel : Nat) : Oracle := (C52 fuel).add 48 (fun _ => true) (O48 fuel)
def A24v1 : AC := (.region 5 [mv 26 5, o1 27 (.binOp .add 3 (tm 26) (ic 1) 3), o1 5 (.assign (tm 27))] 0 none)
def A24v2 : AC := (.seq (.block 1
  (.seq (.region 6 [o1 28 (.fieldAddr 25 (tm 2) 1 1), o1 29 (.load 23 none (tm 28)), mv 30 5, o1 31 (.indexAddr 23 22 1 (tm 29) (tm 30)), o1 32 (.load 22 none (tm 31)), o1 33 (.fieldAddr 25 (tm 3) 1 1), o1 34 (.load 23 none (tm 33)), mv 35 5, o1 36 (.indexAddr 23 22 1 (tm 34) (tm 35)), o1 37 (.load 22 none (tm 36)), o1 38 (.call 48 [(tm 32), (tm 37)] [22, 22] .snap), o1 39 (.unOp .not 4 (tm 38))] 0 (some [[], [0], [], [0, 1, 2], (rl 0 4 []), [], [5], [], [5, 6, 7], (rl 5 4 []), (rl 0 10 []), (rl 0 11 [])])) []
    (.cond (tm 39)
    (.seq (.region 7 [o1 4 (.assign (.const (.bool false)))] 0 none) []
      (.ret (rl 0 4 (rl 5 35 []))))
    .skip))) (4 :: (rl 28 12 []))
  A24v1)
def A24v3 : AC := (.seq (.seq (.region 4 [mv 21 5, o1 22 (.fieldAddr 25 (tm 2) 1 1), o1 23 (.load 23 none (tm 22)), o1 24 (.len 23 false (tm 23)), o1 25 (.binOp .lss 3 (tm 21) (tm 24) 3)] 0 none) []
  (.cond (tm 25)
  .skip
  (.exit 0 (rl 0 40 [])))) (rl 21 5 [])
  A24v2)
def A24v4 : AC := (.seq (.region 8 [o1 4 (.assign (.const (.bool true)))] 0 none) []
  (.ret (rl 0 4 (rl 5 35 []))))
def A24v5 : AC := (.seq (.seq (.region 3 [o1 5 (.assign (ic 0))] 0 none) []
  (.block 0
  (.loop [] (0 :: 1 :: 4 :: (rl 6 34 []))
    A24v3))) (4 :: 5 :: (rl 21 19 []))
  A24v4)
def A24 : AF := ⟨40, [.tmp 4],
  (.seq (.region 0 [o1 2 (.box 0 25 (tm 0)), o1 3 (.box 1 25 (tm 1)), o1 4 (.assign (.const (.bool false)))] 2 none) []
  (.seq (.seq (.region 1 [o1 6 (.fieldAddr 25 (tm 2) 0 0), o1 7 (.load 22 none (tm 6)), o1 8 (.fieldAddr 25 (tm 3) 0 0), o1 9 (.load 22 none (tm 8)), o1 10 (.call 48 [(tm 7), (tm 9)] [22, 22] .snap), o1 11 (.unOp .not 4 (tm 10)), mv 12 11, og 13 (.fieldAddr 25 (tm 2) 1 1) 12 false, og 14 (.load 23 none (tm 13)) 12 false, og 15 (.len 23 false (tm 14)) 12 false, og 16 (.fieldAddr 25 (tm 3) 1 1) 12 false, og 17 (.load 23 none (tm 16)) 12 false, og 18 (.len 23 false (tm 17)) 12 false, og 19 (.binOp .neq 3 (tm 15) (tm 18) 3) 12 false, o1 20 (.pick (tm 12) (.const (.bool true)) (tm 19))] 0 none) []
  (.cond (tm 20)
  (.seq (.region 2 [o1 4 (.assign (.const (.bool false)))] 0 none) []
    (.ret (rl 0 4 (rl 5 35 []))))
  .skip)) (4 :: (rl 6 15 []))
  A24v5))⟩
def B24v1 (C : Oracle) (fuel : Nat) {ρ : Type} : St → (Ex → St → Option ρ) → Option ρ := fun st k => evalC C fuel A24v3 st k
def N24v1 : St → Option St := fun s => s.norm (0 :: 1 :: 4 :: (rl 6 34 [])) 2
def s24v0 (x19 : Int) (x20 : Nat) (x21 : Nat → Nat → CV) (x22 : Nat) (x23 : Nat → Nat → CV) (x24 : Nat) (x25 : Nat → Nat → CV) (x26 : Nat) (x27 : Nat → Nat → CV) : St := ⟨(.u :: .u :: .x (.ptr 0 0) :: .x (.ptr 1 0) :: .u :: .x (.c (.i .i64 x19)) :: (us 34 [])), [.box [(.c (.ro false (.pr (.int .i64) (.pr (.int .i64) .nil)) x20 x21)), (.c (.ro false (.pr (.sl (.pr (.int .i64) (.pr (.int .i64) .nil))) .nil) x22 x23))], .box [(.c (.ro false (.pr (.int .i64) (.pr (.int .i64) .nil)) x24 x25)), (.c (.ro false (.pr (.sl (.pr (.int .i64) (.pr (.int .i64) .nil))) .nil) x26 x27))]]⟩
def s24v1 (x20 : Nat) (x21 : Nat → Nat → CV) (x22 : Nat) (x23 : Nat → Nat → CV) (x24 : Nat) (x25 : Nat → Nat → CV) (x26 : Nat) (x27 : Nat → Nat → CV) : St := ⟨(us 4 (.x (.c (.b false)) :: (us 35 []))), [.box [(.c (.ro false (.pr (.int .i64) (.pr (.int .i64) .nil)) x20 x21)), (.c (.ro false (.pr (.sl (.pr (.int .i64) (.pr (.int .i64) .nil))) .nil) x22 x23))], .box [(.c (.ro false (.pr (.int .i64) (.pr (.int .i64) .nil)) x24 x25)), (.c (.ro false (.pr (.sl (.pr (.int .i64) (.pr (.int .i64) .nil))) .nil) x26 x27))]]⟩
def s24v2 (x20 : Nat) (x21 : Nat → Nat → CV) (x22 : Nat) (x23 : Nat → Nat → CV) (x24 : Nat) (x25 : Nat → Nat → CV) (x26 : Nat) (x27 : Nat → Nat → CV) : St := ⟨(us 40 []), [.box [(.c (.ro false (.pr (.int .i64) (.pr (.int .i64) .nil)) x20 x21)), (.c (.ro false (.pr (.sl (.pr (.int .i64) (.pr (.int .i64) .nil))) .nil) x22 x23))], .box [(.c (.ro false (.pr (.int .i64) (.pr (.int .i64) .nil)) x24 x25)), (.c (.ro false (.pr (.sl (.pr (.int .i64) (.pr (.int .i64) .nil))) .nil) x26 x27))]]⟩
def L24v1 {ρ : Type} (fuel : Nat) (x20 : Nat) (x21 : Nat → Nat → CV) (x22 : Nat) (x23 : Nat → Nat → CV) (x24 : Nat) (x25 : Nat → Nat → CV) (x26 : Nat) (x27 : Nat → Nat → CV) : Nat → Int → (Option ρ) → (Option ρ) → Option ρ
  | 0, _, _, _ => none
  | m + 1, x19, k0, k1 =>
    (bif (decide (x19 < (Int.ofNat x22))) then (bif (inb x19 x22) then (bif (inb x19 x26) then (ob (F48 fuel (CV.len (x23 (Int.toNat x19) 0)) (CV.el (x23 (Int.toNat x19) 0)) (CV.len (x27 (Int.toNat x19) 0)) (CV.el (x27 (Int.toNat x19) 0))) fun x28 => (bif (!x28) then k0 else (L24v1 fuel x20 x21 x22 x23 x24 x25 x26 x27 m (w64 (x19 + 1)) k0 k1))) else none) else none) else k1)
theorem nl24v1 {ρ σ : Type} (fuel : Nat) (x20 : Nat) (x21 : Nat → Nat → CV) (x22 : Nat) (x23 : Nat → Nat → CV) (x24 : Nat) (x25 : Nat → Nat → CV) (x26 : Nat) (x27 : Nat → Nat → CV) (g : ρ → Option σ) : ∀ (m : Nat) (x19 : Int) (k0 : Option ρ) (k1 : Option ρ), ob (L24v1 fuel x20 x21 x22 x23 x24 x25 x26 x27 m x19 k0 k1) g = L24v1 fuel x20 x21 x22 x23 x24 x25 x26 x27 m x19 (ob k0 g) (ob k1 g)
  | 0, _, _, _ => rfl
  | m + 1, x19, k0, k1 => by
    simp only [L24v1, ob_bif, ob_ob, ob_none, nl24v1 fuel x20 x21 x22 x23 x24 x25 x26 x27 g m]
theorem r24v1 (fuel : Nat) (m : Nat) {ρ : Type} (k : Ex → St → Option ρ) (x20 : Nat) (x21 : Nat → Nat → CV) (x22 : Nat) (x23 : Nat → Nat → CV) (x24 : Nat) (x25 : Nat → Nat → CV) (x26 : Nat) (x27 : Nat → Nat → CV) (x19 : Int) :
    loopH (B24v1 (C53 fuel) fuel) N24v1 (m + 1) (s24v0 x19 x20 x21 x22 x23 x24 x25 x26 x27) k =
    (bif (decide (x19 < (Int.ofNat x22))) then (bif (inb x19 x22) then (bif (inb x19 x26) then (ob (F48 fuel (CV.len (x23 (Int.toNat x19) 0)) (CV.el (x23 (Int.toNat x19) 0)) (CV.len (x27 (Int.toNat x19) 0)) (CV.el (x27 (Int.toNat x19) 0))) fun x28 => (bif (!x28) then (k .ret (s24v1 x20 x21 x22 x23 x24 x25 x26 x27)) else (loopH (B24v1 (C53 fuel) fuel) N24v1 m (s24v0 (w64 (x19 + 1)) x20 x21 x22 x23 x24 x25 x26 x27) k))) else none) else none) else (k (.exit 0) (s24v2 x20 x21 x22 x23 x24 x25 x26 x27))) := by kernel_rfl
theorem q24v1 (fuel : Nat) (x20 : Nat) (x21 : Nat → Nat → CV) (x22 : Nat) (x23 : Nat → Nat → CV) (x24 : Nat) (x25 : Nat → Nat → CV) (x26 : Nat) (x27 : Nat → Nat → CV) {ρ : Type} (k : Ex → St → Option ρ) : ∀ (m : Nat) (x19 : Int),
    loopH (B24v1 (C53 fuel) fuel) N24v1 m (s24v0 x19 x20 x21 x22 x23 x24 x25 x26 x27) k = L24v1 fuel x20 x21 x22 x23 x24 x25 x26 x27 m x19 (k .ret (s24v1 x20 x21 x22 x23 x24 x25 x26 x27)) (k (.exit 0) (s24v2 x20 x21 x22 x23 x24 x25 x26 x27))
  | 0, _ => rfl
  | m + 1, x19 => by
    rw [r24v1]
    simp only [L24v1, q24v1 fuel x20 x21 x22 x23 x24 x25 x26 x27 k m]
def D24 {ρ : Type} (fuel : Nat) (x1 : Nat) (x2 : Nat → Nat → CV) (x3 : Nat) (x4 : Nat → Nat → CV) (x5 : Nat) (x6 : Nat → Nat → CV) (x7 : Nat) (x8 : Nat → Nat → CV) (k : Bool → Option ρ) : Option ρ :=
  (ob (F48 fuel x1 x2 x5 x6) fun x9 => (bif ((!x9) == false) then (bif ((Int.ofNat x3) != (Int.ofNat x7)) then (k false) else (L24v1 fuel x1 x2 x3 x4 x5 x6 x7 x8 fuel 0
    (k false)
    (k true))) else (k false)))
def F24 (fuel : Nat) (x1 : Nat) (x2 : Nat → Nat → CV) (x3 : Nat) (x4 : Nat → Nat → CV) (x5 : Nat) (x6 : Nat → Nat → CV) (x7 : Nat) (x8 : Nat → Nat → CV) : Option (Bool) := D24 fuel x1 x2 x3 x4 x5 x6 x7 x8 some
theorem n24 {ρ σ : Type} (fuel : Nat) (x1 : Nat) (x2 : Nat → Nat → CV) (x3 : Nat) (x4 : Nat → Nat → CV) (x5 : Nat) (x6 : Nat → Nat → CV) (x7 : Nat) (x8 : Nat → Nat → CV) (k : (Bool) → Option ρ) (g : ρ → Option σ) : ob (D24 fuel x1 x2 x3 x4 x5 x6 x7 x8 k) g = D24 fuel x1 x2 x3 x4 x5 x6 x7 x8 fun t => ob (k t) g := by
  simp only [D24, ob_bif, ob_ob, ob_none, nl24v1]
theorem f24 {ρ : Type} (fuel : Nat) (x1 : Nat) (x2 : Nat → Nat → CV) (x3 : Nat) (x4 : Nat → Nat → CV) (x5 : Nat) (x6 : Nat → Nat → CV) (x7 : Nat) (x8 : Nat → Nat → CV) (k : (Bool) → Option ρ) : D24 fuel x1 x2 x3 x4 x5 x6 x7 x8 k = ob (F24 fuel x1 x2 x3 x4 x5 x6 x7 x8) k := by
  unfold F24
  rw [n24]
  simp only [ob_some]
def s24v3 (x1 : Nat) (x2 : Nat → Nat → CV) (x3 : Nat) (x4 : Nat → Nat → CV) (x5 : Nat) (x6 : Nat → Nat → CV) (x7 : Nat) (x8 : Nat → Nat → CV) : St := ⟨(.agg [(.c (.ro false (.pr (.int .i64) (.pr (.int .i64) .nil)) x1 x2)), (.c (.ro false (.pr (.sl (.pr (.int .i64) (.pr (.int .i64) .nil))) .nil) x3 x4))] :: .agg [(.c (.ro false (.pr (.int .i64) (.pr (.int .i64) .nil)) x5 x6)), (.c (.ro false (.pr (.sl (.pr (.int .i64) (.pr (.int .i64) .nil))) .nil) x7 x8))] :: .x (.ptr 0 0) :: .x (.ptr 1 0) :: .u :: .x (.c (.i .i64 0)) :: (us 15 [.undef, .undef, .undef, .undef, .undef, .undef, .undef, .undef, .undef, .undef, .undef, .undef, .undef, .undef, .undef, .undef, .undef, .undef, .undef])), [.box [(.c (.ro false (.pr (.int .i64) (.pr (.int .i64) .nil)) x1 x2)), (.c (.ro false (.pr (.sl (.pr (.int .i64) (.pr (.int .i64) .nil))) .nil) x3 x4))], .box [(.c (.ro false (.pr (.int .i64) (.pr (.int .i64) .nil)) x5 x6)), (.c (.ro false (.pr (.sl (.pr (.int .i64) (.pr (.int .i64) .nil))) .nil) x7 x8))]]⟩
theorem walk24 (fuel : Nat) (x1 : Nat) (x2 : Nat → Nat → CV) (x3 : Nat) (x4 : Nat → Nat → CV) (x5 : Nat) (x6 : Nat → Nat → CV) (x7 : Nat) (x8 : Nat → Nat → CV) :
    evalF (C53 fuel) fuel A24 [.agg [(.ro false (.pr (.int .i64) (.pr (.int .i64) .nil)) x1 x2), (.ro false (.pr (.sl (.pr (.int .i64) (.pr (.int .i64) .nil))) .nil) x3 x4)], .agg [(.ro false (.pr (.int .i64) (.pr (.int .i64) .nil)) x5 x6), (.ro false (.pr (.sl (.pr (.int .i64) (.pr (.int .i64) .nil))) .nil) x7 x8)]] =
    (ob (F48 fuel x1 x2 x5 x6) fun x9 => (bif ((!x9) == false) then (bif ((Int.ofNat x3) != (Int.ofNat x7)) then (some [.v (.b false)]) else (loopN (B24v1 (C53 fuel) fuel) N24v1 fuel (s24v3 x1 x2 x3 x4 x5 x6 x7 x8) (kBlk 0 (kSeq (C53 fuel) fuel (4 :: 5 :: (rl 21 19 [])) A24v4 (finish A24))))) else (some [.v (.b false)]))) := by kernel_rfl
theorem t24v1 (fuel : Nat) {ρ : Type} (k : Ex → St → Option ρ) (x1 : Nat) (x2 : Nat → Nat → CV) (x3 : Nat) (x4 : Nat → Nat → CV) (x5 : Nat) (x6 : Nat → Nat → CV) (x7 : Nat) (x8 : Nat → Nat → CV) :
    loopN (B24v1 (C53 fuel) fuel) N24v1 fuel (s24v3 x1 x2 x3 x4 x5 x6 x7 x8) k =
    L24v1 fuel x1 x2 x3 x4 x5 x6 x7 x8 fuel 0 (k .ret (s24v1 x1 x2 x3 x4 x5 x6 x7 x8)) (k (.exit 0) (s24v2 x1 x2 x3 x4 x5 x6 x7 x8)) :=
  (loopN_at (st' := (s24v0 0 x1 x2 x3 x4 x5 x6 x7 x8)) (by kernel_rfl)).trans (q24v1 fuel x1 x2 x3 x4 x5 x6 x7 x8 k fuel 0)
theorem g24v2 (fuel : Nat) (x1 : Nat) (x2 : Nat → Nat → CV) (x3 : Nat) (x4 : Nat → Nat → CV) (x5 : Nat) (x6 : Nat → Nat → CV) (x7 : Nat) (x8 : Nat → Nat → CV) :
    (kBlk 0 (kSeq (C53 fuel) fuel (4 :: 5 :: (rl 21 19 [])) A24v4 (finish A24))) .ret (s24v1 x1 x2 x3 x4 x5 x6 x7 x8) =
    (some [.v (.b false)]) := by kernel_rfl
theorem g24v3 (fuel : Nat) (x1 : Nat) (x2 : Nat → Nat → CV) (x3 : Nat) (x4 : Nat → Nat → CV) (x5 : Nat) (x6 : Nat → Nat → CV) (x7 : Nat) (x8 : Nat → Nat → CV) :
    (kBlk 0 (kSeq (C53 fuel) fuel (4 :: 5 :: (rl 21 19 [])) A24v4 (finish A24))) (.exit 0) (s24v2 x1 x2 x3 x4 x5 x6 x7 x8) =
    (some [.v (.b true)]) := by kernel_rfl
theorem e24 (fuel : Nat) (x1 : Nat) (x2 : Nat → Nat → CV) (x3 : Nat) (x4 : Nat → Nat → CV) (x5 : Nat) (x6 : Nat → Nat → CV) (x7 : Nat) (x8 : Nat → Nat → CV) : evalF (C53 fuel) fuel A24 [.agg [(.ro false (.pr (.int .i64) (.pr (.int .i64) .nil)) x1 x2), (.ro false (.pr (.sl (.pr (.int .i64) (.pr (.int .i64) .nil))) .nil) x3 x4)], .agg [(.ro false (.pr (.int .i64) (.pr (.int .i64) .nil)) x5 x6), (.ro false (.pr (.sl (.pr (.int .i64) (.pr (.int .i64) .nil))) .nil) x7 x8)]] = ob (F24 fuel x1 x2 x3 x4 x5 x6 x7 x8) fun t => some [.v (.b t)] := by
  rw [walk24, ← f24]
  simp only [D24, t24v1, g24v2, g24v3]
def O24 (fuel : Nat) : Ora where
  o := fun args {ρ} K =>
    wc args fun a1 l2 =>
    wagg a1 fun l3 =>
    wc l3 fun c4 l5 =>
    wL (.pr (.int .i64) (.pr (.int .i64) .nil)) c4 fun y6 y7 =>
    wc l5 fun c9 l10 =>
    wL (.pr (.sl (.pr (.int .i64) (.pr (.int .i64) .nil))) .nil) c9 fun y11 y12 =>
    wn l10 <|
    wc l2 fun a14 l15 =>
    wagg a14 fun l16 =>
    wc l16 fun c17 l18 =>
    wL (.pr (.int .i64) (.pr (.int .i64) .nil)) c17 fun y19 y20 =>
    wc l18 fun c22 l23 =>
    wL (.pr (.sl (.pr (.int .i64) (.pr (.int .i64) .nil))) .nil) c22 fun y24 y25 =>
    wn l23 <|
    wn l15 <|
    (ob (F24 fuel y6 y7 y11 y12 y19 y20 y24 y25) fun t => K [.v (.b t)])
  nat := fun args {ρ} K => by
    simp only [bind_wc, bind_wn, bind_wv, bind_wagg, bind_wI, bind_wB, bind_wS, bind_wL, bind_wP, bind_wFn, bind_ob, Option.bind_some]
theorem d24 {P : Program} (fuel : Nat) (hmix : P.follows .mixedOrders = true) (hC : Sound P (C53 fuel)) (hF : FFits P 24 A24) (args res : List A) (h : (O24 fuel).o args some = some res) : Den P 24 args res := by
  obtain ⟨a1, l2, rfl, z0⟩ := inv_wc h
  obtain ⟨l3, rfl, z1⟩ := inv_wagg z0
  obtain ⟨c4, l5, rfl, z2⟩ := inv_wc z1
  obtain ⟨y6, y7, h8, z3⟩ := inv_wL z2
  obtain ⟨c9, l10, rfl, z4⟩ := inv_wc z3
  obtain ⟨y11, y12, h13, z5⟩ := inv_wL z4
  obtain ⟨hn, z6⟩ := inv_wn z5
  cases hn
  obtain ⟨a14, l15, rfl, z7⟩ := inv_wc z6
  obtain ⟨l16, rfl, z8⟩ := inv_wagg z7
  obtain ⟨c17, l18, rfl, z9⟩ := inv_wc z8
  obtain ⟨y19, y20, h21, z10⟩ := inv_wL z9
  obtain ⟨c22, l23, rfl, z11⟩ := inv_wc z10
  obtain ⟨y24, y25, h26, z12⟩ := inv_wL z11
  obtain ⟨hn, z13⟩ := inv_wn z12
  cases hn
  obtain ⟨hn, z14⟩ := inv_wn z13
  cases hn
  exact Den.weaken (.cons (WkA.agg (.cons h8 (.cons h13 .nil))) (.cons (WkA.agg (.cons h21 (.cons h26 .nil))) .nil)) (evalF_sound hmix hC hF ((e24 fuel y6 y7 y11 y12 y19 y20 y24 y25).trans z14))
def C54 (fuel : Nat) : Oracle := (C53 fuel).add 24 (fun _ => true) (O24 fuel)
def A47v1 : AC := (.region 10 [o1 30 (.binOp .add 3 (tm 19) (ic 1) 3), mv 19 30] 0 none)
def A47v2 : AC := (.seq (.block 1
  (.seq (.region 6 [o1 21 (.indexAddr 23 22 1 (tm 17) (tm 19)), o1 22 (.load 22 none (tm 21)), o1 7 (.assign (tm 22))] 0 none) []
    (.seq (.region 7 [mv 23 7, o1 24 (.load 34 (some 2) (tm 3)), o1 25 (.call 65 [(tm 23), (tm 24)] [22, 34] .snap), o1 8 (.assign (tm 25))] 0 none) []
    (.seq (.region 8 [mv 26 8, o1 27 (.binOp .geq 3 (tm 26) (ic 0) 3)] 0 none) []
    (.cond (tm 27)
    (.seq (.region 9 [mv 28 8, o1 29 (.unOp .neg 3 (tm 28)), o1 4 (.assign (tm 29))] 0 none) []
      (.ret (rl 0 4 (rl 5 26 []))))
    .skip))))) (4 :: 7 :: 8 :: (rl 21 9 []))
  A47v1)
def A47v3 : AC := (.seq (.region 5 [o1 20 (.binOp .lss 3 (tm 19) (tm 18) 3)] 0 none) []
  (.seq (.cond (tm 20)
  .skip
  (.exit 0 (rl 0 31 []))) []
  A47v2))
def A47v4 : AC := (.seq (.region 11 [o1 4 (.assign (ic 1))] 0 none) []
  (.ret (rl 0 4 (rl 5 26 []))))
def A47v5 : AC := (.seq (.seq (.region 4 [o1 16 (.fieldAddr 25 (tm 2) 1 1), o1 17 (.load 23 none (tm 16)), o1 18 (.len 23 false (tm 17)), o1 19 (.move (ic 0))] 0 none) []
  (.block 0
  (.loop [] (0 :: 1 :: 2 :: (rl 4 13 (rl 20 11 [])))
    A47v3))) (4 :: 7 :: 8 :: (rl 16 15 []))
  A47v4)
def A47 : AF := ⟨31, [.tmp 4],
  (.seq (.region 0 [o1 2 (.box 0 25 (tm 0)), o1 3 (.box 1 34 (tm 1)), o1 4 (.assign (ic 0))] 2 none) []
  (.seq (.seq (.region 1 [o1 9 (.fieldAddr 25 (tm 2) 0 0), o1 10 (.load 22 none (tm 9)), o1 11 (.load 34 (some 2) (tm 3)), o1 12 (.call 65 [(tm 10), (tm 11)] [22, 34] .snap), o1 5 (.assign (tm 12))] 0 none) []
  (.seq (.region 2 [mv 13 5, o1 14 (.binOp .leq 3 (tm 13) (ic 0) 3)] 0 none) []
  (.cond (tm 14)
  (.seq (.region 3 [mv 15 5, o1 4 (.assign (tm 15))] 0 none) []
    (.ret (rl 0 4 (rl 5 26 []))))
  .skip))) (4 :: 5 :: (rl 9 7 []))
  A47v5))⟩
def B47v1 (C : Oracle) (fuel : Nat) {ρ : Type} : St → (Ex → St → Option ρ) → Option ρ := fun st k => evalC C fuel A47v3 st k
def N47v1 : St → Option St := fun s => s.norm (0 :: 1 :: 2 :: (rl 4 13 (rl 20 11 []))) 2
def s47v0 (x16 : Nat) (x17 : Nat → Nat → CV) (x18 : Int) (x19 : Int) (x20 : Nat) (x21 : Nat → Nat → CV) (x22 : Int) (x23 : Int) : St := ⟨(us 3 (.x (.ptr 1 0) :: (us 13 (.x (.c (.ro false (.pr (.sl (.pr (.int .i64) (.pr (.int .i64) .nil))) .nil) x16 x17)) :: .x (.c (.i .i64 x18)) :: .x (.c (.i .i64 x19)) :: (us 11 []))))), [.box [(.c (.ro false (.pr (.int .i64) (.pr (.int .i64) .nil)) x20 x21)), (.c (.ro false (.pr (.sl (.pr (.int .i64) (.pr (.int .i64) .nil))) .nil) x16 x17))], .box [(.c (.i .i64 x22)), (.c (.i .i64 x23))]]⟩
def s47v1 (x25 : Int) (x20 : Nat) (x21 : Nat → Nat → CV) (x16 : Nat) (x17 : Nat → Nat → CV) (x22 : Int) (x23 : Int) : St := ⟨(us 4 (.x (.c (.i .i64 x25)) :: (us 26 []))), [.box [(.c (.ro false (.pr (.int .i64) (.pr (.int .i64) .nil)) x20 x21)), (.c (.ro false (.pr (.sl (.pr (.int .i64) (.pr (.int .i64) .nil))) .nil) x16 x17))], .box [(.c (.i .i64 x22)), (.c (.i .i64 x23))]]⟩
def s47v2 (x20 : Nat) (x21 : Nat → Nat → CV) (x16 : Nat) (x17 : Nat → Nat → CV) (x22 : Int) (x23 : Int) : St := ⟨(us 31 []), [.box [(.c (.ro false (.pr (.int .i64) (.pr (.int .i64) .nil)) x20 x21)), (.c (.ro false (.pr (.sl (.pr (.int .i64) (.pr (.int .i64) .nil))) .nil) x16 x17))], .box [(.c (.i .i64 x22)), (.c (.i .i64 x23))]]⟩
def L47v1 {ρ : Type} (fuel : Nat) (x16 : Nat) (x17 : Nat → Nat → CV) (x18 : Int) (x20 : Nat) (x21 : Nat → Nat → CV) (x22 : Int) (x23 : Int) : Nat → Int → (Int → Option ρ) → (Option ρ) → Option ρ
  | 0, _, _, _ => none
  | m + 1, x19, k0, k1 =>
    (bif (decide (x19 < x18)) then (bif (inb x19 x16) then (ob (F65 fuel (CV.len (x17 (Int.toNat x19) 0)) (CV.el (x17 (Int.toNat x19) 0)) x22 x23) fun x24 => (bif (decide (x24 ≥ 0)) then (k0 (w64 (0 - x24))) else (L47v1 fuel x16 x17 x18 x20 x21 x22 x23 m (w64 (x19 + 1)) k0 k1))) else none) else k1)
theorem nl47v1 {ρ σ : Type} (fuel : Nat) (x16 : Nat) (x17 : Nat → Nat → CV) (x18 : Int) (x20 : Nat) (x21 : Nat → Nat → CV) (x22 : Int) (x23 : Int) (g : ρ → Option σ) : ∀ (m : Nat) (x19 : Int) (k0 : Int → Option ρ) (k1 : Option ρ), ob (L47v1 fuel x16 x17 x18 x20 x21 x22 x23 m x19 k0 k1) g = L47v1 fuel x16 x17 x18 x20 x21 x22 x23 m x19 (fun x25 => ob (k0 x25) g) (ob k1 g)
  | 0, _, _, _ => rfl
  | m + 1, x19, k0, k1 => by
    simp only [L47v1, ob_bif, ob_ob, ob_none, nl47v1 fuel x16 x17 x18 x20 x21 x22 x23 g m]
theorem r47v1 (fuel : Nat) (m : Nat) {ρ : Type} (k : Ex → St → Option ρ) (x16 : Nat) (x17 : Nat → Nat → CV) (x18 : Int) (x20 : Nat) (x21 : Nat → Nat → CV) (x22 : Int) (x23 : Int) (x19 : Int) :
    loopH (B47v1 (C54 fuel) fuel) N47v1 (m + 1) (s47v0 x16 x17 x18 x19 x20 x21 x22 x23) k =
    (bif (decide (x19 < x18)) then (bif (inb x19 x16) then (ob (F65 fuel (CV.len (x17 (Int.toNat x19) 0)) (CV.el (x17 (Int.toNat x19) 0)) x22 x23) fun x24 => (bif (decide (x24 ≥ 0)) then (k .ret (s47v1 (w64 (0 - x24)) x20 x21 x16 x17 x22 x23)) else (loopH (B47v1 (C54 fuel) fuel) N47v1 m (s47v0 x16 x17 x18 (w64 (x19 + 1)) x20 x21 x22 x23) k))) else none) else (k (.exit 0) (s47v2 x20 x21 x16 x17 x22 x23))) := by kernel_rfl
theorem q47v1 (fuel : Nat) (x16 : Nat) (x17 : Nat → Nat → CV) (x18 : Int) (x20 : Nat) (x21 : Nat → Nat → CV) (x22 : Int) (x23 : Int) {ρ : Type} (k : Ex → St → Option ρ) : ∀ (m : Nat) (x19 : Int),
    loopH (B47v1 (C54 fuel) fuel) N47v1 m (s47v0 x16 x17 x18 x19 x20 x21 x22 x23) k = L47v1 fuel x16 x17 x18 x20 x21 x22 x23 m x19 (fun x25 => k .ret (s47v1 x25 x20 x21 x16 x17 x22 x23)) (k (.exit 0) (s47v2 x20 x21 x16 x17 x22 x23))
  | 0, _ => rfl
  | m + 1, x19 => by
    rw [r47v1]
    simp only [L47v1, q47v1 fuel x16 x17 x18 x20 x21 x22 x23 k m]
def D47 {ρ : Type} (fuel : Nat) (x1 : Nat) (x2 : Nat → Nat → CV) (x3 : Nat) (x4 : Nat → Nat → CV) (x5 : Int) (x6 : Int) (k : Int → Option ρ) : Option ρ :=
  (ob (F65 fuel x1 x2 x5 x6) fun x7 => (bif (decide (x7 ≤ 0)) then (k x7) else (L47v1 fuel x3 x4 (Int.ofNat x3) x1 x2 x5 x6 fuel 0
    (fun x26 => (k x26))
    (k 1))))
def F47 (fuel : Nat) (x1 : Nat) (x2 : Nat → Nat → CV) (x3 : Nat) (x4 : Nat → Nat → CV) (x5 : Int) (x6 : Int) : Option (Int) := D47 fuel x1 x2 x3 x4 x5 x6 some
theorem n47 {ρ σ : Type} (fuel : Nat) (x1 : Nat) (x2 : Nat → Nat → CV) (x3 : Nat) (x4 : Nat → Nat → CV) (x5 : Int) (x6 : Int) (k : (Int) → Option ρ) (g : ρ → Option σ) : ob (D47 fuel x1 x2 x3 x4 x5 x6 k) g = D47 fuel x1 x2 x3 x4 x5 x6 fun t => ob (k t) g := by
  simp only [D47, ob_bif, ob_ob, ob_none, nl47v1]
theorem f47 {ρ : Type} (fuel : Nat) (x1 : Nat) (x2 : Nat → Nat → CV) (x3 : Nat) (x4 : Nat → Nat → CV) (x5 : Int) (x6 : Int) (k : (Int) → Option ρ) : D47 fuel x1 x2 x3 x4 x5 x6 k = ob (F47 fuel x1 x2 x3 x4 x5 x6) k := by
  unfold F47
  rw [n47]
  simp only [ob_some]
def s47v3 (x1 : Nat) (x2 : Nat → Nat → CV) (x3 : Nat) (x4 : Nat → Nat → CV) (x5 : Int) (x6 : Int) : St := ⟨(.agg [(.c (.ro false (.pr (.int .i64) (.pr (.int .i64) .nil)) x1 x2)), (.c (.ro false (.pr (.sl (.pr (.int .i64) (.pr (.int .i64) .nil))) .nil) x3 x4))] :: .agg [(.c (.i .i64 x5)), (.c (.i .i64 x6))] :: .x (.ptr 0 0) :: .x (.ptr 1 0) :: .u :: .u :: .undef :: .undef :: .undef :: (us 7 [.x (.ptr 0 1), .x (.c (.ro false (.pr (.sl (.pr (.int .i64) (.pr (.int .i64) .nil))) .nil) x3 x4)), .x (.c (.i .i64 (Int.ofNat x3))), .x (.c (.i .i64 0)), .undef, .undef, .undef, .undef, .undef, .undef, .undef, .undef, .undef, .undef, .undef])), [.box [(.c (.ro false (.pr (.int .i64) (.pr (.int .i64) .nil)) x1 x2)), (.c (.ro false (.pr (.sl (.pr (.int .i64) (.pr (.int .i64) .nil))) .nil) x3 x4))], .box [(.c (.i .i64 x5)), (.c (.i .i64 x6))]]⟩
theorem walk47 (fuel : Nat) (x1 : Nat) (x2 : Nat → Nat → CV) (x3 : Nat) (x4 : Nat → Nat → CV) (x5 : Int) (x6 : Int) :
    evalF (C54 fuel) fuel A47 [.agg [(.ro false (.pr (.int .i64) (.pr (.int .i64) .nil)) x1 x2), (.ro false (.pr (.sl (.pr (.int .i64) (.pr (.int .i64) .nil))) .nil) x3 x4)], .agg [(.i .i64 x5), (.i .i64 x6)]] =
    (ob (F65 fuel x1 x2 x5 x6) fun x7 => (bif (decide (x7 ≤ 0)) then (some [.v (.i .i64 x7)]) else (loopN (B47v1 (C54 fuel) fuel) N47v1 fuel (s47v3 x1 x2 x3 x4 x5 x6) (kBlk 0 (kSeq (C54 fuel) fuel (4 :: 7 :: 8 :: (rl 16 15 [])) A47v4 (finish A47)))))) := by kernel_rfl
theorem t47v1 (fuel : Nat) {ρ : Type} (k : Ex → St → Option ρ) (x1 : Nat) (x2 : Nat → Nat → CV) (x3 : Nat) (x4 : Nat → Nat → CV) (x5 : Int) (x6 : Int) :
    loopN (B47v1 (C54 fuel) fuel) N47v1 fuel (s47v3 x1 x2 x3 x4 x5 x6) k =
    L47v1 fuel x3 x4 (Int.ofNat x3) x1 x2 x5 x6 fuel 0 (fun x25 => k .ret (s47v1 x25 x1 x2 x3 x4 x5 x6)) (k (.exit 0) (s47v2 x1 x2 x3 x4 x5 x6)) :=
  (loopN_at (st' := (s47v0 x3 x4 (Int.ofNat x3) 0 x1 x2 x5 x6)) (by kernel_rfl)).trans (q47v1 fuel x3 x4 (Int.ofNat x3) x1 x2 x5 x6 k fuel 0)
theorem g47v2 (fuel : Nat) (x26 : Int) (x1 : Nat) (x2 : Nat → Nat → CV) (x3 : Nat) (x4 : Nat → Nat → CV) (x5 : Int) (x6 : Int) :
    (kBlk 0 (kSeq (C54 fuel) fuel (4 :: 7 :: 8 :: (rl 16 15 [])) A47v4 (finish A47))) .ret (s47v1 x26 x1 x2 x3 x4 x5 x6) =
    (some [.v (.i .i64 x26)]) := by kernel_rfl
theorem g47v3 (fuel : Nat) (x1 : Nat) (x2 : Nat → Nat → CV) (x3 : Nat) (x4 : Nat → Nat → CV) (x5 : Int) (x6 : Int) :
    (kBlk 0 (kSeq (C54 fuel) fuel (4 :: 7 :: 8 :: (rl 16 15 [])) A47v4 (finish A47))) (.exit 0) (s47v2 x1 x2 x3 x4 x5 x6) =
    (some [.v (.i .i64 1)]) := by kernel_rfl
theorem e47 (fuel : Nat) (x1 : Nat) (x2 : Nat → Nat → CV) (x3 : Nat) (x4 : Nat → Nat → CV) (x5 : Int) (x6 : Int) : evalF (C54 fuel) fuel A47 [.agg [(.ro false (.pr (.int .i64) (.pr (.int .i64) .nil)) x1 x2), (.ro false (.pr (.sl (.pr (.int .i64) (.pr (.int .i64) .nil))) .nil) x3 x4)], .agg [(.i .i64 x5), (.i .i64 x6)]] = ob (F47 fuel x1 x2 x3 x4 x5 x6) fun t => some [.v (.i .i64 t)] := by
  rw [walk47, ← f47]
  simp only [D47, t47v1, g47v2, g47v3]
def O47 (fuel : Nat) : Ora where
  o := fun args {ρ} K =>
    wc args fun a1 l2 =>
    wagg a1 fun l3 =>
    wc l3 fun c4 l5 =>
    wL (.pr (.int .i64) (.pr (.int .i64) .nil)) c4 fun y6 y7 =>
    wc l5 fun c9 l10 =>
    wL (.pr (.sl (.pr (.int .i64) (.pr (.int .i64) .nil))) .nil) c9 fun y11 y12 =>
    wn l10 <|
    wc l2 fun a14 l15 =>
    wagg a14 fun l16 =>
    wc l16 fun c17 l18 =>
    wI .i64 c17 fun y19 =>
    wc l18 fun c21 l22 =>
    wI .i64 c21 fun y23 =>
    wn l22 <|
    wn l15 <|
    (ob (F47 fuel y6 y7 y11 y12 y19 y23) fun t => K [.v (.i .i64 t)])
  nat := fun args {ρ} K => by
    simp only [bind_wc, bind_wn, bind_wv, bind_wagg, bind_wI, bind_wB, bind_wS, bind_wL, bind_wP, bind_wFn, bind_ob, Option.bind_some]
theorem d47 {P : Program} (fuel : Nat) (hmix : P.follows .mixedOrders = true) (hC : Sound P (C54 fuel)) (hF : FFits P 47 A47) (args res : List A) (h : (O47 fuel).o args some = some res) : Den P 47 args res := by
  obtain ⟨a1, l2, rfl, z0⟩ := inv_wc h
  obtain ⟨l3, rfl, z1⟩ := inv_wagg z0
  obtain ⟨c4, l5, rfl, z2⟩ := inv_wc z1
  obtain ⟨y6, y7, h8, z3⟩ := inv_wL z2
  obtain ⟨c9, l10, rfl, z4⟩ := inv_wc z3
  obtain ⟨y11, y12, h13, z5⟩ := inv_wL z4
  obtain ⟨hn, z6⟩ := inv_wn z5
  cases hn
  obtain ⟨a14, l15, rfl, z7⟩ := inv_wc z6
  obtain ⟨l16, rfl, z8⟩ := inv_wagg z7
  obtain ⟨c17, l18, rfl, z9⟩ := inv_wc z8
  obtain ⟨y19, h20, z10⟩ := inv_wI z9
  obtain ⟨c21, l22, rfl, z11⟩ := inv_wc z10
  obtain ⟨y23, h24, z12⟩ := inv_wI z11
  obtain ⟨hn, z13⟩ := inv_wn z12
  cases hn
  obtain ⟨hn, z14⟩ := inv_wn z13
  cases hn
  exact Den.weaken (.cons (WkA.agg (.cons h8 (.cons h13 .nil))) (.cons (WkA.agg (.cons (Wk.i h20) (.cons (Wk.i h24) .nil))) .nil)) (evalF_sound hmix hC hF ((e47 fuel y6 y7 y11 y12 y19 y23).trans z14))
def C55 (fuel : Nat) : Oracle := (C54 fuel).add 47 (fun _ => true) (O47 fuel)
def A22v1 : AC := (.seq (.region 3 [o1 8 (.load 25 (some 2) (tm 2)), o1 9 (.load 34 (some 2) (tm 3)), o1 10 (.call 47 [(tm 8), (tm 9)] [25, 34] .snap), o1 4 (.assign (tm 10))] 0 none) []
  (.ret (rl 0 4 (rl 5 6 []))))
def A22 : AF := ⟨11, [.tmp 4],
  (.seq (.region 0 [o1 2 (.box 0 25 (tm 0)), o1 3 (.box 1 34 (tm 1)), o1 4 (.assign (ic 0))] 2 none) []
  (.seq (.seq (.region 1 [o1 5 (.load 25 (some 2) (tm 2)), o1 6 (.call 13 [(tm 5)] [25] .snap), o1 7 (.binOp .neq 27 (tm 6) (ic 0) 27)] 0 none) []
  (.cond (tm 7)
  (.seq (.region 2 [o1 4 (.assign (ic (-1)))] 0 none) []
    (.ret (rl 0 4 (rl 5 6 []))))
  .skip)) (rl 4 4 [])
  A22v1))⟩
def D22 {ρ : Type} (fuel : Nat) (x1 : Nat) (x2 : Nat → Nat → CV) (x3 : Nat) (x4 : Nat → Nat → CV) (x5 : Int) (x6 : Int) (k : Int → Option ρ) : Option ρ :=
  (ob (F13 fuel x1 x2 x3 x4) fun x7 => (bif (x7 != 0) then (k (-1)) else (ob (F47 fuel x1 x2 x3 x4 x5 x6) fun x8 => (k x8))))
def F22 (fuel : Nat) (x1 : Nat) (x2 : Nat → Nat → CV) (x3 : Nat) (x4 : Nat → Nat → CV) (x5 : Int) (x6 : Int) : Option (Int) := D22 fuel x1 x2 x3 x4 x5 x6 some
theorem n22 {ρ σ : Type} (fuel : Nat) (x1 : Nat) (x2 : Nat → Nat → CV) (x3 : Nat) (x4 : Nat → Nat → CV) (x5 : Int) (x6 : Int) (k : (Int) → Option ρ) (g : ρ → Option σ) : ob (D22 fuel x1 x2 x3 x4 x5 x6 k) g = D22 fuel x1 x2 x3 x4 x5 x6 fun t => ob (k t) g := by
  simp only [D22, ob_bif, ob_ob, ob_none]
theorem f22 {ρ : Type} (fuel : Nat) (x1 : Nat) (x2 : Nat → Nat → CV) (x3 : Nat) (x4 : Nat → Nat → CV) (x5 : Int) (x6 : Int) (k : (Int) → Option ρ) : D22 fuel x1 x2 x3 x4 x5 x6 k = ob (F22 fuel x1 x2 x3 x4 x5 x6) k := by
  unfold F22
  rw [n22]
  simp only [ob_some]
theorem walk22 (fuel : Nat) (x1 : Nat) (x2 : Nat → Nat → CV) (x3 : Nat) (x4 : Nat → Nat → CV) (x5 : Int) (x6 : Int) :
    evalF (C55 fuel) fuel A22 [.agg [(.ro false (.pr (.int .i64) (.pr (.int .i64) .nil)) x1 x2), (.ro false (.pr (.sl (.pr (.int .i64) (.pr (.int .i64) .nil))) .nil) x3 x4)], .agg [(.i .i64 x5), (.i .i64 x6)]] =
    (ob (F13 fuel x1 x2 x3 x4) fun x7 => (bif (x7 != 0) then (some [.v (.i .i64 (-1))]) else (ob (F47 fuel x1 x2 x3 x4 x5 x6) fun x8 => (some [.v (.i .i64 x8)])))) := by kernel_rfl
theorem e22 (fuel : Nat) (x1 : Nat) (x2 : Nat → Nat → CV) (x3 : Nat) (x4 : Nat → Nat → CV) (x5 : Int) (x6 : Int) : evalF (C55 fuel) fuel A22 [.agg [(.ro false (.pr (.int .i64) (.pr (.int .i64) .nil)) x1 x2), (.ro false (.pr (.sl (.pr (.int .i64) (.pr (.int .i64) .nil))) .nil) x3 x4)], .agg [(.i .i64 x5), (.i .i64 x6)]] = ob (F22 fuel x1 x2 x3 x4 x5 x6) fun t => some [.v (.i .i64 t)] := by
  rw [walk22, ← f22]
  simp only [D22]
def O22 (fuel : Nat) : Ora where
  o := fun args {ρ} K =>
    wc args fun a1 l2 =>
    wagg a1 fun l3 =>
    wc l3 fun c4 l5 =>
    wL (.pr (.int .i64) (.pr (.int .i64) .nil)) c4 fun y6 y7 =>
    wc l5 fun c9 l10 =>
    wL (.pr (.sl (.pr (.int .i64) (.pr (.int .i64) .nil))) .nil) c9 fun y11 y12 =>
    wn l10 <|
    wc l2 fun a14 l15 =>
    wagg a14 fun l16 =>
    wc l16 fun c17 l18 =>
    wI .i64 c17 fun y19 =>
    wc l18 fun c21 l22 =>
    wI .i64 c21 fun y23 =>
    wn l22 <|
    wn l15 <|
    (ob (F22 fuel y6 y7 y11 y12 y19 y23) fun t => K [.v (.i .i64 t)])
  nat := fun args {ρ} K => by
    simp only [bind_wc, bind_wn, bind_wv, bind_wagg, bind_wI, bind_wB, bind_wS, bind_wL, bind_wP, bind_wFn, bind_ob, Option.bind_some]
theorem d22 {P : Program} (fuel : Nat) (hmix : P.follows .mixedOrders = true) (hC : Sound P (C55 fuel)) (hF : FFits P 22 A22) (args res : List A) (h : (O22 fuel).o args some = some res) : Den P 22 args res := by
  obtain ⟨a1, l2, rfl, z0⟩ := inv_wc h
  obtain ⟨l3, rfl, z1⟩ := inv_wagg z0
  obtain ⟨c4, l5, rfl, z2⟩ := inv_wc z1
  obtain ⟨y6, y7, h8, z3⟩ := inv_wL z2
  obtain ⟨c9, l10, rfl, z4⟩ := inv_wc z3
  obtain ⟨y11, y12, h13, z5⟩ := inv_wL z4
  obtain ⟨hn, z6⟩ := inv_wn z5
  cases hn
  obtain ⟨a14, l15, rfl, z7⟩ := inv_wc z6
  obtain ⟨l16, rfl, z8⟩ := inv_wagg z7
  obtain ⟨c17, l18, rfl, z9⟩ := inv_wc z8
  obtain ⟨y19, h20, z10⟩ := inv_wI z9
  obtain ⟨c21, l22, rfl, z11⟩ := inv_wc z10
  obtain ⟨y23, h24, z12⟩ := inv_wI z11
  obtain ⟨hn, z13⟩ := inv_wn z12
  cases hn
  obtain ⟨hn, z14⟩ := inv_wn z13
  cases hn
  exact Den.weaken (.cons (WkA.agg (.cons h8 (.cons h13 .nil))) (.cons (WkA.agg (.cons (Wk.i h20) (.cons (Wk.i h24) .nil))) .nil)) (evalF_sound hmix hC hF ((e22 fuel y6 y7 y11 y12 y19 y23).trans z14))
def C56 (fuel : Nat) : Oracle := (C55 fuel).add 22 (fun _ => true) (O22 fuel)
def A85v1 : AC := (.region 10 [o1 22 (.binOp .add 3 (tm 8) (ic 1) 3), mv 8 22] 0 none)
def A85v2 : AC := (.seq (.block 1
  (.seq (.region 6 [mv 10 8, o1 4 (.assign (tm 10))] 0 none) []
    (.seq (.region 7 [mv 11 3, mv 12 4, o1 13 (.binOp .sub 3 (ic 31) (tm 12) 3), o1 14 (.binOp .shl 3 (ic 1) (tm 13) 3), o1 15 (.binOp .or 3 (tm 11) (tm 14) 3), o1 5 (.assign (tm 15))] 0 none) []
    (.seq (.region 8 [mv 16 5, mv 17 0, mv 18 5, o1 19 (.binOp .quo 3 (tm 17) (tm 18) 3), o1 20 (.binOp .leq 3 (tm 16) (tm 19) 3)] 0 none) []
    (.cond (tm 20)
    (.region 9 [mv 21 5, o1 3 (.assign (tm 21))] 0 none)
    .skip))))) (4 :: 5 :: (rl 10 12 []))
  A85v1)
def A85v3 : AC := (.seq (.region 5 [o1 9 (.binOp .lss 3 (tm 8) (ic 32) 3)] 0 none) []
  (.seq (.cond (tm 9)
  .skip
  (.exit 0 (0 :: 1 :: 2 :: (rl 4 20 [])))) []
  A85v2))
def A85v4 : AC := (.seq (.region 11 [mv 23 3, o1 2 (.assign (tm 23))] 0 none) []
  (.ret (0 :: 1 :: (rl 3 21 []))))
def A85v5 : AC := (.seq (.region 3 [o1 3 (.assign (ic 0))] 0 none) []
  (.seq (.seq (.region 4 [o1 8 (.move (ic 0))] 0 none) []
  (.block 0
  (.loop [] (1 :: 2 :: (rl 4 4 (rl 9 15 [])))
    A85v3))) (4 :: 5 :: (rl 8 15 []))
  A85v4))
def A85 : AF := ⟨24, [.tmp 2],
  (.seq (.region 0 [o1 2 (.assign (ic 0))] 0 none) []
  (.seq (.seq (.region 1 [mv 6 0, o1 7 (.binOp .lss 3 (tm 6) (ic 0) 3)] 0 none) []
  (.cond (tm 7)
  (.seq (.region 2 [o1 2 (.assign (ic 0))] 0 none) []
    (.ret (0 :: 1 :: (rl 3 21 []))))
  .skip)) [2, 6, 7]
  A85v5))⟩
def B85v1 (C : Oracle) (fuel : Nat) {ρ : Type} : St → (Ex → St → Option ρ) → Option ρ := fun st k => evalC C fuel A85v3 st k
def N85v1 : St → Option St := fun s => s.norm (1 :: 2 :: (rl 4 4 (rl 9 15 []))) 0
def s85v0 (x3 : Int) (x4 : Int) (x5 : Int) : St := ⟨(.x (.c (.i .i64 x3)) :: .u :: .u :: .x (.c (.i .i64 x4)) :: (us 4 (.x (.c (.i .i64 x5)) :: (us 15 [])))), []⟩
def s85v1 (x6 : Int) : St := ⟨(us 3 (.x (.c (.i .i64 x6)) :: (us 20 []))), []⟩
def L85v1 {ρ : Type} (fuel : Nat) (x3 : Int) : Nat → Int → Int → (Int → Option ρ) → Option ρ
  | 0, _, _, _ => none
  | m + 1, x4, x5, k0 =>
    (bif (decide (x5 < 32)) then (bif (decide (0 ≤ (w64 (31 - x5))) && decide ((w64 (31 - x5)) ≤ 64)) then (bif ((bits .or .i64 x4 (w64 (1 * 2 ^ (Int.toNat (w64 (31 - x5)))))) == 0) then none else (bif (decide ((bits .or .i64 x4 (w64 (1 * 2 ^ (Int.toNat (w64 (31 - x5)))))) ≤ (w64 (Int.tdiv x3 (bits .or .i64 x4 (w64 (1 * 2 ^ (Int.toNat (w64 (31 - x5)))))))))) then (L85v1 fuel x3 m (bits .or .i64 x4 (w64 (1 * 2 ^ (Int.toNat (w64 (31 - x5)))))) (w64 (x5 + 1)) k0) else (L85v1 fuel x3 m x4 (w64 (x5 + 1)) k0))) else none) else (k0 x4))
theorem nl85v1 {ρ σ : Type} (fuel : Nat) (x3 : Int) (g : ρ → Option σ) : ∀ (m : Nat) (x4 : Int) (x5 : Int) (k0 : Int → Option ρ), ob (L85v1 fuel x3 m x4 x5 k0) g = L85v1 fuel x3 m x4 x5 (fun x6 => ob (k0 x6) g)
  | 0, _, _, _ => rfl
  | m + 1, x4, x5, k0 => by
    simp only [L85v1, ob_bif, ob_ob, ob_none, nl85v1 fuel x3 g m]
theorem r85v1 (fuel : Nat) (m : Nat) {ρ : Type} (k : Ex → St → Option ρ) (x3 : Int) (x4 : Int) (x5 : Int) :
    loopH (B85v1 (C56 fuel) fuel) N85v1 (m + 1) (s85v0 x3 x4 x5) k =
    (bif (decide (x5 < 32)) then (bif (decide (0 ≤ (w64 (31 - x5))) && decide ((w64 (31 - x5)) ≤ 64)) then (bif ((bits .or .i64 x4 (w64 (1 * 2 ^ (Int.toNat (w64 (31 - x5)))))) == 0) then none else (bif (decide ((bits .or .i64 x4 (w64 (1 * 2 ^ (Int.toNat (w64 (31 - x5)))))) ≤ (w64 (Int.tdiv x3 (bits .or .i64 x4 (w64 (1 * 2 ^ (Int.toNat (w64 (31 - x5)))))))))) then (loopH (B85v1 (C56 fuel) fuel) N85v1 m (s85v0 x3 (bits .or .i64 x4 (w64 (1 * 2 ^ (Int.toNat (w64 (31 - x5)))))) (w64 (x5 + 1))) k) else (loopH (B85v1 (C56 fuel) fuel) N85v1 m (s85v0 x3 x4 (w64 (x5 + 1))) k))) else none) else (k (.exit 0) (s85v1 x4))) := by kernel_rfl
theorem q85v1 (fuel : Nat) (x3 : Int) {ρ : Type} (k : Ex → St → Option ρ) : ∀ (m : Nat) (x4 : Int) (x5 : Int),
    loopH (B85v1 (C56 fuel) fuel) N85v1 m (s85v0 x3 x4 x5) k = L85v1 fuel x3 m x4 x5 (fun x6 => k (.exit 0) (s85v1 x6))
  | 0, _, _ => rfl
  | m + 1, x4, x5 => by
    rw [r85v1]
    simp only [L85v1, q85v1 fuel x3 k m]
def D85 {ρ : Type} (fuel : Nat) (x1 : Int) (k : Int → Option ρ) : Option ρ :=
  (bif (decide (x1 < 0)) then (k 0) else (L85v1 fuel x1 fuel 0 0
    (fun x7 => (k x7))))
def F85 (fuel : Nat) (x1 : Int) : Option (Int) := D85 fuel x1 some
theorem n85 {ρ σ : Type} (fuel : Nat) (x1 : Int) (k : (Int) → Option ρ) (g : ρ → Option σ) : ob (D85 fuel x1 k) g = D85 fuel x1 fun t => ob (k t) g := by
  simp only [D85, ob_bif, ob_ob, ob_none, nl85v1]
theorem f85 {ρ : Type} (fuel : Nat) (x1 : Int) (k : (Int) → Option ρ) : D85 fuel x1 k = ob (F85 fuel x1) k := by
  unfold F85
  rw [n85]
  simp only [ob_some]
def s85v2 (x1 : Int) : St := ⟨[.x (.c (.i .i64 x1)), .undef, .u, .x (.c (.i .i64 0)), .undef, .undef, .u, .u, .x (.c (.i .i64 0)), .undef, .undef, .undef, .undef, .undef, .undef, .undef, .undef, .undef, .undef, .undef, .undef, .undef, .undef, .undef], []⟩
theorem walk85 (fuel : Nat) (x1 : Int) :
    evalF (C56 fuel) fuel A85 [.v (.i .i64 x1)] =
    (bif (decide (x1 < 0)) then (some [.v (.i .i64 0)]) else (loopN (B85v1 (C56 fuel) fuel) N85v1 fuel (s85v2 x1) (kBlk 0 (kSeq (C56 fuel) fuel (4 :: 5 :: (rl 8 15 [])) A85v4 (finish A85))))) := by kernel_rfl
theorem t85v1 (fuel : Nat) {ρ : Type} (k : Ex → St → Option ρ) (x1 : Int) :
    loopN (B85v1 (C56 fuel) fuel) N85v1 fuel (s85v2 x1) k =
    L85v1 fuel x1 fuel 0 0 (fun x6 => k (.exit 0) (s85v1 x6)) :=
  (loopN_at (st' := (s85v0 x1 0 0)) (by kernel_rfl)).trans (q85v1 fuel x1 k fuel 0 0)
theorem g85v2 (fuel : Nat) (x7 : Int) :
    (kBlk 0 (kSeq (C56 fuel) fuel (4 :: 5 :: (rl 8 15 [])) A85v4 (finish A85))) (.exit 0) (s85v1 x7) =
    (some [.v (.i .i64 x7)]) := by kernel_rfl
theorem e85 (fuel : Nat) (x1 : Int) : evalF (C56 fuel) fuel A85 [.v (.i .i64 x1)] = ob (F85 fuel x1) fun t => some [.v (.i .i64 t)] := by
  rw [walk85, ← f85]
  simp only [D85, t85v1, g85v2]
def O85 (fuel : Nat) : Ora where
  o := fun args {ρ} K =>
    wc args fun a1 l2 =>
    wv a1 fun c3 =>
    wI .i64 c3 fun y4 =>
    wn l2 <|
    (ob (F85 fuel y4) fun t => K [.v (.i .i64 t)])
  nat := fun args {ρ} K => by
    simp only [bind_wc, bind_wn, bind_wv, bind_wagg, bind_wI, bind_wB, bind_wS, bind_wL, bind_wP, bind_wFn, bind_ob, Option.bind_some]
theorem d85 {P : Program} (fuel : Nat) (hmix : P.follows .mixedOrders = true) (hC : Sound P (C56 fuel)) (hF : FFits P 85 A85) (args res : List A) (h : (O85 fuel).o args some = some res) : Den P 85 args res := by
  obtain ⟨a1, l2, rfl, z0⟩ := inv_wc h
  obtain ⟨c3, rfl, z1⟩ := inv_wv z0
  obtain ⟨y4, h5, z2⟩ := inv_wI z1
  obtain ⟨hn, z3⟩ := inv_wn z2
  cases hn
  exact Den.weaken (.cons (WkA.v (Wk.i h5)) .nil) (evalF_sound hmix hC hF ((e85 fuel y4).trans z3))
def C57 (fuel : Nat) : Oracle := (C56 fuel).add 85 (fun _ => true) (O85 fuel)
def A77v1 : AC := (.seq (.region 4 [mv 13 3, o1 2 (.assign (tm 13))] 0 none) []
  (.ret (0 :: 1 :: (rl 3 11 []))))
def A77 : AF := ⟨14, [.tmp 2],
  (.seq (.region 0 [o1 2 (.assign (ic 0))] 0 none) []
  (.seq (.region 1 [mv 4 0, o1 5 (.call 85 [(tm 4)] [3] .snap), o1 3 (.assign (tm 5))] 0 none) []
  (.seq (.seq (.region 2 [mv 6 3, mv 7 3, o1 8 (.binOp .mul 3 (tm 6) (tm 7) 3), mv 9 0, o1 10 (.binOp .lss 3 (tm 8) (tm 9) 3)] 0 none) []
  (.cond (tm 10)
  (.region 3 [mv 11 3, o1 12 (.binOp .add 3 (tm 11) (ic 1) 3), o1 3 (.assign (tm 12))] 0 none)
  .skip)) (rl 6 7 [])
  A77v1)))⟩
def D77 {ρ : Type} (fuel : Nat) (x1 : Int) (k : Int → Option ρ) : Option ρ :=
  (ob (F85 fuel x1) fun x2 => (bif (decide ((w64 (x2 * x2)) < x1)) then (k (w64 (x2 + 1))) else (k x2)))
def F77 (fuel : Nat) (x1 : Int) : Option (Int) := D77 fuel x1 some
theorem n77 {ρ σ : Type} (fuel : Nat) (x1 : Int) (k : (Int) → Option ρ) (g : ρ → Option σ) : ob (D77 fuel x1 k) g = D77 fuel x1 fun t => ob (k t) g := by
  simp only [D77, ob_bif, ob_ob, ob_none]
theorem f77 {ρ : Type} (fuel : Nat) (x1 : Int) (k : (Int) → Option ρ) : D77 fuel x1 k = ob (F77 fuel x1) k := by
  unfold F77
  rw [n77]
  simp only [ob_some]
theorem walk77 (fuel : Nat) (x1 : Int) :
    evalF (C57 fuel) fuel A77 [.v (.i .i64 x1)] =
    (ob (F85 fuel x1) fun x2 => (bif (decide ((w64 (x2 * x2)) < x1)) then (some [.v (.i .i64 (w64 (x2 + 1)))]) else (some [.v (.i .i64 x2)]))) := by kernel_rfl
theorem e77 (fuel : Nat) (x1 : Int) : evalF (C57 fuel) fuel A77 [.v (.i .i64 x1)] = ob (F77 fuel x1) fun t => some [.v (.i .i64 t)] := by
  rw [walk77, ← f77]
  simp only [D77]
def O77 (fuel : Nat) : Ora where
  o := fun args {ρ} K =>
    wc args fun a1 l2 =>
    wv a1 fun c3 =>
    wI .i64 c3 fun y4 =>
    wn l2 <|
    (ob (F77 fuel y4) fun t => K [.v (.i .i64 t)])
  nat := fun args {ρ} K => by
    simp only [bind_wc, bind_wn, bind_wv, bind_wagg, bind_wI, bind_wB, bind_wS, bind_wL, bind_wP, bind_wFn, bind_ob, Option.bind_some]
theorem d77 {P : Program} (fuel : Nat) (hmix : P.follows .mixedOrders = true) (hC : Sound P (C57 fuel)) (hF : FFits P 77 A77) (args res : List A) (h : (O77 fuel).o args some = some res) : Den P 77 args res := by
  obtain ⟨a1, l2, rfl, z0⟩ := inv_wc h
  obtain ⟨c3, rfl, z1⟩ := inv_wv z0
  obtain ⟨y4, h5, z2⟩ := inv_wI z1
  obtain ⟨hn, z3⟩ := inv_wn z2
  cases hn
  exact Den.weaken (.cons (WkA.v (Wk.i h5)) .nil) (evalF_sound hmix hC hF ((e77 fuel y4).trans z3))
def C58 (fuel : Nat) : Oracle := (C57 fuel).add 77 (fun _ => true) (O77 fuel)
def A57v1 : AC := (.seq (.region 10 [o1 81 (.fieldAddr 34 (tm 4) 0 0), o1 82 (.load 3 none (tm 81)), o1 83 (.fieldAddr 34 (tm 13) 0 0), o1 84 (.load 3 none (tm 83)), o1 85 (.binOp .sub 3 (tm 82) (tm 84) 3), o1 86 (.fieldAddr 34 (tm 4) 1 1), o1 87 (.load 3 none (tm 86)), o1 88 (.fieldAddr 34 (tm 13) 1 1), o1 89 (.load 3 none (tm 88)), o1 90 (.binOp .sub 3 (tm 87) (tm 89) 3), o1 14 (.assign (tm 85)), o1 15 (.assign (tm 90))] 0 (some [[], [0], [], [2], (rl 0 4 []), [], [5], [], [7], (rl 5 4 []), (rl 0 5 []), (rl 0 11 [])])) []
  (.seq (.region 11 [mv 91 14, mv 92 14, o1 93 (.binOp .mul 3 (tm 91) (tm 92) 3), mv 94 15, mv 95 15, o1 96 (.binOp .mul 3 (tm 94) (tm 95) 3), o1 97 (.binOp .add 3 (tm 93) (tm 96) 3), mv 98 3, mv 99 3, o1 100 (.binOp .mul 3 (tm 98) (tm 99) 3), o1 101 (.binOp .lss 3 (tm 97) (tm 100) 3), o1 8 (.assign (tm 101))] 0 none) []
  (.ret (rl 0 8 (rl 9 93 [])))))
def A57v2 : AC := (.seq (.region 7 [o1 77 (.load 34 (some 2) (tm 5)), o1 13 (.alloc 0 34 [.c (.i .i64 0), .c (.i .i64 0)]), o0 (.store 34 2 (tm 13) (tm 77))] 1 none) []
  (.seq (.seq (.region 8 [mv 78 11, o1 79 (.binOp .gtr 3 (tm 78) (ic 0) 3)] 0 none) []
  (.cond (tm 79)
  (.region 9 [o1 80 (.load 34 (some 2) (tm 6)), o0 (.store 34 2 (tm 13) (tm 80))] 0 none)
  .skip)) [78, 79, 80]
  A57v1))
def A57 : AF := ⟨102, [.tmp 8],
  (.seq (.region 0 [o1 4 (.box 0 34 (tm 0)), o1 5 (.box 1 34 (tm 1)), o1 6 (.box 2 34 (tm 2)), o1 8 (.assign (.const (.bool false)))] 3 none) []
  (.seq (.region 1 [o1 16 (.fieldAddr 34 (tm 6) 0 0), o1 17 (.load 3 none (tm 16)), o1 18 (.fieldAddr 34 (tm 5) 0 0), o1 19 (.load 3 none (tm 18)), o1 20 (.binOp .sub 3 (tm 17) (tm 19) 3), o1 21 (.fieldAddr 34 (tm 6) 1 1), o1 22 (.load 3 none (tm 21)), o1 23 (.fieldAddr 34 (tm 5) 1 1), o1 24 (.load 3 none (tm 23)), o1 25 (.binOp .sub 3 (tm 22) (tm 24) 3), o1 26 (.build 34 [.c (.i .i64 0), .c (.i .i64 0)] [(0, 1), (1, 1)] 0 [(0, (tm 20)), (1, (tm 25))]), o1 9 (.alloc 0 34 [.c (.i .i64 0), .c (.i .i64 0)]), o0 (.store 34 2 (tm 9) (tm 26))] 1 none) []
  (.seq (.region 2 [o1 27 (.fieldAddr 34 (tm 9) 0 0), o1 28 (.load 3 none (tm 27)), o1 29 (.fieldAddr 34 (tm 9) 0 0), o1 30 (.load 3 none (tm 29)), o1 31 (.binOp .mul 3 (tm 28) (tm 30) 3), o1 32 (.fieldAddr 34 (tm 9) 1 1), o1 33 (.load 3 none (tm 32)), o1 34 (.fieldAddr 34 (tm 9) 1 1), o1 35 (.load 3 none (tm 34)), o1 36 (.binOp .mul 3 (tm 33) (tm 35) 3), o1 37 (.binOp .add 3 (tm 31) (tm 36) 3), o1 10 (.assign (tm 37))] 0 none) []
  (.seq (.region 3 [o1 38 (.fieldAddr 34 (tm 4) 0 0), o1 39 (.load 3 none (tm 38)), o1 40 (.fieldAddr 34 (tm 5) 0 0), o1 41 (.load 3 none (tm 40)), o1 42 (.binOp .sub 3 (tm 39) (tm 41) 3), o1 43 (.fieldAddr 34 (tm 9) 0 0), o1 44 (.load 3 none (tm 43)), o1 45 (.binOp .mul 3 (tm 42) (tm 44) 3), o1 46 (.fieldAddr 34 (tm 4) 1 1), o1 47 (.load 3 none (tm 46)), o1 48 (.fieldAddr 34 (tm 5) 1 1), o1 49 (.load 3 none (tm 48)), o1 50 (.binOp .sub 3 (tm 47) (tm 49) 3), o1 51 (.fieldAddr 34 (tm 9) 1 1), o1 52 (.load 3 none (tm 51)), o1 53 (.binOp .mul 3 (tm 50) (tm 52) 3), o1 54 (.binOp .add 3 (tm 45) (tm 53) 3), o1 11 (.assign (tm 54))] 0 none) []
  (.seq (.seq (.region 4 [mv 55 11, o1 56 (.binOp .gtr 3 (tm 55) (ic 0) 3), mv 57 56, og 58 (.move (tm 11)) 57 true, og 59 (.move (tm 10)) 57 true, og 60 (.binOp .lss 3 (tm 58) (tm 59) 3) 57 true, o1 61 (.pick (tm 57) (tm 60) (.const (.bool false)))] 0 none) []
  (.cond (tm 61)
  (.seq (.region 5 [o1 62 (.load 34 (some 2) (tm 5)), o1 63 (.load 34 (some 2) (tm 6)), o1 64 (.load 34 (some 2) (tm 4)), o1 65 (.call 75 [(tm 62), (tm 63), (tm 64)] [34, 34, 34] .snap), o1 12 (.assign (tm 65))] 0 none) []
    (.seq (.region 6 [mv 66 12, mv 67 12, o1 68 (.unOp .neg 3 (tm 67)), o1 69 (.mm true [(tm 66), (tm 68)] [3, 3]), mv 70 3, mv 71 3, o1 72 (.binOp .mul 3 (tm 70) (tm 71) 3), mv 73 10, o1 74 (.binOp .mul 3 (tm 72) (tm 73) 3), o1 75 (.call 77 [(tm 74)] [3] .snap), o1 76 (.binOp .lss 3 (tm 69) (tm 75) 3), o1 8 (.assign (tm 76))] 0 none) []
    (.ret (rl 0 8 (rl 9 93 [])))))
  .skip)) (8 :: 12 :: (rl 55 22 []))
  A57v2)))))⟩
def D57 {ρ : Type} (fuel : Nat) (x1 : Int) (x2 : Int) (x3 : Int) (x4 : Int) (x5 : Int) (x6 : Int) (x7 : Int) (k : Bool → Option ρ) : Option ρ :=
  (bif ((decide ((w64 ((w64 ((w64 (x1 - x3)) * (w64 (x5 - x3)))) + (w64 ((w64 (x2 - x4)) * (w64 (x6 - x4)))))) > 0)) == true) then (bif (decide ((w64 ((w64 ((w64 (x1 - x3)) * (w64 (x5 - x3)))) + (w64 ((w64 (x2 - x4)) * (w64 (x6 - x4)))))) < (w64 ((w64 ((w64 (x5 - x3)) * (w64 (x5 - x3)))) + (w64 ((w64 (x6 - x4)) * (w64 (x6 - x4)))))))) then (ob (F75 fuel x3 x4 x5 x6 x1 x2) fun x8 => (ob (F77 fuel (w64 ((w64 (x7 * x7)) * (w64 ((w64 ((w64 (x5 - x3)) * (w64 (x5 - x3)))) + (w64 ((w64 (x6 - x4)) * (w64 (x6 - x4))))))))) fun x9 => (k (decide ((if (w64 (0 - x8)) > x8 then (w64 (0 - x8)) else x8) < x9))))) else (bif (decide ((w64 ((w64 ((w64 (x1 - x3)) * (w64 (x5 - x3)))) + (w64 ((w64 (x2 - x4)) * (w64 (x6 - x4)))))) > 0)) then (k (decide ((w64 ((w64 ((w64 (x1 - x5)) * (w64 (x1 - x5)))) + (w64 ((w64 (x2 - x6)) * (w64 (x2 - x6)))))) < (w64 (x7 * x7))))) else (k (decide ((w64 ((w64 ((w64 (x1 - x3)) * (w64 (x1 - x3)))) + (w64 ((w64 (x2 - x4)) * (w64 (x2 - x4)))))) < (w64 (x7 * x7))))))) else (bif (decide ((w64 ((w64 ((w64 (x1 - x3)) * (w64 (x5 - x3)))) + (w64 ((w64 (x2 - x4)) * (w64 (x6 - x4)))))) > 0)) then (k (decide ((w64 ((w64 ((w64 (x1 - x5)) * (w64 (x1 - x5)))) + (w64 ((w64 (x2 - x6)) * (w64 (x2 - x6)))))) < (w64 (x7 * x7))))) else (k (decide ((w64 ((w64 ((w64 (x1 - x3)) * (w64 (x1 - x3)))) + (w64 ((w64 (x2 - x4)) * (w64 (x2 - x4)))))) < (w64 (x7 * x7)))))))
def F57 (fuel : Nat) (x1 : Int) (x2 : Int) (x3 : Int) (x4 : Int) (x5 : Int) (x6 : Int) (x7 : Int) : Option (Bool) := D57 fuel x1 x2 x3 x4 x5 x6 x7 some
theorem n57 {ρ σ : Type} (fuel : Nat) (x1 : Int) (x2 : Int) (x3 : Int) (x4 : Int) (x5 : Int) (x6 : Int) (x7 : Int) (k : (Bool) → Option ρ) (g : ρ → Option σ) : ob (D57 fuel x1 x2 x3 x4 x5 x6 x7 k) g = D57 fuel x1 x2 x3 x4 x5 x6 x7 fun t => ob (k t) g := by
  simp only [D57, ob_bif, ob_ob, ob_none]
theorem f57 {ρ : Type} (fuel : Nat) (x1 : Int) (x2 : Int) (x3 : Int) (x4 : Int) (x5 : Int) (x6 : Int) (x7 : Int) (k : (Bool) → Option ρ) : D57 fuel x1 x2 x3 x4 x5 x6 x7 k = ob (F57 fuel x1 x2 x3 x4 x5 x6 x7) k := by
  unfold F57
  rw [n57]
  simp only [ob_some]
theorem walk57 (fuel : Nat) (x1 : Int) (x2 : Int) (x3 : Int) (x4 : Int) (x5 : Int) (x6 : Int) (x7 : Int) :
    evalF (C58 fuel) fuel A57 [.agg [(.i .i64 x1), (.i .i64 x2)], .agg [(.i .i64 x3), (.i .i64 x4)], .agg [(.i .i64 x5), (.i .i64 x6)], .v (.i .i64 x7)] =
    (bif ((decide ((w64 ((w64 ((w64 (x1 - x3)) * (w64 (x5 - x3)))) + (w64 ((w64 (x2 - x4)) * (w64 (x6 - x4)))))) > 0)) == true) then (bif (decide ((w64 ((w64 ((w64 (x1 - x3)) * (w64 (x5 - x3)))) + (w64 ((w64 (x2 - x4)) * (w64 (x6 - x4)))))) < (w64 ((w64 ((w64 (x5 - x3)) * (w64 (x5 - x3)))) + (w64 ((w64 (x6 - x4)) * (w64 (x6 - x4)))))))) then (ob (F75 fuel x3 x4 x5 x6 x1 x2) fun x8 => (ob (F77 fuel (w64 ((w64 (x7 * x7)) * (w64 ((w64 ((w64 (x5 - x3)) * (w64 (x5 - x3)))) + (w64 ((w64 (x6 - x4)) * (w64 (x6 - x4))))))))) fun x9 => (some [.v (.b (decide ((if (w64 (0 - x8)) > x8 then (w64 (0 - x8)) else x8) < x9)))]))) else (bif (decide ((w64 ((w64 ((w64 (x1 - x3)) * (w64 (x5 - x3)))) + (w64 ((w64 (x2 - x4)) * (w64 (x6 - x4)))))) > 0)) then (some [.v (.b (decide ((w64 ((w64 ((w64 (x1 - x5)) * (w64 (x1 - x5)))) + (w64 ((w64 (x2 - x6)) * (w64 (x2 - x6)))))) < (w64 (x7 * x7)))))]) else (some [.v (.b (decide ((w64 ((w64 ((w64 (x1 - x3)) * (w64 (x1 - x3)))) + (w64 ((w64 (x2 - x4)) * (w64 (x2 - x4)))))) < (w64 (x7 * x7)))))]))) else (bif (decide ((w64 ((w64 ((w64 (x1 - x3)) * (w64 (x5 - x3)))) + (w64 ((w64 (x2 - x4)) * (w64 (x6 - x4)))))) > 0)) then (some [.v (.b (decide ((w64 ((w64 ((w64 (x1 - x5)) * (w64 (x1 - x5)))) + (w64 ((w64 (x2 - x6)) * (w64 (x2 - x6)))))) < (w64 (x7 * x7)))))]) else (some [.v (.b (decide ((w64 ((w64 ((w64 (x1 - x3)) * (w64 (x1 - x3)))) + (w64 ((w64 (x2 - x4)) * (w64 (x2 - x4)))))) < (w64 (x7 * x7)))))]))) := by kernel_rfl
theorem e57 (fuel : Nat) (x1 : Int) (x2 : Int) (x3 : Int) (x4 : Int) (x5 : Int) (x6 : Int) (x7 : Int) : evalF (C58 fuel) fuel A57 [.agg [(.i .i64 x1), (.i .i64 x2)], .agg [(.i .i64 x3), (.i .i64 x4)], .agg [(.i .i64 x5), (.i .i64 x6)], .v (.i .i64 x7)] = ob (F57 fuel x1 x2 x3 x4 x5 x6 x7) fun t => some [.v (.b t)] := by
  rw [walk57, ← f57]
  simp only [D57]
def O57 (fuel : Nat) : Ora where
  o := fun args {ρ} K =>
    wc args fun a1 l2 =>
    wagg a1 fun l3 =>
    wc l3 fun c4 l5 =>
    wI .i64 c4 fun y6 =>
    wc l5 fun c8 l9 =>
    wI .i64 c8 fun y10 =>
    wn l9 <|
    wc l2 fun a12 l13 =>
    wagg a12 fun l14 =>
    wc l14 fun c15 l16 =>
    wI .i64 c15 fun y17 =>
    wc l16 fun c19 l20 =>
    wI .i64 c19 fun y21 =>
    wn l20 <|
    wc l13 fun a23 l24 =>
    wagg a23 fun l25 =>
    wc l25 fun c26 l27 =>
    wI .i64 c26 fun y28 =>
    wc l27 fun c30 l31 =>
    wI .i64 c30 fun y32 =>
    wn l31 <|
    wc l24 fun a34 l35 =>
    wv a34 fun c36 =>
    wI .i64 c36 fun y37 =>
    wn l35 <|
    (ob (F57 fuel y6 y10 y17 y21 y28 y32 y37) fun t => K [.v (.b t)])
  nat := fun args {ρ} K => by
    simp only [bind_wc, bind_wn, bind_wv, bind_wagg, bind_wI, bind_wB, bind_wS, bind_wL, bind_wP, bind_wFn, bind_ob, Option.bind_some]
theorem d57 {P : Program} (fuel : Nat) (hmix : P.follows .mixedOrders = true) (hC : Sound P (C58 fuel)) (hF : FFits P 57 A57) (args res : List A) (h : (O57 fuel).o args some = some res) : Den P 57 args res := by
  obtain ⟨a1, l2, rfl, z0⟩ := inv_wc h
  obtain ⟨l3, rfl, z1⟩ := inv_wagg z0
  obtain ⟨c4, l5, rfl, z2⟩ := inv_wc z1
  obtain ⟨y6, h7, z3⟩ := inv_wI z2
  obtain ⟨c8, l9, rfl, z4⟩ := inv_wc z3
  obtain ⟨y10, h11, z5⟩ := inv_wI z4
  obtain ⟨hn, z6⟩ := inv_wn z5
  cases hn
  obtain ⟨a12, l13, rfl, z7⟩ := inv_wc z6
  obtain ⟨l14, rfl, z8⟩ := inv_wagg z7
  obtain ⟨c15, l16, rfl, z9⟩ := inv_wc z8
  obtain ⟨y17, h18, z10⟩ := inv_wI z9
  obtain ⟨c19, l20, rfl, z11⟩ := inv_wc z10
  obtain ⟨y21, h22, z12⟩ := inv_wI z11
  obtain ⟨hn, z13⟩ := inv_wn z12
  cases hn
  obtain ⟨a23, l24, rfl, z14⟩ := inv_wc z13
  obtain ⟨l25, rfl, z15⟩ := inv_wagg z14
  obtain ⟨c26, l27, rfl, z16⟩ := inv_wc z15
  obtain ⟨y28, h29, z17⟩ := inv_wI z16
  obtain ⟨c30, l31, rfl, z18⟩ := inv_wc z17
  obtain ⟨y32, h33, z19⟩ := inv_wI z18
  obtain ⟨hn, z20⟩ := inv_wn z19
  cases hn
  obtain ⟨a34, l35, rfl, z21⟩ := inv_wc z20
  obtain ⟨c36, rfl, z22⟩ := inv_wv z21
  obtain ⟨y37, h38, z23⟩ := inv_wI z22
  obtain ⟨hn, z24⟩ := inv_wn z23
  cases hn
  exact Den.weaken (.cons (WkA.agg (.cons (Wk.i h7) (.cons (Wk.i h11) .nil))) (.cons (WkA.agg (.cons (Wk.i h18) (.cons (Wk.i h22) .nil))) (.cons (WkA.agg (.cons (Wk.i h29) (.cons (Wk.i h33) .nil))) (.cons (WkA.v (Wk.i h38)) .nil)))) (evalF_sound hmix hC hF ((e57 fuel y6 y10 y17 y21 y28 y32 y37).trans z24))
def C59 (fuel : Nat) : Oracle := (C58 fuel).add 57 (fun _ => true) (O57 fuel)
def A55 : AF := ⟨43, [.tmp 9],
  (.seq (.region 0 [o1 5 (.box 0 34 (tm 0)), o1 6 (.box 1 34 (tm 1)), o1 7 (.box 2 34 (tm 2)), o1 8 (.box 3 34 (tm 3)), o1 9 (.assign (.const (.bool false)))] 4 none) []
  (.seq (.region 1 [o1 10 (.load 34 (some 2) (tm 5)), o1 11 (.load 34 (some 2) (tm 6)), o1 12 (.load 34 (some 2) (tm 7)), o1 13 (.load 34 (some 2) (tm 8)), o1 14 (.call 56 [(tm 10), (tm 11), (tm 12), (tm 13)] [34, 34, 34, 34] .snap), mv 15 14, og 16 (.load 34 (some 2) (tm 5)) 15 false, og 17 (.load 34 (some 2) (tm 7)) 15 false, og 18 (.load 34 (some 2) (tm 8)) 15 false, og 19 (.load 3 none (tm 4)) 15 false, og 20 (.call 57 [(tm 16), (tm 17), (tm 18), (tm 19)] [34, 34, 34, 3] .snap) 15 false, o1 21 (.pick (tm 15) (.const (.bool true)) (tm 20)), mv 22 21, og 23 (.load 34 (some 2) (tm 6)) 22 false, og 24 (.load 34 (some 2) (tm 7)) 22 false, og 25 (.load 34 (some 2) (tm 8)) 22 false, og 26 (.load 3 none (tm 4)) 22 false, og 27 (.call 57 [(tm 23), (tm 24), (tm 25), (tm 26)] [34, 34, 34, 3] .snap) 22 false, o1 28 (.pick (tm 22) (.const (.bool true)) (tm 27)), mv 29 28, og 30 (.load 34 (some 2) (tm 7)) 29 false, og 31 (.load 34 (some 2) (tm 5)) 29 false, og 32 (.load 34 (some 2) (tm 6)) 29 false, og 33 (.load 3 none (tm 4)) 29 false, og 34 (.call 57 [(tm 30), (tm 31), (tm 32), (tm 33)] [34, 34, 34, 3] .snap) 29 false, o1 35 (.pick (tm 29) (.const (.bool true)) (tm 34)), mv 36 35, og 37 (.load 34 (some 2) (tm 8)) 36 false, og 38 (.load 34 (some 2) (tm 5)) 36 false, og 39 (.load 34 (some 2) (tm 6)) 36 false, og 40 (.load 3 none (tm 4)) 36 false, og 41 (.call 57 [(tm 37), (tm 38), (tm 39), (tm 40)] [34, 34, 34, 3] .snap) 36 false, o1 42 (.pick (tm 36) (.const (.bool true)) (tm 41)), o1 9 (.assign (tm 42))] 0 none) []
  (.ret (rl 0 9 (rl 10 33 [])))))⟩
def D55 {ρ : Type} (fuel : Nat) (x1 : Int) (x2 : Int) (x3 : Int) (x4 : Int) (x5 : Int) (x6 : Int) (x7 : Int) (x8 : Int) (x9 : Nat → CV) (k : Bool → Option ρ) : Option ρ :=
  (ob (F56 fuel x1 x2 x3 x4 x5 x6 x7 x8) fun x10 => (bif (x10 == false) then (ob (F57 fuel x1 x2 x5 x6 x7 x8 (CV.int (x9 0))) fun x11 => (bif (x11 == false) then (ob (F57 fuel x3 x4 x5 x6 x7 x8 (CV.int (x9 0))) fun x12 => (bif (x12 == false) then (ob (F57 fuel x5 x6 x1 x2 x3 x4 (CV.int (x9 0))) fun x13 => (bif (x13 == false) then (ob (F57 fuel x7 x8 x1 x2 x3 x4 (CV.int (x9 0))) fun x14 => (k x14)) else (k true))) else (k true))) else (k true))) else (k true)))
def F55 (fuel : Nat) (x1 : Int) (x2 : Int) (x3 : Int) (x4 : Int) (x5 : Int) (x6 : Int) (x7 : Int) (x8 : Int) (x9 : Nat → CV) : Option (Bool) := D55 fuel x1 x2 x3 x4 x5 x6 x7 x8 x9 some
theorem n55 {ρ σ : Type} (fuel : Nat) (x1 : Int) (x2 : Int) (x3 : Int) (x4 : Int) (x5 : Int) (x6 : Int) (x7 : Int) (x8 : Int) (x9 : Nat → CV) (k : (Bool) → Option ρ) (g : ρ → Option σ) : ob (D55 fuel x1 x2 x3 x4 x5 x6 x7 x8 x9 k) g = D55 fuel x1 x2 x3 x4 x5 x6 x7 x8 x9 fun t => ob (k t) g := by
  simp only [D55, ob_bif, ob_ob, ob_none]
theorem f55 {ρ : Type} (fuel : Nat) (x1 : Int) (x2 : Int) (x3 : Int) (x4 : Int) (x5 : Int) (x6 : Int) (x7 : Int) (x8 : Int) (x9 : Nat → CV) (k : (Bool) → Option ρ) : D55 fuel x1 x2 x3 x4 x5 x6 x7 x8 x9 k = ob (F55 fuel x1 x2 x3 x4 x5 x6 x7 x8 x9) k := by
  unfold F55
  rw [n55]
  simp only [ob_some]
theorem walk55 (fuel : Nat) (x1 : Int) (x2 : Int) (x3 : Int) (x4 : Int) (x5 : Int) (x6 : Int) (x7 : Int) (x8 : Int) (x9 : Nat → CV) :
    evalF (C59 fuel) fuel A55 [.agg [(.i .i64 x1), (.i .i64 x2)], .agg [(.i .i64 x3), (.i .i64 x4)], .agg [(.i .i64 x5), (.i .i64 x6)], .agg [(.i .i64 x7), (.i .i64 x8)], .v (.rp (.pr (.int .i64) .nil) x9)] =
    (ob (F56 fuel x1 x2 x3 x4 x5 x6 x7 x8) fun x10 => (bif (x10 == false) then (ob (F57 fuel x1 x2 x5 x6 x7 x8 (CV.int (x9 0))) fun x11 => (bif (x11 == false) then (ob (F57 fuel x3 x4 x5 x6 x7 x8 (CV.int (x9 0))) fun x12 => (bif (x12 == false) then (ob (F57 fuel x5 x6 x1 x2 x3 x4 (CV.int (x9 0))) fun x13 => (bif (x13 == false) then (ob (F57 fuel x7 x8 x1 x2 x3 x4 (CV.int (x9 0))) fun x14 => (some [.v (.b x14)])) else (some [.v (.b true)]))) else (some [.v (.b true)]))) else (some [.v (.b true)]))) else (some [.v (.b true)]))) := by kernel_rfl
theorem e55 (fuel : Nat) (x1 : Int) (x2 : Int) (x3 : Int) (x4 : Int) (x5 : Int) (x6 : Int) (x7 : Int) (x8 : Int) (x9 : Nat → CV) : evalF (C59 fuel) fuel A55 [.agg [(.i .i64 x1), (.i .i64 x2)], .agg [(.i .i64 x3), (.i .i64 x4)], .agg [(.i .i64 x5), (.i .i64 x6)], .agg [(.i .i64 x7), (.i .i64 x8)], .v (.rp (.pr (.int .i64) .nil) x9)] = ob (F55 fuel x1 x2 x3 x4 x5 x6 x7 x8 x9) fun t => some [.v (.b t)] := by
  rw [walk55, ← f55]
  simp only [D55]
def O55 (fuel : Nat) : Ora where
  o := fun args {ρ} K =>
    wc args fun a1 l2 =>
    wagg a1 fun l3 =>
    wc l3 fun c4 l5 =>
    wI .i64 c4 fun y6 =>
    wc l5 fun c8 l9 =>
    wI .i64 c8 fun y10 =>
    wn l9 <|
    wc l2 fun a12 l13 =>
    wagg a12 fun l14 =>
    wc l14 fun c15 l16 =>
    wI .i64 c15 fun y17 =>
    wc l16 fun c19 l20 =>
    wI .i64 c19 fun y21 =>
    wn l20 <|
    wc l13 fun a23 l24 =>
    wagg a23 fun l25 =>
    wc l25 fun c26 l27 =>
    wI .i64 c26 fun y28 =>
    wc l27 fun c30 l31 =>
    wI .i64 c30 fun y32 =>
    wn l31 <|
    wc l24 fun a34 l35 =>
    wagg a34 fun l36 =>
    wc l36 fun c37 l38 =>
    wI .i64 c37 fun y39 =>
    wc l38 fun c41 l42 =>
    wI .i64 c41 fun y43 =>
    wn l42 <|
    wc l35 fun a45 l46 =>
    wv a45 fun c47 =>
    wP (.pr (.int .i64) .nil) c47 fun y48 =>
    wn l46 <|
    (ob (F55 fuel y6 y10 y17 y21 y28 y32 y39 y43 y48) fun t => K [.v (.b t)])
  nat := fun args {ρ} K => by
    simp only [bind_wc, bind_wn, bind_wv, bind_wagg, bind_wI, bind_wB, bind_wS, bind_wL, bind_wP, bind_wFn, bind_ob, Option.bind_some]
theorem d55 {P : Program} (fuel : Nat) (hmix : P.follows .mixedOrders = true) (hC : Sound P (C59 fuel)) (hF : FFits P 55 A55) (args res : List A) (h : (O55 fuel).o args some = some res) : Den P 55 args res := by
  obtain ⟨a1, l2, rfl, z0⟩ := inv_wc h
  obtain ⟨l3, rfl, z1⟩ := inv_wagg z0
  obtain ⟨c4, l5, rfl, z2⟩ := inv_wc z1
  obtain ⟨y6, h7, z3⟩ := inv_wI z2
  obtain ⟨c8, l9, rfl, z4⟩ := inv_wc z3
  obtain ⟨y10, h11, z5⟩ := inv_wI z4
  obtain ⟨hn, z6⟩ := inv_wn z5
  cases hn
  obtain ⟨a12, l13, rfl, z7⟩ := inv_wc z6
  obtain ⟨l14, rfl, z8⟩ := inv_wagg z7
  obtain ⟨c15, l16, rfl, z9⟩ := inv_wc z8
  obtain ⟨y17, h18, z10⟩ := inv_wI z9
  obtain ⟨c19, l20, rfl, z11⟩ := inv_wc z10
  obtain ⟨y21, h22, z12⟩ := inv_wI z11
  obtain ⟨hn, z13⟩ := inv_wn z12
  cases hn
  obtain ⟨a23, l24, rfl, z14⟩ := inv_wc z13
  obtain ⟨l25, rfl, z15⟩ := inv_wagg z14
  obtain ⟨c26, l27, rfl, z16⟩ := inv_wc z15
  obtain ⟨y28, h29, z17⟩ := inv_wI z16
  obtain ⟨c30, l31, rfl, z18⟩ := inv_wc z17
  obtain ⟨y32, h33, z19⟩ := inv_wI z18
  obtain ⟨hn, z20⟩ := inv_wn z19
  cases hn
  obtain ⟨a34, l35, rfl, z21⟩ := inv_wc z20
  obtain ⟨l36, rfl, z22⟩ := inv_wagg z21
  obtain ⟨c37, l38, rfl, z23⟩ := inv_wc z22
  obtain ⟨y39, h40, z24⟩ := inv_wI z23
  obtain ⟨c41, l42, rfl, z25⟩ := inv_wc z24
  obtain ⟨y43, h44, z26⟩ := inv_wI z25
  obtain ⟨hn, z27⟩ := inv_wn z26
  cases hn
  obtain ⟨a45, l46, rfl, z28⟩ := inv_wc z27
  obtain ⟨c47, rfl, z29⟩ := inv_wv z28
  obtain ⟨y48, h49, z30⟩ := inv_wP z29
  obtain ⟨hn, z31⟩ := inv_wn z30
  cases hn
  exact Den.weaken (.cons (WkA.agg (.cons (Wk.i h7) (.cons (Wk.i h11) .nil))) (.cons (WkA.agg (.cons (Wk.i h18) (.cons (Wk.i h22) .nil))) (.cons (WkA.agg (.cons (Wk.i h29) (.cons (Wk.i h33) .nil))) (.cons (WkA.agg (.cons (Wk.i h40) (.cons (Wk.i h44) .nil))) (.cons (WkA.v (wk_rp h49)) .nil))))) (evalF_sound hmix hC hF ((e55 fuel y6 y10 y17 y21 y28 y32 y39 y43 y48).trans z31))
def C60 (fuel : Nat) : Oracle := (C59 fuel).add 55 (fun _ => true) (O55 fuel)
def B58bv2 (C : Oracle) (fuel : Nat) {ρ : Type} : St → (Ex → St → Option ρ) → Option ρ := fun st k => evalC C fuel A58v3 st k
def N58bv2 : St → Option St := fun s => s.norm (rl 3 4 (9 :: 10 :: (rl 14 4 (rl 21 26 [])))) 1
def s58bv0 (x55 : Nat) (x56 : Nat → Nat → CV) (x57 : Nat) (x58 : Nat → Nat → CV) (x59 : Nat → CV) (x60 : Int) (x61 : Int) (x62 : Int) (x63 : Int) (x64 : Int) (x65 : Int) : St := ⟨(.x (.c (.ro false (.pr (.int .i64) (.pr (.int .i64) .nil)) x55 x56)) :: .x (.c (.ro false (.pr (.int .i64) (.pr (.int .i64) .nil)) x57 x58)) :: .x (.c (.fn 55 1 (listF [(.rp (.pr (.int .i64) .nil) x59)]))) :: (us 4 (.x (.c (.i .i64 x60)) :: .x (.ptr 0 0) :: .u :: .u :: .x (.c (.ro false (.pr (.int .i64) (.pr (.int .i64) .nil)) x55 x56)) :: .x (.c (.i .i64 x61)) :: .x (.c (.i .i64 x60)) :: (us 4 (.x (.c (.ro false (.pr (.int .i64) (.pr (.int .i64) .nil)) x57 x58)) :: .x (.c (.i .i64 x62)) :: .x (.c (.i .i64 x63)) :: (us 26 [])))))), [.box [(.c (.i .i64 x64)), (.c (.i .i64 x65))]]⟩
def s58bv1 (x64 : Int) (x65 : Int) (x67 : Int) (x68 : Int) : St := ⟨(us 6 (.x (.c (.b true)) :: (us 40 []))), [.box [(.c (.i .i64 x64)), (.c (.i .i64 x65))], .box [(.c (.i .i64 x67)), (.c (.i .i64 x68))]]⟩
def s58bv2 (x55 : Nat) (x56 : Nat → Nat → CV) (x57 : Nat) (x58 : Nat → Nat → CV) (x59 : Nat → CV) (x61 : Int) (x60 : Int) (x64 : Int) (x65 : Int) : St := ⟨(.x (.c (.ro false (.pr (.int .i64) (.pr (.int .i64) .nil)) x55 x56)) :: .x (.c (.ro false (.pr (.int .i64) (.pr (.int .i64) .nil)) x57 x58)) :: .x (.c (.fn 55 1 (listF [(.rp (.pr (.int .i64) .nil) x59)]))) :: (us 8 (.x (.c (.ro false (.pr (.int .i64) (.pr (.int .i64) .nil)) x55 x56)) :: .x (.c (.i .i64 x61)) :: .x (.c (.i .i64 x60)) :: (us 33 [])))), [.box [(.c (.i .i64 x64)), (.c (.i .i64 x65))]]⟩
def L58bv2 {ρ : Type} (fuel : Nat) (x55 : Nat) (x56 : Nat → Nat → CV) (x57 : Nat) (x58 : Nat → Nat → CV) (x59 : Nat → CV) (x60 : Int) (x61 : Int) (x62 : Int) (x64 : Int) (x65 : Int) : Nat → Int → (Int → Int → Option ρ) → (Option ρ) → Option ρ
  | 0, _, _, _ => none
  | m + 1, x63, k0, k1 =>
    (bif (decide (x63 < x62)) then (bif (inb x63 x57) then (bif ((Int.ofNat x55) == 0) then none else (bif (inb (Int.tmod (w64 (x60 + 1)) (Int.ofNat x55)) x55) then (bif ((Int.ofNat x57) == 0) then none else (bif (inb (Int.tmod (w64 (x63 + 1)) (Int.ofNat x57)) x57) then (ob (F55 fuel x64 x65 (CV.int (x56 (Int.toNat (Int.tmod (w64 (x60 + 1)) (Int.ofNat x55))) 0)) (CV.int (x56 (Int.toNat (Int.tmod (w64 (x60 + 1)) (Int.ofNat x55))) 1)) (CV.int (x58 (Int.toNat x63) 0)) (CV.int (x58 (Int.toNat x63) 1)) (CV.int (x58 (Int.toNat (Int.tmod (w64 (x63 + 1)) (Int.ofNat x57))) 0)) (CV.int (x58 (Int.toNat (Int.tmod (w64 (x63 + 1)) (Int.ofNat x57))) 1)) x59) fun x66 => (bif x66 then (k0 (CV.int (x58 (Int.toNat x63) 0)) (CV.int (x58 (Int.toNat x63) 1))) else (L58bv2 fuel x55 x56 x57 x58 x59 x60 x61 x62 x64 x65 m (w64 (x63 + 1)) k0 k1))) else none)) else none)) else none) else k1)
theorem nl58bv2 {ρ σ : Type} (fuel : Nat) (x55 : Nat) (x56 : Nat → Nat → CV) (x57 : Nat) (x58 : Nat → Nat → CV) (x59 : Nat → CV) (x60 : Int) (x61 : Int) (x62 : Int) (x64 : Int) (x65 : Int) (g : ρ → Option σ) : ∀ (m : Nat) (x63 : Int) (k0 : Int → Int → Option ρ) (k1 : Option ρ), ob (L58bv2 fuel x55 x56 x57 x58 x59 x60 x61 x62 x64 x65 m x63 k0 k1) g = L58bv2 fuel x55 x56 x57 x58 x59 x60 x61 x62 x64 x65 m x63 (fun x67 x68 => ob (k0 x67 x68) g) (ob k1 g)
  | 0, _, _, _ => rfl
  | m + 1, x63, k0, k1 => by
    simp only [L58bv2, ob_bif, ob_ob, ob_none, nl58bv2 fuel x55 x56 x57 x58 x59 x60 x61 x62 x64 x65 g m]
theorem r58bv2 (fuel : Nat) (m : Nat) {ρ : Type} (k : Ex → St → Option ρ) (x55 : Nat) (x56 : Nat → Nat → CV) (x57 : Nat) (x58 : Nat → Nat → CV) (x59 : Nat → CV) (x60 : Int) (x61 : Int) (x62 : Int) (x64 : Int) (x65 : Int) (x63 : Int) :
    loopH (B58bv2 (C60 fuel) fuel) N58bv2 (m + 1) (s58bv0 x55 x56 x57 x58 x59 x60 x61 x62 x63 x64 x65) k =
    (bif (decide (x63 < x62)) then (bif (inb x63 x57) then (bif ((Int.ofNat x55) == 0) then none else (bif (inb (Int.tmod (w64 (x60 + 1)) (Int.ofNat x55)) x55) then (bif ((Int.ofNat x57) == 0) then none else (bif (inb (Int.tmod (w64 (x63 + 1)) (Int.ofNat x57)) x57) then (ob (F55 fuel x64 x65 (CV.int (x56 (Int.toNat (Int.tmod (w64 (x60 + 1)) (Int.ofNat x55))) 0)) (CV.int (x56 (Int.toNat (Int.tmod (w64 (x60 + 1)) (Int.ofNat x55))) 1)) (CV.int (x58 (Int.toNat x63) 0)) (CV.int (x58 (Int.toNat x63) 1)) (CV.int (x58 (Int.toNat (Int.tmod (w64 (x63 + 1)) (Int.ofNat x57))) 0)) (CV.int (x58 (Int.toNat (Int.tmod (w64 (x63 + 1)) (Int.ofNat x57))) 1)) x59) fun x66 => (bif x66 then (k .ret (s58bv1 x64 x65 (CV.int (x58 (Int.toNat x63) 0)) (CV.int (x58 (Int.toNat x63) 1)))) else (loopH (B58bv2 (C60 fuel) fuel) N58bv2 m (s58bv0 x55 x56 x57 x58 x59 x60 x61 x62 (w64 (x63 + 1)) x64 x65) k))) else none)) else none)) else none) else (k (.exit 2) (s58bv2 x55 x56 x57 x58 x59 x61 x60 x64 x65))) := by kernel_rfl
theorem q58bv2 (fuel : Nat) (x55 : Nat) (x56 : Nat → Nat → CV) (x57 : Nat) (x58 : Nat → Nat → CV) (x59 : Nat → CV) (x60 : Int) (x61 : Int) (x62 : Int) (x64 : Int) (x65 : Int) {ρ : Type} (k : Ex → St → Option ρ) : ∀ (m : Nat) (x63 : Int),
    loopH (B58bv2 (C60 fuel) fuel) N58bv2 m (s58bv0 x55 x56 x57 x58 x59 x60 x61 x62 x63 x64 x65) k = L58bv2 fuel x55 x56 x57 x58 x59 x60 x61 x62 x64 x65 m x63 (fun x67 x68 => k .ret (s58bv1 x64 x65 x67 x68)) (k (.exit 2) (s58bv2 x55 x56 x57 x58 x59 x61 x60 x64 x65))
  | 0, _ => rfl
  | m + 1, x63 => by
    rw [r58bv2]
    simp only [L58bv2, q58bv2 fuel x55 x56 x57 x58 x59 x60 x61 x62 x64 x65 k m]
def B58bv3 (C : Oracle) (fuel : Nat) {ρ : Type} : St → (Ex → St → Option ρ) → Option ρ := fun st k => evalC C fuel A58v6 st k
def N58bv3 : St → Option St := fun s => s.norm (rl 3 8 (rl 14 33 [])) 0
def s58bv3 (x37 : Nat) (x38 : Nat → Nat → CV) (x39 : Nat) (x40 : Nat → Nat → CV) (x41 : Nat → CV) (x42 : Int) (x43 : Int) : St := ⟨(.x (.c (.ro false (.pr (.int .i64) (.pr (.int .i64) .nil)) x37 x38)) :: .x (.c (.ro false (.pr (.int .i64) (.pr (.int .i64) .nil)) x39 x40)) :: .x (.c (.fn 55 1 (listF [(.rp (.pr (.int .i64) .nil) x41)]))) :: (us 8 (.x (.c (.ro false (.pr (.int .i64) (.pr (.int .i64) .nil)) x37 x38)) :: .x (.c (.i .i64 x42)) :: .x (.c (.i .i64 x43)) :: (us 33 [])))), []⟩
def s58bv4 (x71 : Int) (x72 : Int) (x73 : Int) (x74 : Int) : St := ⟨(us 6 (.x (.c (.b true)) :: (us 40 []))), [.box [(.c (.i .i64 x71)), (.c (.i .i64 x72))], .box [(.c (.i .i64 x73)), (.c (.i .i64 x74))]]⟩
def s58bv5 : St := ⟨(us 47 []), []⟩
def L58bv3 {ρ : Type} (fuel : Nat) (x37 : Nat) (x38 : Nat → Nat → CV) (x39 : Nat) (x40 : Nat → Nat → CV) (x41 : Nat → CV) (x42 : Int) : Nat → Int → (Int → Int → Int → Int → Option ρ) → (Option ρ) → Option ρ
  | 0, _, _, _ => none
  | m + 1, x43, k0, k1 =>
    (bif (decide (x43 < x42)) then (bif (inb x43 x37) then (L58bv2 fuel x37 x38 x39 x40 x41 x43 x42 (Int.ofNat x39) (CV.int (x38 (Int.toNat x43) 0)) (CV.int (x38 (Int.toNat x43) 1)) fuel 0
    (fun x69 x70 => (k0 (CV.int (x38 (Int.toNat x43) 0)) (CV.int (x38 (Int.toNat x43) 1)) x69 x70))
    (L58bv3 fuel x37 x38 x39 x40 x41 x42 m (w64 (x43 + 1)) k0 k1)) else none) else k1)
theorem nl58bv3 {ρ σ : Type} (fuel : Nat) (x37 : Nat) (x38 : Nat → Nat → CV) (x39 : Nat) (x40 : Nat → Nat → CV) (x41 : Nat → CV) (x42 : Int) (g : ρ → Option σ) : ∀ (m : Nat) (x43 : Int) (k0 : Int → Int → Int → Int → Option ρ) (k1 : Option ρ), ob (L58bv3 fuel x37 x38 x39 x40 x41 x42 m x43 k0 k1) g = L58bv3 fuel x37 x38 x39 x40 x41 x42 m x43 (fun x71 x72 x73 x74 => ob (k0 x71 x72 x73 x74) g) (ob k1 g)
  | 0, _, _, _ => rfl
  | m + 1, x43, k0, k1 => by
    simp only [L58bv3, ob_bif, ob_ob, ob_none, nl58bv3 fuel x37 x38 x39 x40 x41 x42 g m, nl58bv2]
def s58bv6 (x37 : Nat) (x38 : Nat → Nat → CV) (x39 : Nat) (x40 : Nat → Nat → CV) (x41 : Nat → CV) (x43 : Int) (x42 : Int) : St := ⟨(.x (.c (.ro false (.pr (.int .i64) (.pr (.int .i64) .nil)) x37 x38)) :: .x (.c (.ro false (.pr (.int .i64) (.pr (.int .i64) .nil)) x39 x40)) :: .x (.c (.fn 55 1 (listF [(.rp (.pr (.int .i64) .nil) x41)]))) :: (us 4 (.x (.c (.i .i64 x43)) :: .x (.ptr 0 0) :: .u :: .u :: .x (.c (.ro false (.pr (.int .i64) (.pr (.int .i64) .nil)) x37 x38)) :: .x (.c (.i .i64 x42)) :: .x (.c (.i .i64 x43)) :: .x (.c (.b true)) :: .x (.c (.i .i64 x43)) :: .x (.c (.rp (.pr (.int .i64) (.pr (.int .i64) .nil)) (x38 (Int.toNat x43)))) :: .agg [(.c (.i .i64 (CV.int (x38 (Int.toNat x43) 0)))), (.c (.i .i64 (CV.int (x38 (Int.toNat x43) 1))))] :: .x (.c (.ro false (.pr (.int .i64) (.pr (.int .i64) .nil)) x39 x40)) :: .x (.c (.i .i64 (Int.ofNat x39))) :: .x (.c (.i .i64 0)) :: (us 26 [])))), [.box [(.c (.i .i64 (CV.int (x38 (Int.toNat x43) 0)))), (.c (.i .i64 (CV.int (x38 (Int.toNat x43) 1))))]]⟩
theorem r58bv3 (fuel : Nat) (m : Nat) {ρ : Type} (k : Ex → St → Option ρ) (x37 : Nat) (x38 : Nat → Nat → CV) (x39 : Nat) (x40 : Nat → Nat → CV) (x41 : Nat → CV) (x42 : Int) (x43 : Int) :
    loopH (B58bv3 (C60 fuel) fuel) N58bv3 (m + 1) (s58bv3 x37 x38 x39 x40 x41 x42 x43) k =
    (bif (decide (x43 < x42)) then (bif (inb x43 x37) then (loopN (B58bv2 (C60 fuel) fuel) N58bv2 fuel (s58bv6 x37 x38 x39 x40 x41 x43 x42) (kBlk 2 (kBlk 1 (kSeq (C60 fuel) fuel (rl 6 5 (rl 15 31 [])) A58v4 (kLoop (B58bv3 (C60 fuel) fuel) N58bv3 m k))))) else none) else (k (.exit 0) s58bv5)) := by kernel_rfl
theorem t58bv1 (fuel : Nat) {ρ : Type} (k : Ex → St → Option ρ) (x37 : Nat) (x38 : Nat → Nat → CV) (x39 : Nat) (x40 : Nat → Nat → CV) (x41 : Nat → CV) (x43 : Int) (x42 : Int) :
    loopN (B58bv2 (C60 fuel) fuel) N58bv2 fuel (s58bv6 x37 x38 x39 x40 x41 x43 x42) k =
    L58bv2 fuel x37 x38 x39 x40 x41 x43 x42 (Int.ofNat x39) (CV.int (x38 (Int.toNat x43) 0)) (CV.int (x38 (Int.toNat x43) 1)) fuel 0 (fun x67 x68 => k .ret (s58bv1 (CV.int (x38 (Int.toNat x43) 0)) (CV.int (x38 (Int.toNat x43) 1)) x67 x68)) (k (.exit 2) (s58bv2 x37 x38 x39 x40 x41 x42 x43 (CV.int (x38 (Int.toNat x43) 0)) (CV.int (x38 (Int.toNat x43) 1)))) :=
  (loopN_at (st' := (s58bv0 x37 x38 x39 x40 x41 x43 x42 (Int.ofNat x39) 0 (CV.int (x38 (Int.toNat x43) 0)) (CV.int (x38 (Int.toNat x43) 1)))) (by kernel_rfl)).trans (q58bv2 fuel x37 x38 x39 x40 x41 x43 x42 (Int.ofNat x39) (CV.int (x38 (Int.toNat x43) 0)) (CV.int (x38 (Int.toNat x43) 1)) k fuel 0)
theorem g58bv2 (fuel : Nat) (m : Nat) {ρ : Type} (k : Ex → St → Option ρ) (x38 : Nat → Nat → CV) (x43 : Int) (x69 : Int) (x70 : Int) :
    (kBlk 2 (kBlk 1 (kSeq (C60 fuel) fuel (rl 6 5 (rl 15 31 [])) A58v4 (kLoop (B58bv3 (C60 fuel) fuel) N58bv3 m k)))) .ret (s58bv1 (CV.int (x38 (Int.toNat x43) 0)) (CV.int (x38 (Int.toNat x43) 1)) x69 x70) =
    (k .ret (s58bv4 (CV.int (x38 (Int.toNat x43) 0)) (CV.int (x38 (Int.toNat x43) 1)) x69 x70)) := by kernel_rfl
theorem g58bv3 (fuel : Nat) (m : Nat) {ρ : Type} (k : Ex → St → Option ρ) (x37 : Nat) (x38 : Nat → Nat → CV) (x39 : Nat) (x40 : Nat → Nat → CV) (x41 : Nat → CV) (x42 : Int) (x43 : Int) :
    (kBlk 2 (kBlk 1 (kSeq (C60 fuel) fuel (rl 6 5 (rl 15 31 [])) A58v4 (kLoop (B58bv3 (C60 fuel) fuel) N58bv3 m k)))) (.exit 2) (s58bv2 x37 x38 x39 x40 x41 x42 x43 (CV.int (x38 (Int.toNat x43) 0)) (CV.int (x38 (Int.toNat x43) 1))) =
    (loopH (B58bv3 (C60 fuel) fuel) N58bv3 m (s58bv3 x37 x38 x39 x40 x41 x42 (w64 (x43 + 1))) k) := by kernel_rfl
theorem q58bv3 (fuel : Nat) (x37 : Nat) (x38 : Nat → Nat → CV) (x39 : Nat) (x40 : Nat → Nat → CV) (x41 : Nat → CV) (x42 : Int) {ρ : Type} (k : Ex → St → Option ρ) : ∀ (m : Nat) (x43 : Int),
    loopH (B58bv3 (C60 fuel) fuel) N58bv3 m (s58bv3 x37 x38 x39 x40 x41 x42 x43) k = L58bv3 fuel x37 x38 x39 x40 x41 x42 m x43 (fun x71 x72 x73 x74 => k .ret (s58bv4 x71 x72 x73 x74)) (k (.exit 0) s58bv5)
  | 0, _ => rfl
  | m + 1, x43 => by
    rw [r58bv3]
    simp only [L58bv3, q58bv3 fuel x37 x38 x39 x40 x41 x42 k m, t58bv1, g58bv2, g58bv3]
def D58b {ρ : Type} (fuel : Nat) (x1 : Nat) (x2 : Nat → Nat → CV) (x3 : Nat) (x4 : Nat → Nat → CV) (x5 : Nat → CV) (k : Bool → Option ρ) : Option ρ :=
  (L58bv3 fuel x1 x2 x3 x4 x5 (Int.ofNat x1) fuel 0
    (fun x75 x76 x77 x78 => (k true))
    (k false))
def F58b (fuel : Nat) (x1 : Nat) (x2 : Nat → Nat → CV) (x3 : Nat) (x4 : Nat → Nat → CV) (x5 : Nat → CV) : Option (Bool) := D58b fuel x1 x2 x3 x4 x5 some
theorem n58b {ρ σ : Type} (fuel : Nat) (x1 : Nat) (x2 : Nat → Nat → CV) (x3 : Nat) (x4 : Nat → Nat → CV) (x5 : Nat → CV) (k : (Bool) → Option ρ) (g : ρ → Option σ) : ob (D58b fuel x1 x2 x3 x4 x5 k) g = D58b fuel x1 x2 x3 x4 x5 fun t => ob (k t) g := by
  simp only [D58b, ob_bif, ob_ob, ob_none, nl58bv3]
theorem f58b {ρ : Type} (fuel : Nat) (x1 : Nat) (x2 : Nat → Nat → CV) (x3 : Nat) (x4 : Nat → Nat → CV) (x5 : Nat → CV) (k : (Bool) → Option ρ) : D58b fuel x1 x2 x3 x4 x5 k = ob (F58b fuel x1 x2 x3 x4 x5) k := by
  unfold F58b
  rw [n58b]
  simp only [ob_some]
def s58bv7 (x1 : Nat) (x2 : Nat → Nat → CV) (x3 : Nat) (x4 : Nat → Nat → CV) (x5 : Nat → CV) : St := ⟨[.x (.c (.ro false (.pr (.int .i64) (.pr (.int .i64) .nil)) x1 x2)), .x (.c (.ro false (.pr (.int .i64) (.pr (.int .i64) .nil)) x3 x4)), .x (.c (.fn 55 1 (listF [(.rp (.pr (.int .i64) .nil) x5)]))), .undef, .undef, .undef, .x (.c (.b false)), .undef, .undef, .undef, .undef, .x (.c (.ro false (.pr (.int .i64) (.pr (.int .i64) .nil)) x1 x2)), .x (.c (.i .i64 (Int.ofNat x1))), .x (.c (.i .i64 0)), .undef, .undef, .undef, .undef, .undef, .undef, .undef, .undef, .undef, .undef, .undef, .undef, .undef, .undef, .undef, .undef, .undef, .undef, .undef, .undef, .undef, .undef, .undef, .undef, .undef, .undef, .undef, .undef, .undef, .undef, .undef, .undef, .undef], []⟩
theorem walk58b (fuel : Nat) (x1 : Nat) (x2 : Nat → Nat → CV) (x3 : Nat) (x4 : Nat → Nat → CV) (x5 : Nat → CV) :
    evalF (C60 fuel) fuel A58 [.v (.ro false (.pr (.int .i64) (.pr (.int .i64) .nil)) x1 x2), .v (.ro false (.pr (.int .i64) (.pr (.int .i64) .nil)) x3 x4), .v (.fn 55 1 (listF [(.rp (.pr (.int .i64) .nil) x5)]))] =
    (loopN (B58bv3 (C60 fuel) fuel) N58bv3 fuel (s58bv7 x1 x2 x3 x4 x5) (kBlk 0 (kSeq (C60 fuel) fuel (rl 6 41 []) A58v7 (finish A58)))) := by kernel_rfl
theorem t58bv4 (fuel : Nat) {ρ : Type} (k : Ex → St → Option ρ) (x1 : Nat) (x2 : Nat → Nat → CV) (x3 : Nat) (x4 : Nat → Nat → CV) (x5 : Nat → CV) :
    loopN (B58bv3 (C60 fuel) fuel) N58bv3 fuel (s58bv7 x1 x2 x3 x4 x5) k =
    L58bv3 fuel x1 x2 x3 x4 x5 (Int.ofNat x1) fuel 0 (fun x71 x72 x73 x74 => k .ret (s58bv4 x71 x72 x73 x74)) (k (.exit 0) s58bv5) :=
  (loopN_at (st' := (s58bv3 x1 x2 x3 x4 x5 (Int.ofNat x1) 0)) (by kernel_rfl)).trans (q58bv3 fuel x1 x2 x3 x4 x5 (Int.ofNat x1) k fuel 0)
theorem g58bv5 (fuel : Nat) (x75 : Int) (x76 : Int) (x77 : Int) (x78 : Int) :
    (kBlk 0 (kSeq (C60 fuel) fuel (rl 6 41 []) A58v7 (finish A58))) .ret (s58bv4 x75 x76 x77 x78) =
    (some [.v (.b true)]) := by kernel_rfl
theorem g58bv6 (fuel : Nat) :
    (kBlk 0 (kSeq (C60 fuel) fuel (rl 6 41 []) A58v7 (finish A58))) (.exit 0) s58bv5 =
    (some [.v (.b false)]) := by kernel_rfl
theorem e58b (fuel : Nat) (x1 : Nat) (x2 : Nat → Nat → CV) (x3 : Nat) (x4 : Nat → Nat → CV) (x5 : Nat → CV) : evalF (C60 fuel) fuel A58 [.v (.ro false (.pr (.int .i64) (.pr (.int .i64) .nil)) x1 x2), .v (.ro false (.pr (.int .i64) (.pr (.int .i64) .nil)) x3 x4), .v (.fn 55 1 (listF [(.rp (.pr (.int .i64) .nil) x5)]))] = ob (F58b fuel x1 x2 x3 x4 x5) fun t => some [.v (.b t)] := by
  rw [walk58b, ← f58b]
  simp only [D58b, t58bv4, g58bv5, g58bv6]
def O58b (fuel : Nat) : Ora where
  o := fun args {ρ} K =>
    wc args fun a1 l2 =>
    wv a1 fun c3 =>
    wL (.pr (.int .i64) (.pr (.int .i64) .nil)) c3 fun y4 y5 =>
    wc l2 fun a7 l8 =>
    wv a7 fun c9 =>
    wL (.pr (.int .i64) (.pr (.int .i64) .nil)) c9 fun y10 y11 =>
    wc l8 fun a13 l14 =>
    wv a13 fun c15 =>
    wFn 55 1 c15 fun y16 =>
    wP (.pr (.int .i64) .nil) (y16 0) fun y18 =>
    wn l14 <|
    (ob (F58b fuel y4 y5 y10 y11 y18) fun t => K [.v (.b t)])
  nat := fun args {ρ} K => by
    simp only [bind_wc, bind_wn, bind_wv, bind_wagg, bind_wI, bind_wB, bind_wS, bind_wL, bind_wP, bind_wFn, bind_ob, Option.bind_some]
theorem d58b {P : Program} (fuel : Nat) (hmix : P.follows .mixedOrders = true) (hC : Sound P (C60 fuel)) (hF : FFits P 58 A58) (args res : List A) (h : (O58b fuel).o args some = some res) : Den P 58 args res := by
  obtain ⟨a1, l2, rfl, z0⟩ := inv_wc h
  obtain ⟨c3, rfl, z1⟩ := inv_wv z0
  obtain ⟨y4, y5, h6, z2⟩ := inv_wL z1
  obtain ⟨a7, l8, rfl, z3⟩ := inv_wc z2
  obtain ⟨c9, rfl, z4⟩ := inv_wv z3
  obtain ⟨y10, y11, h12, z5⟩ := inv_wL z4
  obtain ⟨a13, l14, rfl, z6⟩ := inv_wc z5
  obtain ⟨c15, rfl, z7⟩ := inv_wv z6
  obtain ⟨y16, h17, z8⟩ := inv_wFn z7
  obtain ⟨y18, h19, z9⟩ := inv_wP z8
  obtain ⟨hn, z10⟩ := inv_wn z9
  cases hn
  exact Den.weaken (.cons (WkA.v h6) (.cons (WkA.v h12) (.cons (WkA.v (wk_fn1 h17 (wk_rp h19))) .nil))) (evalF_sound hmix hC hF ((e58b fuel y4 y5 y10 y11 y18).trans z10))
def C61 (fuel : Nat) : Oracle := (C60 fuel).add 58 (fun l => isFn 55 l 2) (O58b fuel)
def A27v1 : AC := (.region 14 [o1 63 (.binOp .add 3 (tm 55) (ic 1) 3), mv 55 63] 0 none)
def A27v2 : AC := (.seq (.block 3
  (.seq (.region 11 [o1 57 (.indexAddr 23 22 1 (tm 53) (tm 55)), o1 58 (.load 22 none (tm 57)), o1 11 (.assign (tm 58))] 0 none) []
    (.seq (.region 12 [mv 59 9, mv 60 11, mv 61 7, o1 62 (.call 58 [(tm 59), (tm 60), (tm 61)] [22, 22, 67] .snap)] 0 none) []
    (.cond (tm 62)
    (.seq (.region 13 [o1 6 (.assign (.const (.bool false)))] 0 none) []
      (.ret (rl 0 6 (rl 7 58 []))))
    .skip)))) (6 :: 11 :: (rl 57 6 []))
  A27v1)
def A27v3 : AC := (.seq (.region 10 [o1 56 (.binOp .lss 3 (tm 55) (tm 54) 3)] 0 none) []
  (.seq (.cond (tm 56)
  .skip
  (.exit 2 (rl 0 4 (5 :: 6 :: (rl 8 38 (rl 49 16 [])))))) []
  A27v2))
def A27v4 : AC := (.region 15 [o1 64 (.binOp .add 3 (tm 48) (ic 1) 3), mv 48 64] 0 none)
def A27v5 : AC := (.seq (.block 1
  (.seq (.region 8 [o1 50 (.indexAddr 23 22 1 (tm 46) (tm 48)), o1 51 (.load 22 none (tm 50)), o1 9 (.assign (tm 51))] 0 none) []
    (.seq (.region 9 [o1 52 (.load 25 (some 2) (tm 4)), o1 53 (.call 42 [(tm 52)] [25] .freeze), o1 54 (.len 23 false (tm 53)), o1 55 (.move (ic 0))] 0 none) []
    (.block 2
    (.loop [] (rl 0 4 (5 :: 6 :: 8 :: (rl 10 36 (rl 49 4 (rl 56 9 [])))))
      A27v3))))) (6 :: 9 :: 11 :: (rl 50 14 []))
  A27v4)
def A27v6 : AC := (.seq (.region 7 [o1 49 (.binOp .lss 3 (tm 48) (tm 47) 3)] 0 none) []
  (.seq (.cond (tm 49)
  .skip
  (.exit 0 (rl 0 65 []))) []
  A27v5))
def A27v7 : AC := (.seq (.region 16 [o1 6 (.assign (.const (.bool true)))] 0 none) []
  (.ret (rl 0 6 (rl 7 58 []))))
def A27v8 : AC := (.seq (.region 5 [o1 44 (.mkfn 55 [(tm 5)]), o1 7 (.assign (tm 44))] 0 none) []
  (.seq (.seq (.region 6 [o1 45 (.load 25 (some 2) (tm 3)), o1 46 (.call 42 [(tm 45)] [25] .freeze), o1 47 (.len 23 false (tm 46)), o1 48 (.move (ic 0))] 0 none) []
  (.block 0
  (.loop [] (rl 0 4 (5 :: 6 :: (rl 8 38 (rl 49 16 []))))
    A27v6))) (6 :: 9 :: 11 :: (rl 45 20 []))
  A27v7))
def A27v9 : AC := (.seq (.seq (.region 3 [o1 28 (.load 25 (some 2) (tm 3)), o1 29 (.fieldAddr 25 (tm 4) 0 0), o1 30 (.load 22 none (tm 29)), o1 31 (.indexAddr 22 34 2 (tm 30) (ic 0)), o1 32 (.load 34 (some 2) (tm 31)), o1 33 (.call 47 [(tm 28), (tm 32)] [25, 34] .snap), o1 34 (.binOp .geq 3 (tm 33) (ic 0) 3), mv 35 34, og 36 (.load 25 (some 2) (tm 4)) 35 false, og 37 (.fieldAddr 25 (tm 3) 0 0) 35 false, og 38 (.load 22 none (tm 37)) 35 false, og 39 (.indexAddr 22 34 2 (tm 38) (ic 0)) 35 false, og 40 (.load 34 (some 2) (tm 39)) 35 false, og 41 (.call 47 [(tm 36), (tm 40)] [25, 34] .snap) 35 false, og 42 (.binOp .geq 3 (tm 41) (ic 0) 3) 35 false, o1 43 (.pick (tm 35) (.const (.bool true)) (tm 42))] 0 (some [[], [], [1], [1, 2], [1, 2, 3], (rl 0 5 []), (rl 0 6 []), (rl 0 7 []), (rl 0 8 []), (rl 0 8 []), (rl 0 8 [9]), (rl 0 8 [9, 10]), (rl 0 8 [9, 10, 11]), (rl 0 13 []), (rl 0 14 []), (rl 0 15 [])])) []
  (.cond (tm 43)
  (.seq (.region 4 [o1 6 (.assign (.const (.bool false)))] 0 none) []
    (.ret (rl 0 6 (rl 7 58 []))))
  .skip)) (6 :: (rl 28 16 []))
  A27v8)
def A27 : AF := ⟨65, [.tmp 6],
  (.seq (.region 0 [o1 3 (.box 0 25 (tm 0)), o1 4 (.box 1 25 (tm 1)), o1 5 (.box 2 3 (tm 2)), o1 6 (.assign (.const (.bool false)))] 3 none) []
  (.seq (.seq (.region 1 [o1 12 (.load 3 none (tm 5)), o1 13 (.binOp .lss 3 (tm 12) (ic 0) 3), mv 14 13, og 15 (.load 3 none (tm 5)) 14 false, og 16 (.binOp .gtr 3 (tm 15) (ic 1000) 3) 14 false, o1 17 (.pick (tm 14) (.const (.bool true)) (tm 16)), mv 18 17, og 19 (.load 25 (some 2) (tm 3)) 18 false, og 20 (.call 13 [(tm 19)] [25] .snap) 18 false, og 21 (.binOp .neq 27 (tm 20) (ic 0) 27) 18 false, o1 22 (.pick (tm 18) (.const (.bool true)) (tm 21)), mv 23 22, og 24 (.load 25 (some 2) (tm 4)) 23 false, og 25 (.call 13 [(tm 24)] [25] .snap) 23 false, og 26 (.binOp .neq 27 (tm 25) (ic 0) 27) 23 false, o1 27 (.pick (tm 23) (.const (.bool true)) (tm 26))] 0 none) []
  (.cond (tm 27)
  (.seq (.region 2 [o1 6 (.assign (.const (.bool false)))] 0 none) []
    (.ret (rl 0 6 (rl 7 58 []))))
  .skip)) (6 :: (rl 12 16 []))
  A27v9))⟩
def B27v2 (C : Oracle) (fuel : Nat) {ρ : Type} : St → (Ex → St → Option ρ) → Option ρ := fun st k => evalC C fuel A27v3 st k
def N27v2 : St → Option St := fun s => s.norm (rl 0 4 (5 :: 6 :: 8 :: (rl 10 36 (rl 49 4 (rl 56 9 []))))) 3
def s27v0 (x98 : Nat) (x99 : Nat → Nat → CV) (x100 : Nat) (x101 : Nat → Nat → CV) (x102 : Int) (x103 : Int) (x104 : Nat) (x105 : Nat → Nat → CV) (x106 : Int) (x107 : Int) (x108 : Nat) (x109 : Nat → Nat → CV) (x110 : Nat) (x111 : Nat → Nat → CV) (x112 : Nat) (x113 : Nat → Nat → CV) (x114 : Nat) (x115 : Nat → Nat → CV) (x116 : Int) : St := ⟨(us 4 (.x (.ptr 1 0) :: .u :: .u :: .x (.fn 55 [.ptr 2 0]) :: .u :: .x (.c (.ro false (.pr (.int .i64) (.pr (.int .i64) .nil)) x98 x99)) :: (us 36 (.x (.c (.ro false (.pr (.sl (.pr (.int .i64) (.pr (.int .i64) .nil))) .nil) x100 x101)) :: .x (.c (.i .i64 x102)) :: .x (.c (.i .i64 x103)) :: (us 4 (.x (.c (.ro false (.pr (.sl (.pr (.int .i64) (.pr (.int .i64) .nil))) .nil) x104 x105)) :: .x (.c (.i .i64 x106)) :: .x (.c (.i .i64 x107)) :: (us 9 []))))))), [.box [(.c (.ro false (.pr (.int .i64) (.pr (.int .i64) .nil)) x108 x109)), (.c (.ro false (.pr (.sl (.pr (.int .i64) (.pr (.int .i64) .nil))) .nil) x110 x111))], .box [(.c (.ro false (.pr (.int .i64) (.pr (.int .i64) .nil)) x112 x113)), (.c (.ro false (.pr (.sl (.pr (.int .i64) (.pr (.int .i64) .nil))) .nil) x114 x115))], .box [(.c (.i .i64 x116))]]⟩
def s27v1 (x108 : Nat) (x109 : Nat → Nat → CV) (x110 : Nat) (x111 : Nat → Nat → CV) (x112 : Nat) (x113 : Nat → Nat → CV) (x114 : Nat) (x115 : Nat → Nat → CV) (x116 : Int) : St := ⟨(us 6 (.x (.c (.b false)) :: (us 58 []))), [.box [(.c (.ro false (.pr (.int .i64) (.pr (.int .i64) .nil)) x108 x109)), (.c (.ro false (.pr (.sl (.pr (.int .i64) (.pr (.int .i64) .nil))) .nil) x110 x111))], .box [(.c (.ro false (.pr (.int .i64) (.pr (.int .i64) .nil)) x112 x113)), (.c (.ro false (.pr (.sl (.pr (.int .i64) (.pr (.int .i64) .nil))) .nil) x114 x115))], .box [(.c (.i .i64 x116))]]⟩
def s27v2 (x100 : Nat) (x101 : Nat → Nat → CV) (x102 : Int) (x103 : Int) (x108 : Nat) (x109 : Nat → Nat → CV) (x110 : Nat) (x111 : Nat → Nat → CV) (x112 : Nat) (x113 : Nat → Nat → CV) (x114 : Nat) (x115 : Nat → Nat → CV) (x116 : Int) : St := ⟨(us 4 (.x (.ptr 1 0) :: .u :: .u :: .x (.fn 55 [.ptr 2 0]) :: (us 38 (.x (.c (.ro false (.pr (.sl (.pr (.int .i64) (.pr (.int .i64) .nil))) .nil) x100 x101)) :: .x (.c (.i .i64 x102)) :: .x (.c (.i .i64 x103)) :: (us 16 []))))), [.box [(.c (.ro false (.pr (.int .i64) (.pr (.int .i64) .nil)) x108 x109)), (.c (.ro false (.pr (.sl (.pr (.int .i64) (.pr (.int .i64) .nil))) .nil) x110 x111))], .box [(.c (.ro false (.pr (.int .i64) (.pr (.int .i64) .nil)) x112 x113)), (.c (.ro false (.pr (.sl (.pr (.int .i64) (.pr (.int .i64) .nil))) .nil) x114 x115))], .box [(.c (.i .i64 x116))]]⟩
def L27v2 {ρ : Type} (fuel : Nat) (x98 : Nat) (x99 : Nat → Nat → CV) (x100 : Nat) (x101 : Nat → Nat → CV) (x102 : Int) (x103 : Int) (x104 : Nat) (x105 : Nat → Nat → CV) (x106 : Int) (x108 : Nat) (x109 : Nat → Nat → CV) (x110 : Nat) (x111 : Nat → Nat → CV) (x112 : Nat) (x113 : Nat → Nat → CV) (x114 : Nat) (x115 : Nat → Nat → CV) (x116 : Int) : Nat → Int → (Option ρ) → (Option ρ) → Option ρ
  | 0, _, _, _ => none
  | m + 1, x107, k0, k1 =>
    (bif (decide (x107 < x106)) then (bif (inb x107 x104) then (ob (F58b fuel x98 x99 (CV.len (x105 (Int.toNat x107) 0)) (CV.el (x105 (Int.toNat x107) 0)) (listF [(.i .i64 x116)])) fun x117 => (bif x117 then k0 else (L27v2 fuel x98 x99 x100 x101 x102 x103 x104 x105 x106 x108 x109 x110 x111 x112 x113 x114 x115 x116 m (w64 (x107 + 1)) k0 k1))) else none) else k1)
theorem nl27v2 {ρ σ : Type} (fuel : Nat) (x98 : Nat) (x99 : Nat → Nat → CV) (x100 : Nat) (x101 : Nat → Nat → CV) (x102 : Int) (x103 : Int) (x104 : Nat) (x105 : Nat → Nat → CV) (x106 : Int) (x108 : Nat) (x109 : Nat → Nat → CV) (x110 : Nat) (x111 : Nat → Nat → CV) (x112 : Nat) (x113 : Nat → Nat → CV) (x114 : Nat) (x115 : Nat → Nat → CV) (x116 : Int) (g : ρ → Option σ) : ∀ (m : Nat) (x107 : Int) (k0 : Option ρ) (k1 : Option ρ), ob (L27v2 fuel x98 x99 x100 x101 x102 x103 x104 x105 x106 x108 x109 x110 x111 x112 x113 x114 x115 x116 m x107 k0 k1) g = L27v2 fuel x98 x99 x100 x101 x102 x103 x104 x105 x106 x108 x109 x110 x111 x112 x113 x114 x115 x116 m x107 (ob k0 g) (ob k1 g)
  | 0, _, _, _ => rfl
  | m + 1, x107, k0, k1 => by
    simp only [L27v2, ob_bif, ob_ob, ob_none, nl27v2 fuel x98 x99 x100 x101 x102 x103 x104 x105 x106 x108 x109 x110 x111 x112 x113 x114 x115 x116 g m]
theorem r27v2 (fuel : Nat) (m : Nat) {ρ : Type} (k : Ex → St → Option ρ) (x98 : Nat) (x99 : Nat → Nat → CV) (x100 : Nat) (x101 : Nat → Nat → CV) (x102 : Int) (x103 : Int) (x104 : Nat) (x105 : Nat → Nat → CV) (x106 : Int) (x108 : Nat) (x109 : Nat → Nat → CV) (x110 : Nat) (x111 : Nat → Nat → CV) (x112 : Nat) (x113 : Nat → Nat → CV) (x114 : Nat) (x115 : Nat → Nat → CV) (x116 : Int) (x107 : Int) :
    loopH (B27v2 (C61 fuel) fuel) N27v2 (m + 1) (s27v0 x98 x99 x100 x101 x102 x103 x104 x105 x106 x107 x108 x109 x110 x111 x112 x113 x114 x115 x116) k =
    (bif (decide (x107 < x106)) then (bif (inb x107 x104) then (ob (F58b fuel x98 x99 (CV.len (x105 (Int.toNat x107) 0)) (CV.el (x105 (Int.toNat x107) 0)) (listF [(.i .i64 x116)])) fun x117 => (bif x117 then (k .ret (s27v1 x108 x109 x110 x111 x112 x113 x114 x115 x116)) else (loopH (B27v2 (C61 fuel) fuel) N27v2 m (s27v0 x98 x99 x100 x101 x102 x103 x104 x105 x106 (w64 (x107 + 1)) x108 x109 x110 x111 x112 x113 x114 x115 x116) k))) else none) else (k (.exit 2) (s27v2 x100 x101 x102 x103 x108 x109 x110 x111 x112 x113 x114 x115 x116))) := by kernel_rfl
theorem q27v2 (fuel : Nat) (x98 : Nat) (x99 : Nat → Nat → CV) (x100 : Nat) (x101 : Nat → Nat → CV) (x102 : Int) (x103 : Int) (x104 : Nat) (x105 : Nat → Nat → CV) (x106 : Int) (x108 : Nat) (x109 : Nat → Nat → CV) (x110 : Nat) (x111 : Nat → Nat → CV) (x112 : Nat) (x113 : Nat → Nat → CV) (x114 : Nat) (x115 : Nat → Nat → CV) (x116 : Int) {ρ : Type} (k : Ex → St → Option ρ) : ∀ (m : Nat) (x107 : Int),
    loopH (B27v2 (C61 fuel) fuel) N27v2 m (s27v0 x98 x99 x100 x101 x102 x103 x104 x105 x106 x107 x108 x109 x110 x111 x112 x113 x114 x115 x116) k = L27v2 fuel x98 x99 x100 x101 x102 x103 x104 x105 x106 x108 x109 x110 x111 x112 x113 x114 x115 x116 m x107 (k .ret (s27v1 x108 x109 x110 x111 x112 x113 x114 x115 x116)) (k (.exit 2) (s27v2 x100 x101 x102 x103 x108 x109 x110 x111 x112 x113 x114 x115 x116))
  | 0, _ => rfl
  | m + 1, x107 => by
    rw [r27v2]
    simp only [L27v2, q27v2 fuel x98 x99 x100 x101 x102 x103 x104 x105 x106 x108 x109 x110 x111 x112 x113 x114 x115 x116 k m]
def B27v3 (C : Oracle) (fuel : Nat) {ρ : Type} : St → (Ex → St → Option ρ) → Option ρ := fun st k => evalC C fuel A27v6 st k
def N27v3 : St → Option St := fun s => s.norm (rl 0 4 (5 :: 6 :: (rl 8 38 (rl 49 16 [])))) 3
def s27v3 (x65 : Nat) (x66 : Nat → Nat → CV) (x67 : Int) (x68 : Int) (x69 : Nat) (x70 : Nat → Nat → CV) (x71 : Nat) (x72 : Nat → Nat → CV) (x73 : Nat) (x74 : Nat → Nat → CV) (x75 : Nat) (x76 : Nat → Nat → CV) (x77 : Int) : St := ⟨(us 4 (.x (.ptr 1 0) :: .u :: .u :: .x (.fn 55 [.ptr 2 0]) :: (us 38 (.x (.c (.ro false (.pr (.sl (.pr (.int .i64) (.pr (.int .i64) .nil))) .nil) x65 x66)) :: .x (.c (.i .i64 x67)) :: .x (.c (.i .i64 x68)) :: (us 16 []))))), [.box [(.c (.ro false (.pr (.int .i64) (.pr (.int .i64) .nil)) x69 x70)), (.c (.ro false (.pr (.sl (.pr (.int .i64) (.pr (.int .i64) .nil))) .nil) x71 x72))], .box [(.c (.ro false (.pr (.int .i64) (.pr (.int .i64) .nil)) x73 x74)), (.c (.ro false (.pr (.sl (.pr (.int .i64) (.pr (.int .i64) .nil))) .nil) x75 x76))], .box [(.c (.i .i64 x77))]]⟩
def s27v4 (x69 : Nat) (x70 : Nat → Nat → CV) (x71 : Nat) (x72 : Nat → Nat → CV) (x73 : Nat) (x74 : Nat → Nat → CV) (x75 : Nat) (x76 : Nat → Nat → CV) (x77 : Int) : St := ⟨(us 6 (.x (.c (.b false)) :: (us 58 []))), [.box [(.c (.ro false (.pr (.int .i64) (.pr (.int .i64) .nil)) x69 x70)), (.c (.ro false (.pr (.sl (.pr (.int .i64) (.pr (.int .i64) .nil))) .nil) x71 x72))], .box [(.c (.ro false (.pr (.int .i64) (.pr (.int .i64) .nil)) x73 x74)), (.c (.ro false (.pr (.sl (.pr (.int .i64) (.pr (.int .i64) .nil))) .nil) x75 x76))], .box [(.c (.i .i64 x77))]]⟩
def s27v5 (x69 : Nat) (x70 : Nat → Nat → CV) (x71 : Nat) (x72 : Nat → Nat → CV) (x73 : Nat) (x74 : Nat → Nat → CV) (x75 : Nat) (x76 : Nat → Nat → CV) (x77 : Int) : St := ⟨(us 65 []), [.box [(.c (.ro false (.pr (.int .i64) (.pr (.int .i64) .nil)) x69 x70)), (.c (.ro false (.pr (.sl (.pr (.int .i64) (.pr (.int .i64) .nil))) .nil) x71 x72))], .box [(.c (.ro false (.pr (.int .i64) (.pr (.int .i64) .nil)) x73 x74)), (.c (.ro false (.pr (.sl (.pr (.int .i64) (.pr (.int .i64) .nil))) .nil) x75 x76))], .box [(.c (.i .i64 x77))]]⟩
def L27v3 {ρ : Type} (fuel : Nat) (x65 : Nat) (x66 : Nat → Nat → CV) (x67 : Int) (x69 : Nat) (x70 : Nat → Nat → CV) (x71 : Nat) (x72 : Nat → Nat → CV) (x73 : Nat) (x74 : Nat → Nat → CV) (x75 : Nat) (x76 : Nat → Nat → CV) (x77 : Int) : Nat → Int → (Option ρ) → (Option ρ) → Option ρ
  | 0, _, _, _ => none
  | m + 1, x68, k0, k1 =>
    (bif (decide (x68 < x67)) then (bif (inb x68 x65) then (ob (F42 fuel x73 x74 x75 x76) fun x78 => (L27v2 fuel (CV.len (x66 (Int.toNat x68) 0)) (CV.el (x66 (Int.toNat x68) 0)) x65 x66 x67 x68 x78.1 x78.2 (Int.ofNat x78.1) x69 x70 x71 x72 x73 x74 x75 x76 x77 fuel 0
    k0
    (L27v3 fuel x65 x66 x67 x69 x70 x71 x72 x73 x74 x75 x76 x77 m (w64 (x68 + 1)) k0 k1))) else none) else k1)
theorem nl27v3 {ρ σ : Type} (fuel : Nat) (x65 : Nat) (x66 : Nat → Nat → CV) (x67 : Int) (x69 : Nat) (x70 : Nat → Nat → CV) (x71 : Nat) (x72 : Nat → Nat → CV) (x73 : Nat) (x74 : Nat → Nat → CV) (x75 : Nat) (x76 : Nat → Nat → CV) (x77 : Int) (g : ρ → Option σ) : ∀ (m : Nat) (x68 : Int) (k0 : Option ρ) (k1 : Option ρ), ob (L27v3 fuel x65 x66 x67 x69 x70 x71 x72 x73 x74 x75 x76 x77 m x68 k0 k1) g = L27v3 fuel x65 x66 x67 x69 x70 x71 x72 x73 x74 x75 x76 x77 m x68 (ob k0 g) (ob k1 g)
  | 0, _, _, _ => rfl
  | m + 1, x68, k0, k1 => by
    simp only [L27v3, ob_bif, ob_ob, ob_none, nl27v3 fuel x65 x66 x67 x69 x70 x71 x72 x73 x74 x75 x76 x77 g m, nl27v2]
def s27v6 (x66 : Nat → Nat → CV) (x68 : Int) (x65 : Nat) (x67 : Int) (x73 : Nat) (x74 : Nat → Nat → CV) (x75 : Nat) (x76 : Nat → Nat → CV) (x78 : Nat × (Nat → Nat → CV)) (x69 : Nat) (x70 : Nat → Nat → CV) (x71 : Nat) (x72 : Nat → Nat → CV) (x77 : Int) : St := ⟨(us 4 (.x (.ptr 1 0) :: .u :: .u :: .x (.fn 55 [.ptr 2 0]) :: .u :: .x (.c (.ro false (.pr (.int .i64) (.pr (.int .i64) .nil)) (CV.len (x66 (Int.toNat x68) 0)) (CV.el (x66 (Int.toNat x68) 0)))) :: (us 36 (.x (.c (.ro false (.pr (.sl (.pr (.int .i64) (.pr (.int .i64) .nil))) .nil) x65 x66)) :: .x (.c (.i .i64 x67)) :: .x (.c (.i .i64 x68)) :: .x (.c (.b true)) :: .x (.c (.rp (.pr (.sl (.pr (.int .i64) (.pr (.int .i64) .nil))) .nil) (x66 (Int.toNat x68)))) :: .x (.c (.ro false (.pr (.int .i64) (.pr (.int .i64) .nil)) (CV.len (x66 (Int.toNat x68) 0)) (CV.el (x66 (Int.toNat x68) 0)))) :: .agg [(.c (.ro false (.pr (.int .i64) (.pr (.int .i64) .nil)) x73 x74)), (.c (.ro false (.pr (.sl (.pr (.int .i64) (.pr (.int .i64) .nil))) .nil) x75 x76))] :: .x (.c (.ro false (.pr (.sl (.pr (.int .i64) (.pr (.int .i64) .nil))) .nil) x78.1 x78.2)) :: .x (.c (.i .i64 (Int.ofNat x78.1))) :: .x (.c (.i .i64 0)) :: (us 9 []))))), [.box [(.c (.ro false (.pr (.int .i64) (.pr (.int .i64) .nil)) x69 x70)), (.c (.ro false (.pr (.sl (.pr (.int .i64) (.pr (.int .i64) .nil))) .nil) x71 x72))], .box [(.c (.ro false (.pr (.int .i64) (.pr (.int .i64) .nil)) x73 x74)), (.c (.ro false (.pr (.sl (.pr (.int .i64) (.pr (.int .i64) .nil))) .nil) x75 x76))], .box [(.c (.i .i64 x77))]]⟩
theorem r27v3 (fuel : Nat) (m : Nat) {ρ : Type} (k : Ex → St → Option ρ) (x65 : Nat) (x66 : Nat → Nat → CV) (x67 : Int) (x69 : Nat) (x70 : Nat → Nat → CV) (x71 : Nat) (x72 : Nat → Nat → CV) (x73 : Nat) (x74 : Nat → Nat → CV) (x75 : Nat) (x76 : Nat → Nat → CV) (x77 : Int) (x68 : Int) :
    loopH (B27v3 (C61 fuel) fuel) N27v3 (m + 1) (s27v3 x65 x66 x67 x68 x69 x70 x71 x72 x73 x74 x75 x76 x77) k =
    (bif (decide (x68 < x67)) then (bif (inb x68 x65) then (ob (F42 fuel x73 x74 x75 x76) fun x78 => (loopN (B27v2 (C61 fuel) fuel) N27v2 fuel (s27v6 x66 x68 x65 x67 x73 x74 x75 x76 x78 x69 x70 x71 x72 x77) (kBlk 2 (kBlk 1 (kSeq (C61 fuel) fuel (6 :: 9 :: 11 :: (rl 50 14 [])) A27v4 (kLoop (B27v3 (C61 fuel) fuel) N27v3 m k)))))) else none) else (k (.exit 0) (s27v5 x69 x70 x71 x72 x73 x74 x75 x76 x77))) := by kernel_rfl
theorem t27v1 (fuel : Nat) {ρ : Type} (k : Ex → St → Option ρ) (x66 : Nat → Nat → CV) (x68 : Int) (x65 : Nat) (x67 : Int) (x73 : Nat) (x74 : Nat → Nat → CV) (x75 : Nat) (x76 : Nat → Nat → CV) (x78 : Nat × (Nat → Nat → CV)) (x69 : Nat) (x70 : Nat → Nat → CV) (x71 : Nat) (x72 : Nat → Nat → CV) (x77 : Int) :
    loopN (B27v2 (C61 fuel) fuel) N27v2 fuel (s27v6 x66 x68 x65 x67 x73 x74 x75 x76 x78 x69 x70 x71 x72 x77) k =
    L27v2 fuel (CV.len (x66 (Int.toNat x68) 0)) (CV.el (x66 (Int.toNat x68) 0)) x65 x66 x67 x68 x78.1 x78.2 (Int.ofNat x78.1) x69 x70 x71 x72 x73 x74 x75 x76 x77 fuel 0 (k .ret (s27v1 x69 x70 x71 x72 x73 x74 x75 x76 x77)) (k (.exit 2) (s27v2 x65 x66 x67 x68 x69 x70 x71 x72 x73 x74 x75 x76 x77)) :=
  (loopN_at (st' := (s27v0 (CV.len (x66 (Int.toNat x68) 0)) (CV.el (x66 (Int.toNat x68) 0)) x65 x66 x67 x68 x78.1 x78.2 (Int.ofNat x78.1) 0 x69 x70 x71 x72 x73 x74 x75 x76 x77)) (by kernel_rfl)).trans (q27v2 fuel (CV.len (x66 (Int.toNat x68) 0)) (CV.el (x66 (Int.toNat x68) 0)) x65 x66 x67 x68 x78.1 x78.2 (Int.ofNat x78.1) x69 x70 x71 x72 x73 x74 x75 x76 x77 k fuel 0)
theorem g27v2 (fuel : Nat) (m : Nat) {ρ : Type} (k : Ex → St → Option ρ) (x69 : Nat) (x70 : Nat → Nat → CV) (x71 : Nat) (x72 : Nat → Nat → CV) (x73 : Nat) (x74 : Nat → Nat → CV) (x75 : Nat) (x76 : Nat → Nat → CV) (x77 : Int) :
    (kBlk 2 (kBlk 1 (kSeq (C61 fuel) fuel (6 :: 9 :: 11 :: (rl 50 14 [])) A27v4 (kLoop (B27v3 (C61 fuel) fuel) N27v3 m k)))) .ret (s27v1 x69 x70 x71 x72 x73 x74 x75 x76 x77) =
    (k .ret (s27v4 x69 x70 x71 x72 x73 x74 x75 x76 x77)) := by kernel_rfl
theorem g27v3 (fuel : Nat) (m : Nat) {ρ : Type} (k : Ex → St → Option ρ) (x65 : Nat) (x66 : Nat → Nat → CV) (x67 : Int) (x68 : Int) (x69 : Nat) (x70 : Nat → Nat → CV) (x71 : Nat) (x72 : Nat → Nat → CV) (x73 : Nat) (x74 : Nat → Nat → CV) (x75 : Nat) (x76 : Nat → Nat → CV) (x77 : Int) :
    (kBlk 2 (kBlk 1 (kSeq (C61 fuel) fuel (6 :: 9 :: 11 :: (rl 50 14 [])) A27v4 (kLoop (B27v3 (C61 fuel) fuel) N27v3 m k)))) (.exit 2) (s27v2 x65 x66 x67 x68 x69 x70 x71 x72 x73 x74 x75 x76 x77) =
    (loopH (B27v3 (C61 fuel) fuel) N27v3 m (s27v3 x65 x66 x67 (w64 (x68 + 1)) x69 x70 x71 x72 x73 x74 x75 x76 x77) k) := by kernel_rfl
theorem q27v3 (fuel : Nat) (x65 : Nat) (x66 : Nat → Nat → CV) (x67 : Int) (x69 : Nat) (x70 : Nat → Nat → CV) (x71 : Nat) (x72 : Nat → Nat → CV) (x73 : Nat) (x74 : Nat → Nat → CV) (x75 : Nat) (x76 : Nat → Nat → CV) (x77 : Int) {ρ : Type} (k : Ex → St → Option ρ) : ∀ (m : Nat) (x68 : Int),
    loopH (B27v3 (C61 fuel) fuel) N27v3 m (s27v3 x65 x66 x67 x68 x69 x70 x71 x72 x73 x74 x75 x76 x77) k = L27v3 fuel x65 x66 x67 x69 x70 x71 x72 x73 x74 x75 x76 x77 m x68 (k .ret (s27v4 x69 x70 x71 x72 x73 x74 x75 x76 x77)) (k (.exit 0) (s27v5 x69 x70 x71 x72 x73 x74 x75 x76 x77))
  | 0, _ => rfl
  | m + 1, x68 => by
    rw [r27v3]
    simp only [L27v3, q27v3 fuel x65 x66 x67 x69 x70 x71 x72 x73 x74 x75 x76 x77 k m, t27v1, g27v2, g27v3]
def D27 {ρ : Type} (fuel : Nat) (x1 : Nat) (x2 : Nat → Nat → CV) (x3 : Nat) (x4 : Nat → Nat → CV) (x5 : Nat) (x6 : Nat → Nat → CV) (x7 : Nat) (x8 : Nat → Nat → CV) (x9 : Int) (k : Bool → Option ρ) : Option ρ :=
  (bif ((decide (x9 < 0)) == false) then (bif ((decide (x9 > 1000)) == false) then (ob (F13 fuel x1 x2 x3 x4) fun x10 => (bif ((x10 != 0) == false) then (ob (F13 fuel x5 x6 x7 x8) fun x11 => (bif (x11 != 0) then (k false) else (bif (inb 0 x5) then (ob (F47 fuel x1 x2 x3 x4 (CV.int (x6 0 0)) (CV.int (x6 0 1))) fun x12 => (bif ((decide (x12 ≥ 0)) == false) then (bif (inb 0 x1) then (ob (F47 fuel x5 x6 x7 x8 (CV.int (x2 0 0)) (CV.int (x2 0 1))) fun x13 => (bif (decide (x13 ≥ 0)) then (k false) else (ob (F42 fuel x1 x2 x3 x4) fun x14 => (L27v3 fuel x14.1 x14.2 (Int.ofNat x14.1) x1 x2 x3 x4 x5 x6 x7 x8 x9 fuel 0
    (k false)
    (k true))))) else none) else (k false))) else none))) else (k false))) else (k false)) else (k false))
def F27 (fuel : Nat) (x1 : Nat) (x2 : Nat → Nat → CV) (x3 : Nat) (x4 : Nat → Nat → CV) (x5 : Nat) (x6 : Nat → Nat → CV) (x7 : Nat) (x8 : Nat → Nat → CV) (x9 : Int) : Option (Bool) := D27 fuel x1 x2 x3 x4 x5 x6 x7 x8 x9 some
theorem n27 {ρ σ : Type} (fuel : Nat) (x1 : Nat) (x2 : Nat → Nat → CV) (x3 : Nat) (x4 : Nat → Nat → CV) (x5 : Nat) (x6 : Nat → Nat → CV) (x7 : Nat) (x8 : Nat → Nat → CV) (x9 : Int) (k : (Bool) → Option ρ) (g : ρ → Option σ) : ob (D27 fuel x1 x2 x3 x4 x5 x6 x7 x8 x9 k) g = D27 fuel x1 x2 x3 x4 x5 x6 x7 x8 x9 fun t => ob (k t) g := by
  simp only [D27, ob_bif, ob_ob, ob_none, nl27v3]
theorem f27 {ρ : Type} (fuel : Nat) (x1 : Nat) (x2 : Nat → Nat → CV) (x3 : Nat) (x4 : Nat → Nat → CV) (x5 : Nat) (x6 : Nat → Nat → CV) (x7 : Nat) (x8 : Nat → Nat → CV) (x9 : Int) (k : (Bool) → Option ρ) : D27 fuel x1 x2 x3 x4 x5 x6 x7 x8 x9 k = ob (F27 fuel x1 x2 x3 x4 x5 x6 x7 x8 x9) k := by
  unfold F27
  rw [n27]
  simp only [ob_some]
def s27v7 (x1 : Nat) (x2 : Nat → Nat → CV) (x3 : Nat) (x4 : Nat → Nat → CV) (x5 : Nat) (x6 : Nat → Nat → CV) (x7 : Nat) (x8 : Nat → Nat → CV) (x9 : Int) (x14 : Nat × (Nat → Nat → CV)) : St := ⟨(.agg [(.c (.ro false (.pr (.int .i64) (.pr (.int .i64) .nil)) x1 x2)), (.c (.ro false (.pr (.sl (.pr (.int .i64) (.pr (.int .i64) .nil))) .nil) x3 x4))] :: .agg [(.c (.ro false (.pr (.int .i64) (.pr (.int .i64) .nil)) x5 x6)), (.c (.ro false (.pr (.sl (.pr (.int .i64) (.pr (.int .i64) .nil))) .nil) x7 x8))] :: .x (.c (.i .i64 x9)) :: .x (.ptr 0 0) :: .x (.ptr 1 0) :: .x (.ptr 2 0) :: .u :: .x (.fn 55 [.ptr 2 0]) :: .undef :: .undef :: .undef :: .undef :: (us 32 [.x (.fn 55 [.ptr 2 0]), .agg [(.c (.ro false (.pr (.int .i64) (.pr (.int .i64) .nil)) x1 x2)), (.c (.ro false (.pr (.sl (.pr (.int .i64) (.pr (.int .i64) .nil))) .nil) x3 x4))], .x (.c (.ro false (.pr (.sl (.pr (.int .i64) (.pr (.int .i64) .nil))) .nil) x14.1 x14.2)), .x (.c (.i .i64 (Int.ofNat x14.1))), .x (.c (.i .i64 0)), .undef, .undef, .undef, .undef, .undef, .undef, .undef, .undef, .undef, .undef, .undef, .undef, .undef, .undef, .undef, .undef])), [.box [(.c (.ro false (.pr (.int .i64) (.pr (.int .i64) .nil)) x1 x2)), (.c (.ro false (.pr (.sl (.pr (.int .i64) (.pr (.int .i64) .nil))) .nil) x3 x4))], .box [(.c (.ro false (.pr (.int .i64) (.pr (.int .i64) .nil)) x5 x6)), (.c (.ro false (.pr (.sl (.pr (.int .i64) (.pr (.int .i64) .nil))) .nil) x7 x8))], .box [(.c (.i .i64 x9))]]⟩
theorem walk27 (fuel : Nat) (x1 : Nat) (x2 : Nat → Nat → CV) (x3 : Nat) (x4 : Nat → Nat → CV) (x5 : Nat) (x6 : Nat → Nat → CV) (x7 : Nat) (x8 : Nat → Nat → CV) (x9 : Int) :
    evalF (C61 fuel) fuel A27 [.agg [(.ro false (.pr (.int .i64) (.pr (.int .i64) .nil)) x1 x2), (.ro false (.pr (.sl (.pr (.int .i64) (.pr (.int .i64) .nil))) .nil) x3 x4)], .agg [(.ro false (.pr (.int .i64) (.pr (.int .i64) .nil)) x5 x6), (.ro false (.pr (.sl (.pr (.int .i64) (.pr (.int .i64) .nil))) .nil) x7 x8)], .v (.i .i64 x9)] =
    (bif ((decide (x9 < 0)) == false) then (bif ((decide (x9 > 1000)) == false) then (ob (F13 fuel x1 x2 x3 x4) fun x10 => (bif ((x10 != 0) == false) then (ob (F13 fuel x5 x6 x7 x8) fun x11 => (bif (x11 != 0) then (some [.v (.b false)]) else (bif (inb 0 x5) then (ob (F47 fuel x1 x2 x3 x4 (CV.int (x6 0 0)) (CV.int (x6 0 1))) fun x12 => (bif ((decide (x12 ≥ 0)) == false) then (bif (inb 0 x1) then (ob (F47 fuel x5 x6 x7 x8 (CV.int (x2 0 0)) (CV.int (x2 0 1))) fun x13 => (bif (decide (x13 ≥ 0)) then (some [.v (.b false)]) else (ob (F42 fuel x1 x2 x3 x4) fun x14 => (loopN (B27v3 (C61 fuel) fuel) N27v3 fuel (s27v7 x1 x2 x3 x4 x5 x6 x7 x8 x9 x14) (kBlk 0 (kSeq (C61 fuel) fuel (6 :: 9 :: 11 :: (rl 45 20 [])) A27v7 (finish A27))))))) else none) else (some [.v (.b false)]))) else none))) else (some [.v (.b false)]))) else (some [.v (.b false)])) else (some [.v (.b false)])) := by kernel_rfl
theorem t27v4 (fuel : Nat) {ρ : Type} (k : Ex → St → Option ρ) (x1 : Nat) (x2 : Nat → Nat → CV) (x3 : Nat) (x4 : Nat → Nat → CV) (x5 : Nat) (x6 : Nat → Nat → CV) (x7 : Nat) (x8 : Nat → Nat → CV) (x9 : Int) (x14 : Nat × (Nat → Nat → CV)) :
    loopN (B27v3 (C61 fuel) fuel) N27v3 fuel (s27v7 x1 x2 x3 x4 x5 x6 x7 x8 x9 x14) k =
    L27v3 fuel x14.1 x14.2 (Int.ofNat x14.1) x1 x2 x3 x4 x5 x6 x7 x8 x9 fuel 0 (k .ret (s27v4 x1 x2 x3 x4 x5 x6 x7 x8 x9)) (k (.exit 0) (s27v5 x1 x2 x3 x4 x5 x6 x7 x8 x9)) :=
  (loopN_at (st' := (s27v3 x14.1 x14.2 (Int.ofNat x14.1) 0 x1 x2 x3 x4 x5 x6 x7 x8 x9)) (by kernel_rfl)).trans (q27v3 fuel x14.1 x14.2 (Int.ofNat x14.1) x1 x2 x3 x4 x5 x6 x7 x8 x9 k fuel 0)
theorem g27v5 (fuel : Nat) (x1 : Nat) (x2 : Nat → Nat → CV) (x3 : Nat) (x4 : Nat → Nat → CV) (x5 : Nat) (x6 : Nat → Nat → CV) (x7 : Nat) (x8 : Nat → Nat → CV) (x9 : Int) :
    (kBlk 0 (kSeq (C61 fuel) fuel (6 :: 9 :: 11 :: (rl 45 20 [])) A27v7 (finish A27))) .ret (s27v4 x1 x2 x3 x4 x5 x6 x7 x8 x9) =
    (some [.v (.b false)]) := by kernel_rfl
theorem g27v6 (fuel : Nat) (x1 : Nat) (x2 : Nat → Nat → CV) (x3 : Nat) (x4 : Nat → Nat → CV) (x5 : Nat) (x6 : Nat → Nat → CV) (x7 : Nat) (x8 : Nat → Nat → CV) (x9 : Int) :
    (kBlk 0 (kSeq (C61 fuel) fuel (6 :: 9 :: 11 :: (rl 45 20 [])) A27v7 (finish A27))) (.exit 0) (s27v5 x1 x2 x3 x4 x5 x6 x7 x8 x9) =
    (some [.v (.b true)]) := by kernel_rfl
theorem e27 (fuel : Nat) (x1 : Nat) (x2 : Nat → Nat → CV) (x3 : Nat) (x4 : Nat → Nat → CV) (x5 : Nat) (x6 : Nat → Nat → CV) (x7 : Nat) (x8 : Nat → Nat → CV) (x9 : Int) : evalF (C61 fuel) fuel A27 [.agg [(.ro false (.pr (.int .i64) (.pr (.int .i64) .nil)) x1 x2), (.ro false (.pr (.sl (.pr (.int .i64) (.pr (.int .i64) .nil))) .nil) x3 x4)], .agg [(.ro false (.pr (.int .i64) (.pr (.int .i64) .nil)) x5 x6), (.ro false (.pr (.sl (.pr (.int .i64) (.pr (.int .i64) .nil))) .nil) x7 x8)], .v (.i .i64 x9)] = ob (F27 fuel x1 x2 x3 x4 x5 x6 x7 x8 x9) fun t => some [.v (.b t)] := by
  rw [walk27, ← f27]
  simp only [D27, t27v4, g27v5, g27v6]
def O27 (fuel : Nat) : Ora where
  o := fun args {ρ} K =>
    wc args fun a1 l2 =>
    wagg a1 fun l3 =>
    wc l3 fun c4 l5 =>
    wL (.pr (.int .i64) (.pr (.int .i64) .nil)) c4 fun y6 y7 =>
    wc l5 fun c9 l10 =>
    wL (.pr (.sl (.pr (.int .i64) (.pr (.int .i64) .nil))) .nil) c9 fun y11 y12 =>
    wn l10 <|
    wc l2 fun a14 l15 =>
    wagg a14 fun l16 =>
    wc l16 fun c17 l18 =>
    wL (.pr (.int .i64) (.pr (.int .i64) .nil)) c17 fun y19 y20 =>
    wc l18 fun c22 l23 =>
    wL (.pr (.sl (.pr (.int .i64) (.pr (.int .i64) .nil))) .nil) c22 fun y24 y25 =>
    wn l23 <|
    wc l15 fun a27 l28 =>
    wv a27 fun c29 =>
    wI .i64 c29 fun y30 =>
    wn l28 <|
    (ob (F27 fuel y6 y7 y11 y12 y19 y20 y24 y25 y30) fun t => K [.v (.b t)])
  nat := fun args {ρ} K => by
    simp only [bind_wc, bind_wn, bind_wv, bind_wagg, bind_wI, bind_wB, bind_wS, bind_wL, bind_wP, bind_wFn, bind_ob, Option.bind_some]
theorem d27 {P : Program} (fuel : Nat) (hmix : P.follows .mixedOrders = true) (hC : Sound P (C61 fuel)) (hF : FFits P 27 A27) (args res : List A) (h : (O27 fuel).o args some = some res) : Den P 27 args res := by
  obtain ⟨a1, l2, rfl, z0⟩ := inv_wc h
  obtain ⟨l3, rfl, z1⟩ := inv_wagg z0
  obtain ⟨c4, l5, rfl, z2⟩ := inv_wc z1
  obtain ⟨y6, y7, h8, z3⟩ := inv_wL z2
  obtain ⟨c9, l10, rfl, z4⟩ := inv_wc z3
  obtain ⟨y11, y12, h13, z5⟩ := inv_wL z4
  obtain ⟨hn, z6⟩ := inv_wn z5
  cases hn
  obtain ⟨a14, l15, rfl, z7⟩ := inv_wc z6
  obtain ⟨l16, rfl, z8⟩ := inv_wagg z7
  obtain ⟨c17, l18, rfl, z9⟩ := inv_wc z8
  obtain ⟨y19, y20, h21, z10⟩ := inv_wL z9
  obtain ⟨c22, l23, rfl, z11⟩ := inv_wc z10
  obtain ⟨y24, y25, h26, z12⟩ := inv_wL z11
  obtain ⟨hn, z13⟩ := inv_wn z12
  cases hn
  obtain ⟨a27, l28, rfl, z14⟩ := inv_wc z13
  obtain ⟨c29, rfl, z15⟩ := inv_wv z14
  obtain ⟨y30, h31, z16⟩ := inv_wI z15
  obtain ⟨hn, z17⟩ := inv_wn z16
  cases hn
  exact Den.weaken (.cons (WkA.agg (.cons h8 (.cons h13 .nil))) (.cons (WkA.agg (.cons h21 (.cons h26 .nil))) (.cons (WkA.v (Wk.i h31)) .nil))) (evalF_sound hmix hC hF ((e27 fuel y6 y7 y11 y12 y19 y20 y24 y25 y30).trans z17))
def C62 (fuel : Nat) : Oracle := (C61 fuel).add 27 (fun _ => true) (O27 fuel)
def A60 : AF := ⟨15, [.tmp 6],
  (.seq (.region 0 [o1 6 (.assign (.const (.bool false)))] 0 none) []
  (.seq (.region 1 [mv 7 0, mv 8 1, o1 9 (.binOp .geq 3 (tm 7) (tm 8) 3), mv 10 9, og 11 (.move (tm 0)) 10 true, og 12 (.move (tm 2)) 10 true, og 13 (.binOp .leq 3 (tm 11) (tm 12) 3) 10 true, o1 14 (.pick (tm 10) (tm 13) (.const (.bool false))), o1 6 (.assign (tm 14))] 0 none) []
  (.ret (rl 0 6 (rl 7 8 [])))))⟩
def D60 {ρ : Type} (fuel : Nat) (x1 : Int) (x2 : Int) (x3 : Int) (k : Bool → Option ρ) : Option ρ :=
  (bif ((decide (x1 ≥ x2)) == true) then (k (decide (x1 ≤ x3))) else (k false))
def F60 (fuel : Nat) (x1 : Int) (x2 : Int) (x3 : Int) : Option (Bool) := D60 fuel x1 x2 x3 some
theorem n60 {ρ σ : Type} (fuel : Nat) (x1 : Int) (x2 : Int) (x3 : Int) (k : (Bool) → Option ρ) (g : ρ → Option σ) : ob (D60 fuel x1 x2 x3 k) g = D60 fuel x1 x2 x3 fun t => ob (k t) g := by
  simp only [D60, ob_bif, ob_ob, ob_none]
theorem f60 {ρ : Type} (fuel : Nat) (x1 : Int) (x2 : Int) (x3 : Int) (k : (Bool) → Option ρ) : D60 fuel x1 x2 x3 k = ob (F60 fuel x1 x2 x3) k := by
  unfold F60
  rw [n60]
  simp only [ob_some]
theorem walk60 (fuel : Nat) (x1 : Int) (x2 : Int) (x3 : Int) :
    evalF (C62 fuel) fuel A60 [.v (.i .i64 x1), .v (.i .i64 x2), .v (.i .i64 x3)] =
    (bif ((decide (x1 ≥ x2)) == true) then (some [.v (.b (decide (x1 ≤ x3)))]) else (some [.v (.b false)])) := by kernel_rfl
theorem e60 (fuel : Nat) (x1 : Int) (x2 : Int) (x3 : Int) : evalF (C62 fuel) fuel A60 [.v (.i .i64 x1), .v (.i .i64 x2), .v (.i .i64 x3)] = ob (F60 fuel x1 x2 x3) fun t => some [.v (.b t)] := by
  rw [walk60, ← f60]
  simp only [D60]
def O60 (fuel : Nat) : Ora where
  o := fun args {ρ} K =>
    wc args fun a1 l2 =>
    wv a1 fun c3 =>
    wI .i64 c3 fun y4 =>
    wc l2 fun a6 l7 =>
    wv a6 fun c8 =>
    wI .i64 c8 fun y9 =>
    wc l7 fun a11 l12 =>
    wv a11 fun c13 =>
    wI .i64 c13 fun y14 =>
    wn l12 <|
    (ob (F60 fuel y4 y9 y14) fun t => K [.v (.b t)])
  nat := fun args {ρ} K => by
    simp only [bind_wc, bind_wn, bind_wv, bind_wagg, bind_wI, bind_wB, bind_wS, bind_wL, bind_wP, bind_wFn, bind_ob, Option.bind_some]
theorem d60 {P : Program} (fuel : Nat) (hmix : P.follows .mixedOrders = true) (hC : Sound P (C62 fuel)) (hF : FFits P 60 A60) (args res : List A) (h : (O60 fuel).o args some = some res) : Den P 60 args res := by
  obtain ⟨a1, l2, rfl, z0⟩ := inv_wc h
  obtain ⟨c3, rfl, z1⟩ := inv_wv z0
  obtain ⟨y4, h5, z2⟩ := inv_wI z1
  obtain ⟨a6, l7, rfl, z3⟩ := inv_wc z2
  obtain ⟨c8, rfl, z4⟩ := inv_wv z3
  obtain ⟨y9, h10, z5⟩ := inv_wI z4
  obtain ⟨a11, l12, rfl, z6⟩ := inv_wc z5
  obtain ⟨c13, rfl, z7⟩ := inv_wv z6
  obtain ⟨y14, h15, z8⟩ := inv_wI z7
  obtain ⟨hn, z9⟩ := inv_wn z8
  cases hn
  exact Den.weaken (.cons (WkA.v (Wk.i h5)) (.cons (WkA.v (Wk.i h10)) (.cons (WkA.v (Wk.i h15)) .nil))) (evalF_sound hmix hC hF ((e60 fuel y4 y9 y14).trans z9))
def C63 (fuel : Nat) : Oracle := (C62 fuel).add 60 (fun _ => true) (O60 fuel)
def A29v1 : AC := (.region 9 [o1 61 (.binOp .add 3 (tm 37) (ic 1) 3), mv 37 61] 0 none)
def A29v2 : AC := (.seq (.block 1
  (.seq (.region 6 [o1 39 (.indexAddr 22 34 2 (tm 35) (tm 37)), o1 40 (.load 34 (some 2) (tm 39)), o1 11 (.alloc 0 34 [.c (.i .i64 0), .c (.i .i64 0)]), o0 (.store 34 2 (tm 11) (tm 40))] 1 none) []
    (.seq (.region 7 [mv 41 9, o1 42 (.fieldAddr 34 (tm 11) 0 0), o1 43 (.load 3 none (tm 42)), mv 44 3, mv 45 1, mv 46 3, o1 47 (.binOp .sub 3 (tm 45) (tm 46) 3), o1 48 (.callv (tm 41) [(tm 43), (tm 44), (tm 47)] [3, 3, 3] .snap), o1 49 (.unOp .not 4 (tm 48)), mv 50 49, og 51 (.move (tm 9)) 50 false, og 52 (.fieldAddr 34 (tm 11) 1 1) 50 false, og 53 (.load 3 none (tm 52)) 50 false, og 54 (.move (tm 3)) 50 false, og 55 (.move (tm 2)) 50 false, og 56 (.move (tm 3)) 50 false, og 57 (.binOp .sub 3 (tm 55) (tm 56) 3) 50 false, og 58 (.callv (tm 51) [(tm 53), (tm 54), (tm 57)] [3, 3, 3] .snap) 50 false, og 59 (.unOp .not 4 (tm 58)) 50 false, o1 60 (.pick (tm 50) (.const (.bool true)) (tm 59))] 0 none) []
    (.cond (tm 60)
    (.seq (.region 8 [o1 8 (.assign (.const (.bool false)))] 0 none) []
      (.ret (rl 0 8 (rl 9 53 []))))
    .skip)))) (8 :: 11 :: (rl 39 22 []))
  A29v1)
def A29v3 : AC := (.seq (.region 5 [o1 38 (.binOp .lss 3 (tm 37) (tm 36) 3)] 0 none) []
  (.seq (.cond (tm 38)
  .skip
  (.exit 0 (rl 0 62 []))) []
  A29v2))
def A29v4 : AC := (.seq (.region 10 [o1 8 (.assign (.const (.bool true)))] 0 none) []
  (.ret (rl 0 8 (rl 9 53 []))))
def A29v5 : AC := (.seq (.seq (.region 4 [o1 34 (.fieldAddr 25 (tm 4) 0 0), o1 35 (.load 22 none (tm 34)), o1 36 (.len 22 false (tm 35)), o1 37 (.move (ic 0))] 0 none) []
  (.block 0
  (.loop [] (0 :: (rl 4 5 (rl 10 25 (rl 38 24 []))))
    A29v3))) (8 :: 11 :: (rl 34 28 []))
  A29v4)
def A29 : AF := ⟨62, [.tmp 8],
  (.seq (.region 0 [o1 4 (.box 0 25 (tm 0)), o1 8 (.assign (.const (.bool false)))] 1 none) []
  (.seq (.region 1 [o1 9 (.assign (.func 60))] 0 none) []
  (.seq (.seq (.region 2 [o1 12 (.fieldAddr 25 (tm 4) 0 0), o1 13 (.load 22 none (tm 12)), o1 14 (.len 22 false (tm 13)), o1 15 (.binOp .eql 3 (tm 14) (ic 0) 3), mv 16 15, og 17 (.move (tm 9)) 16 false, og 18 (.move (tm 1)) 16 false, og 19 (.callv (tm 17) [(tm 18), (ic 0), (ic 32768)] [3, 3, 3] .snap) 16 false, og 20 (.unOp .not 4 (tm 19)) 16 false, o1 21 (.pick (tm 16) (.const (.bool true)) (tm 20)), mv 22 21, og 23 (.move (tm 9)) 22 false, og 24 (.move (tm 2)) 22 false, og 25 (.callv (tm 23) [(tm 24), (ic 0), (ic 32768)] [3, 3, 3] .snap) 22 false, og 26 (.unOp .not 4 (tm 25)) 22 false, o1 27 (.pick (tm 22) (.const (.bool true)) (tm 26)), mv 28 27, og 29 (.move (tm 9)) 28 false, og 30 (.move (tm 3)) 28 false, og 31 (.callv (tm 29) [(tm 30), (ic 0), (ic 1000)] [3, 3, 3] .snap) 28 false, og 32 (.unOp .not 4 (tm 31)) 28 false, o1 33 (.pick (tm 28) (.const (.bool true)) (tm 32))] 0 none) []
  (.cond (tm 33)
  (.seq (.region 3 [o1 8 (.assign (.const (.bool false)))] 0 none) []
    (.ret (rl 0 8 (rl 9 53 []))))
  .skip)) (8 :: (rl 12 22 []))
  A29v5)))⟩
def B29v1 (C : Oracle) (fuel : Nat) {ρ : Type} : St → (Ex → St → Option ρ) → Option ρ := fun st k => evalC C fuel A29v3 st k
def N29v1 : St → Option St := fun s => s.norm (0 :: (rl 4 5 (rl 10 25 (rl 38 24 [])))) 1
def s29v0 (x21 : Int) (x22 : Int) (x23 : Int) (x24 : Nat) (x25 : Nat → Nat → CV) (x26 : Int) (x27 : Int) (x28 : Nat) (x29 : Nat → Nat → CV) : St := ⟨(.u :: .x (.c (.i .i64 x21)) :: .x (.c (.i .i64 x22)) :: .x (.c (.i .i64 x23)) :: (us 5 (.x (.fn 60 []) :: (us 25 (.x (.c (.ro false (.pr (.int .i64) (.pr (.int .i64) .nil)) x24 x25)) :: .x (.c (.i .i64 x26)) :: .x (.c (.i .i64 x27)) :: (us 24 [])))))), [.box [(.c (.ro false (.pr (.int .i64) (.pr (.int .i64) .nil)) x24 x25)), (.c (.ro false (.pr (.sl (.pr (.int .i64) (.pr (.int .i64) .nil))) .nil) x28 x29))]]⟩
def s29v1 (x24 : Nat) (x25 : Nat → Nat → CV) (x28 : Nat) (x29 : Nat → Nat → CV) (x32 : Int) (x33 : Int) : St := ⟨(us 8 (.x (.c (.b false)) :: (us 53 []))), [.box [(.c (.ro false (.pr (.int .i64) (.pr (.int .i64) .nil)) x24 x25)), (.c (.ro false (.pr (.sl (.pr (.int .i64) (.pr (.int .i64) .nil))) .nil) x28 x29))], .box [(.c (.i .i64 x32)), (.c (.i .i64 x33))]]⟩
def s29v2 (x24 : Nat) (x25 : Nat → Nat → CV) (x28 : Nat) (x29 : Nat → Nat → CV) : St := ⟨(us 62 []), [.box [(.c (.ro false (.pr (.int .i64) (.pr (.int .i64) .nil)) x24 x25)), (.c (.ro false (.pr (.sl (.pr (.int .i64) (.pr (.int .i64) .nil))) .nil) x28 x29))]]⟩
def L29v1 {ρ : Type} (fuel : Nat) (x21 : Int) (x22 : Int) (x23 : Int) (x24 : Nat) (x25 : Nat → Nat → CV) (x26 : Int) (x28 : Nat) (x29 : Nat → Nat → CV) : Nat → Int → (Int → Int → Option ρ) → (Option ρ) → Option ρ
  | 0, _, _, _ => none
  | m + 1, x27, k0, k1 =>
    (bif (decide (x27 < x26)) then (bif (inb x27 x24) then (ob (F60 fuel (CV.int (x25 (Int.toNat x27) 0)) x23 (w64 (x21 - x23))) fun x30 => (bif ((!x30) == false) then (ob (F60 fuel (CV.int (x25 (Int.toNat x27) 1)) x23 (w64 (x22 - x23))) fun x31 => (bif (!x31) then (k0 (CV.int (x25 (Int.toNat x27) 0)) (CV.int (x25 (Int.toNat x27) 1))) else (L29v1 fuel x21 x22 x23 x24 x25 x26 x28 x29 m (w64 (x27 + 1)) k0 k1))) else (k0 (CV.int (x25 (Int.toNat x27) 0)) (CV.int (x25 (Int.toNat x27) 1))))) else none) else k1)
theorem nl29v1 {ρ σ : Type} (fuel : Nat) (x21 : Int) (x22 : Int) (x23 : Int) (x24 : Nat) (x25 : Nat → Nat → CV) (x26 : Int) (x28 : Nat) (x29 : Nat → Nat → CV) (g : ρ → Option σ) : ∀ (m : Nat) (x27 : Int) (k0 : Int → Int → Option ρ) (k1 : Option ρ), ob (L29v1 fuel x21 x22 x23 x24 x25 x26 x28 x29 m x27 k0 k1) g = L29v1 fuel x21 x22 x23 x24 x25 x26 x28 x29 m x27 (fun x32 x33 => ob (k0 x32 x33) g) (ob k1 g)
  | 0, _, _, _ => rfl
  | m + 1, x27, k0, k1 => by
    simp only [L29v1, ob_bif, ob_ob, ob_none, nl29v1 fuel x21 x22 x23 x24 x25 x26 x28 x29 g m]
theorem r29v1 (fuel : Nat) (m : Nat) {ρ : Type} (k : Ex → St → Option ρ) (x21 : Int) (x22 : Int) (x23 : Int) (x24 : Nat) (x25 : Nat → Nat → CV) (x26 : Int) (x28 : Nat) (x29 : Nat → Nat → CV) (x27 : Int) :
    loopH (B29v1 (C63 fuel) fuel) N29v1 (m + 1) (s29v0 x21 x22 x23 x24 x25 x26 x27 x28 x29) k =
    (bif (decide (x27 < x26)) then (bif (inb x27 x24) then (ob (F60 fuel (CV.int (x25 (Int.toNat x27) 0)) x23 (w64 (x21 - x23))) fun x30 => (bif ((!x30) == false) then (ob (F60 fuel (CV.int (x25 (Int.toNat x27) 1)) x23 (w64 (x22 - x23))) fun x31 => (bif (!x31) then (k .ret (s29v1 x24 x25 x28 x29 (CV.int (x25 (Int.toNat x27) 0)) (CV.int (x25 (Int.toNat x27) 1)))) else (loopH (B29v1 (C63 fuel) fuel) N29v1 m (s29v0 x21 x22 x23 x24 x25 x26 (w64 (x27 + 1)) x28 x29) k))) else (k .ret (s29v1 x24 x25 x28 x29 (CV.int (x25 (Int.toNat x27) 0)) (CV.int (x25 (Int.toNat x27) 1)))))) else none) else (k (.exit 0) (s29v2 x24 x25 x28 x29))) := by kernel_rfl
theorem q29v1 (fuel : Nat) (x21 : Int) (x22 : Int) (x23 : Int) (x24 : Nat) (x25 : Nat → Nat → CV) (x26 : Int) (x28 : Nat) (x29 : Nat → Nat → CV) {ρ : Type} (k : Ex → St → Option ρ) : ∀ (m : Nat) (x27 : Int),
    loopH (B29v1 (C63 fuel) fuel) N29v1 m (s29v0 x21 x22 x23 x24 x25 x26 x27 x28 x29) k = L29v1 fuel x21 x22 x23 x24 x25 x26 x28 x29 m x27 (fun x32 x33 => k .ret (s29v1 x24 x25 x28 x29 x32 x33)) (k (.exit 0) (s29v2 x24 x25 x28 x29))
  | 0, _ => rfl
  | m + 1, x27 => by
    rw [r29v1]
    simp only [L29v1, q29v1 fuel x21 x22 x23 x24 x25 x26 x28 x29 k m]
def D29 {ρ : Type} (fuel : Nat) (x1 : Nat) (x2 : Nat → Nat → CV) (x3 : Nat) (x4 : Nat → Nat → CV) (x5 : Int) (x6 : Int) (x7 : Int) (k : Bool → Option ρ) : Option ρ :=
  (bif (((Int.ofNat x1) == 0) == false) then (ob (F60 fuel x5 0 32768) fun x8 => (bif ((!x8) == false) then (ob (F60 fuel x6 0 32768) fun x9 => (bif ((!x9) == false) then (ob (F60 fuel x7 0 1000) fun x10 => (bif (!x10) then (k false) else (L29v1 fuel x5 x6 x7 x1 x2 (Int.ofNat x1) x3 x4 fuel 0
    (fun x34 x35 => (k false))
    (k true)))) else (k false))) else (k false))) else (k false))
def F29 (fuel : Nat) (x1 : Nat) (x2 : Nat → Nat → CV) (x3 : Nat) (x4 : Nat → Nat → CV) (x5 : Int) (x6 : Int) (x7 : Int) : Option (Bool) := D29 fuel x1 x2 x3 x4 x5 x6 x7 some
theorem n29 {ρ σ : Type} (fuel : Nat) (x1 : Nat) (x2 : Nat → Nat → CV) (x3 : Nat) (x4 : Nat → Nat → CV) (x5 : Int) (x6 : Int) (x7 : Int) (k : (Bool) → Option ρ) (g : ρ → Option σ) : ob (D29 fuel x1 x2 x3 x4 x5 x6 x7 k) g = D29 fuel x1 x2 x3 x4 x5 x6 x7 fun t => ob (k t) g := by
  simp only [D29, ob_bif, ob_ob, ob_none, nl29v1]
theorem f29 {ρ : Type} (fuel : Nat) (x1 : Nat) (x2 : Nat → Nat → CV) (x3 : Nat) (x4 : Nat → Nat → CV) (x5 : Int) (x6 : Int) (x7 : Int) (k : (Bool) → Option ρ) : D29 fuel x1 x2 x3 x4 x5 x6 x7 k = ob (F29 fuel x1 x2 x3 x4 x5 x6 x7) k := by
  unfold F29
  rw [n29]
  simp only [ob_some]
def s29v3 (x1 : Nat) (x2 : Nat → Nat → CV) (x3 : Nat) (x4 : Nat → Nat → CV) (x5 : Int) (x6 : Int) (x7 : Int) : St := ⟨(.agg [(.c (.ro false (.pr (.int .i64) (.pr (.int .i64) .nil)) x1 x2)), (.c (.ro false (.pr (.sl (.pr (.int .i64) (.pr (.int .i64) .nil))) .nil) x3 x4))] :: .x (.c (.i .i64 x5)) :: .x (.c (.i .i64 x6)) :: .x (.c (.i .i64 x7)) :: .x (.ptr 0 0) :: .undef :: .undef :: .undef :: .u :: .x (.fn 60 []) :: .undef :: .undef :: (us 22 [.x (.ptr 0 0), .x (.c (.ro false (.pr (.int .i64) (.pr (.int .i64) .nil)) x1 x2)), .x (.c (.i .i64 (Int.ofNat x1))), .x (.c (.i .i64 0)), .undef, .undef, .undef, .undef, .undef, .undef, .undef, .undef, .undef, .undef, .undef, .undef, .undef, .undef, .undef, .undef, .undef, .undef, .undef, .undef, .undef, .undef, .undef, .undef])), [.box [(.c (.ro false (.pr (.int .i64) (.pr (.int .i64) .nil)) x1 x2)), (.c (.ro false (.pr (.sl (.pr (.int .i64) (.pr (.int .i64) .nil))) .nil) x3 x4))]]⟩
theorem walk29 (fuel : Nat) (x1 : Nat) (x2 : Nat → Nat → CV) (x3 : Nat) (x4 : Nat → Nat → CV) (x5 : Int) (x6 : Int) (x7 : Int) :
    evalF (C63 fuel) fuel A29 [.agg [(.ro false (.pr (.int .i64) (.pr (.int .i64) .nil)) x1 x2), (.ro false (.pr (.sl (.pr (.int .i64) (.pr (.int .i64) .nil))) .nil) x3 x4)], .v (.i .i64 x5), .v (.i .i64 x6), .v (.i .i64 x7)] =
    (bif (((Int.ofNat x1) == 0) == false) then (ob (F60 fuel x5 0 32768) fun x8 => (bif ((!x8) == false) then (ob (F60 fuel x6 0 32768) fun x9 => (bif ((!x9) == false) then (ob (F60 fuel x7 0 1000) fun x10 => (bif (!x10) then (some [.v (.b false)]) else (loopN (B29v1 (C63 fuel) fuel) N29v1 fuel (s29v3 x1 x2 x3 x4 x5 x6 x7) (kBlk 0 (kSeq (C63 fuel) fuel (8 :: 11 :: (rl 34 28 [])) A29v4 (finish A29)))))) else (some [.v (.b false)]))) else (some [.v (.b false)]))) else (some [.v (.b false)])) := by kernel_rfl
theorem t29v1 (fuel : Nat) {ρ : Type} (k : Ex → St → Option ρ) (x1 : Nat) (x2 : Nat → Nat → CV) (x3 : Nat) (x4 : Nat → Nat → CV) (x5 : Int) (x6 : Int) (x7 : Int) :
    loopN (B29v1 (C63 fuel) fuel) N29v1 fuel (s29v3 x1 x2 x3 x4 x5 x6 x7) k =
    L29v1 fuel x5 x6 x7 x1 x2 (Int.ofNat x1) x3 x4 fuel 0 (fun x32 x33 => k .ret (s29v1 x1 x2 x3 x4 x32 x33)) (k (.exit 0) (s29v2 x1 x2 x3 x4)) :=
  (loopN_at (st' := (s29v0 x5 x6 x7 x1 x2 (Int.ofNat x1) 0 x3 x4)) (by kernel_rfl)).trans (q29v1 fuel x5 x6 x7 x1 x2 (Int.ofNat x1) x3 x4 k fuel 0)
theorem g29v2 (fuel : Nat) (x1 : Nat) (x2 : Nat → Nat → CV) (x3 : Nat) (x4 : Nat → Nat → CV) (x34 : Int) (x35 : Int) :
    (kBlk 0 (kSeq (C63 fuel) fuel (8 :: 11 :: (rl 34 28 [])) A29v4 (finish A29))) .ret (s29v1 x1 x2 x3 x4 x34 x35) =
    (some [.v (.b false)]) := by kernel_rfl
theorem g29v3 (fuel : Nat) (x1 : Nat) (x2 : Nat → Nat → CV) (x3 : Nat) (x4 : Nat → Nat → CV) :
    (kBlk 0 (kSeq (C63 fuel) fuel (8 :: 11 :: (rl 34 28 [])) A29v4 (finish A29))) (.exit 0) (s29v2 x1 x2 x3 x4) =
    (some [.v (.b true)]) := by kernel_rfl
theorem e29 (fuel : Nat) (x1 : Nat) (x2 : Nat → Nat → CV) (x3 : Nat) (x4 : Nat → Nat → CV) (x5 : Int) (x6 : Int) (x7 : Int) : evalF (C63 fuel) fuel A29 [.agg [(.ro false (.pr (.int .i64) (.pr (.int .i64) .nil)) x1 x2), (.ro false (.pr (.sl (.pr (.int .i64) (.pr (.int .i64) .nil))) .nil) x3 x4)], .v (.i .i64 x5), .v (.i .i64 x6), .v (.i .i64 x7)] = ob (F29 fuel x1 x2 x3 x4 x5 x6 x7) fun t => some [.v (.b t)] := by
  rw [walk29, ← f29]
  simp only [D29, t29v1, g29v2, g29v3]
def O29 (fuel : Nat) : Ora where
  o := fun args {ρ} K =>
    wc args fun a1 l2 =>
    wagg a1 fun l3 =>
    wc l3 fun c4 l5 =>
    wL (.pr (.int .i64) (.pr (.int .i64) .nil)) c4 fun y6 y7 =>
    wc l5 fun c9 l10 =>
    wL (.pr (.sl (.pr (.int .i64) (.pr (.int .i64) .nil))) .nil) c9 fun y11 y12 =>
    wn l10 <|
    wc l2 fun a14 l15 =>
    wv a14 fun c16 =>
    wI .i64 c16 fun y17 =>
    wc l15 fun a19 l20 =>
    wv a19 fun c21 =>
    wI .i64 c21 fun y22 =>
    wc l20 fun a24 l25 =>
    wv a24 fun c26 =>
    wI .i64 c26 fun y27 =>
    wn l25 <|
    (ob (F29 fuel y6 y7 y11 y12 y17 y22 y27) fun t => K [.v (.b t)])
  nat := fun args {ρ} K => by
    simp only [bind_wc, bind_wn, bind_wv, bind_wagg, bind_wI, bind_wB, bind_wS, bind_wL, bind_wP, bind_wFn, bind_ob, Option.bind_some]
theorem d29 {P : Program} (fuel : Nat) (hmix : P.follows .mixedOrders = true) (hC : Sound P (C63 fuel)) (hF : FFits P 29 A29) (args res : List A) (h : (O29 fuel).o args some = some res) : Den P 29 args res := by
  obtain ⟨a1, l2, rfl, z0⟩ := inv_wc h
  obtain ⟨l3, rfl, z1⟩ := inv_wagg z0
  obtain ⟨c4, l5, rfl, z2⟩ := inv_wc z1
  obtain ⟨y6, y7, h8, z3⟩ := inv_wL z2
  obtain ⟨c9, l10, rfl, z4⟩ := inv_wc z3
  obtain ⟨y11, y12, h13, z5⟩ := inv_wL z4
  obtain ⟨hn, z6⟩ := inv_wn z5
  cases hn
  obtain ⟨a14, l15, rfl, z7⟩ := inv_wc z6
  obtain ⟨c16, rfl, z8⟩ := inv_wv z7
  obtain ⟨y17, h18, z9⟩ := inv_wI z8
  obtain ⟨a19, l20, rfl, z10⟩ := inv_wc z9
  obtain ⟨c21, rfl, z11⟩ := inv_wv z10
  obtain ⟨y22, h23, z12⟩ := inv_wI z11
  obtain ⟨a24, l25, rfl, z13⟩ := inv_wc z12
  obtain ⟨c26, rfl, z14⟩ := inv_wv z13
  obtain ⟨y27, h28, z15⟩ := inv_wI z14
  obtain ⟨hn, z16⟩ := inv_wn z15
  cases hn
  exact Den.weaken (.cons (WkA.agg (.cons h8 (.cons h13 .nil))) (.cons (WkA.v (Wk.i h18)) (.cons (WkA.v (Wk.i h23)) (.cons (WkA.v (Wk.i h28)) .nil)))) (evalF_sound hmix hC hF ((e29 fuel y6 y7 y11 y12 y17 y22 y27).trans z16))
def C64 (fuel : Nat) : Oracle := (C63 fuel).add 29 (fun _ => true) (O29 fuel)
def A72v1 : AC := (.seq (.block 1
  (.seq (.region 4 [o1 14 (.indexAddr 75 3 1 (tm 10) (tm 12)), o1 15 (.load 3 none (tm 14)), o1 7 (.assign (tm 15))] 0 none) []
    (.region 5 [mv 16 4, mv 17 7, o1 18 (.mm false [(tm 16), (tm 17)] [3, 3]), mv 19 5, mv 20 7, o1 21 (.mm true [(tm 19), (tm 20)] [3, 3]), o1 4 (.assign (tm 18)), o1 5 (.assign (tm 21))] 0 none))) []
  (.region 6 [o1 22 (.binOp .add 3 (tm 12) (ic 1) 3), mv 12 22] 0 none))
def A72v2 : AC := (.seq (.region 3 [o1 13 (.binOp .lss 3 (tm 12) (tm 11) 3)] 0 none) []
  (.seq (.cond (tm 13)
  .skip
  (.exit 0 (rl 0 4 (rl 6 19 [])))) []
  A72v1))
def A72v3 : AC := (.seq (.region 7 [mv 23 4, mv 24 5, o1 4 (.assign (tm 23)), o1 5 (.assign (tm 24))] 0 none) []
  (.ret (rl 0 4 (rl 6 19 []))))
def A72 : AF := ⟨25, [.tmp 4, .tmp 5],
  (.seq (.region 0 [o1 4 (.assign (ic 0)), o1 5 (.assign (ic 0))] 0 none) []
  (.seq (.region 1 [mv 8 0, mv 9 0, o1 4 (.assign (tm 8)), o1 5 (.assign (tm 9))] 0 none) []
  (.seq (.seq (.region 2 [mv 10 1, o1 11 (.len 75 false (tm 10)), o1 12 (.move (ic 0))] 0 none) []
  (.block 0
  (.loop [] (rl 0 4 (rl 6 4 (rl 13 12 [])))
    A72v2))) (7 :: (rl 10 13 []))
  A72v3)))⟩
def B72v1 (C : Oracle) (fuel : Nat) {ρ : Type} : St → (Ex → St → Option ρ) → Option ρ := fun st k => evalC C fuel A72v2 st k
def N72v1 : St → Option St := fun s => s.norm (rl 0 4 (rl 6 4 (rl 13 12 []))) 0
def s72v0 (x8 : Int) (x9 : Int) (x10 : Nat) (x11 : Nat → Nat → CV) (x12 : Int) (x13 : Int) : St := ⟨(us 4 (.x (.c (.i .i64 x8)) :: .x (.c (.i .i64 x9)) :: (us 4 (.x (.c (.ro false (.pr (.int .i64) .nil) x10 x11)) :: .x (.c (.i .i64 x12)) :: .x (.c (.i .i64 x13)) :: (us 12 []))))), []⟩
def s72v1 (x14 : Int) (x15 : Int) : St := ⟨(us 4 (.x (.c (.i .i64 x14)) :: .x (.c (.i .i64 x15)) :: (us 19 []))), []⟩
def L72v1 {ρ : Type} (fuel : Nat) (x10 : Nat) (x11 : Nat → Nat → CV) (x12 : Int) : Nat → Int → Int → Int → (Int → Int → Option ρ) → Option ρ
  | 0, _, _, _, _ => none
  | m + 1, x8, x9, x13, k0 =>
    (bif (decide (x13 < x12)) then (bif (inb x13 x10) then (L72v1 fuel x10 x11 x12 m (if (CV.int (x11 (Int.toNat x13) 0)) < x8 then (CV.int (x11 (Int.toNat x13) 0)) else x8) (if (CV.int (x11 (Int.toNat x13) 0)) > x9 then (CV.int (x11 (Int.toNat x13) 0)) else x9) (w64 (x13 + 1)) k0) else none) else (k0 x8 x9))
theorem nl72v1 {ρ σ : Type} (fuel : Nat) (x10 : Nat) (x11 : Nat → Nat → CV) (x12 : Int) (g : ρ → Option σ) : ∀ (m : Nat) (x8 : Int) (x9 : Int) (x13 : Int) (k0 : Int → Int → Option ρ), ob (L72v1 fuel x10 x11 x12 m x8 x9 x13 k0) g = L72v1 fuel x10 x11 x12 m x8 x9 x13 (fun x14 x15 => ob (k0 x14 x15) g)
  | 0, _, _, _, _ => rfl
  | m + 1, x8, x9, x13, k0 => by
    simp only [L72v1, ob_bif, ob_ob, ob_none, nl72v1 fuel x10 x11 x12 g m]
theorem r72v1 (fuel : Nat) (m : Nat) {ρ : Type} (k : Ex → St → Option ρ) (x10 : Nat) (x11 : Nat → Nat → CV) (x12 : Int) (x8 : Int) (x9 : Int) (x13 : Int) :
    loopH (B72v1 (C64 fuel) fuel) N72v1 (m + 1) (s72v0 x8 x9 x10 x11 x12 x13) k =
    (bif (decide (x13 < x12)) then (bif (inb x13 x10) then (loopH (B72v1 (C64 fuel) fuel) N72v1 m (s72v0 (if (CV.int (x11 (Int.toNat x13) 0)) < x8 then (CV.int (x11 (Int.toNat x13) 0)) else x8) (if (CV.int (x11 (Int.toNat x13) 0)) > x9 then (CV.int (x11 (Int.toNat x13) 0)) else x9) x10 x11 x12 (w64 (x13 + 1))) k) else none) else (k (.exit 0) (s72v1 x8 x9))) := by kernel_rfl
theorem q72v1 (fuel : Nat) (x10 : Nat) (x11 : Nat → Nat → CV) (x12 : Int) {ρ : Type} (k : Ex → St → Option ρ) : ∀ (m : Nat) (x8 : Int) (x9 : Int) (x13 : Int),
    loopH (B72v1 (C64 fuel) fuel) N72v1 m (s72v0 x8 x9 x10 x11 x12 x13) k = L72v1 fuel x10 x11 x12 m x8 x9 x13 (fun x14 x15 => k (.exit 0) (s72v1 x14 x15))
  | 0, _, _, _ => rfl
  | m + 1, x8, x9, x13 => by
    rw [r72v1]
    simp only [L72v1, q72v1 fuel x10 x11 x12 k m]
def D72 {ρ : Type} (fuel : Nat) (x1 : Int) (x2 : Nat) (x3 : Nat → Nat → CV) (k : (Int × Int) → Option ρ) : Option ρ :=
  (L72v1 fuel x2 x3 (Int.ofNat x2) fuel x1 x1 0
    (fun x16 x17 => (k (x16, x17))))
def F72 (fuel : Nat) (x1 : Int) (x2 : Nat) (x3 : Nat → Nat → CV) : Option (Int × Int) := D72 fuel x1 x2 x3 some
theorem n72 {ρ σ : Type} (fuel : Nat) (x1 : Int) (x2 : Nat) (x3 : Nat → Nat → CV) (k : (Int × Int) → Option ρ) (g : ρ → Option σ) : ob (D72 fuel x1 x2 x3 k) g = D72 fuel x1 x2 x3 fun t => ob (k t) g := by
  simp only [D72, ob_bif, ob_ob, ob_none, nl72v1]
theorem f72 {ρ : Type} (fuel : Nat) (x1 : Int) (x2 : Nat) (x3 : Nat → Nat → CV) (k : (Int × Int) → Option ρ) : D72 fuel x1 x2 x3 k = ob (F72 fuel x1 x2 x3) k := by
  unfold F72
  rw [n72]
  simp only [ob_some]
def s72v2 (x1 : Int) (x2 : Nat) (x3 : Nat → Nat → CV) : St := ⟨[.x (.c (.i .i64 x1)), .x (.c (.ro false (.pr (.int .i64) .nil) x2 x3)), .undef, .undef, .x (.c (.i .i64 x1)), .x (.c (.i .i64 x1)), .undef, .undef, .x (.c (.i .i64 x1)), .x (.c (.i .i64 x1)), .x (.c (.ro false (.pr (.int .i64) .nil) x2 x3)), .x (.c (.i .i64 (Int.ofNat x2))), .x (.c (.i .i64 0)), .undef, .undef, .undef, .undef, .undef, .undef, .undef, .undef, .undef, .undef, .undef, .undef], []⟩
theorem walk72 (fuel : Nat) (x1 : Int) (x2 : Nat) (x3 : Nat → Nat → CV) :
    evalF (C64 fuel) fuel A72 [.v (.i .i64 x1), .v (.ro false (.pr (.int .i64) .nil) x2 x3)] =
    (loopN (B72v1 (C64 fuel) fuel) N72v1 fuel (s72v2 x1 x2 x3) (kBlk 0 (kSeq (C64 fuel) fuel (7 :: (rl 10 13 [])) A72v3 (finish A72)))) := by kernel_rfl
theorem t72v1 (fuel : Nat) {ρ : Type} (k : Ex → St → Option ρ) (x1 : Int) (x2 : Nat) (x3 : Nat → Nat → CV) :
    loopN (B72v1 (C64 fuel) fuel) N72v1 fuel (s72v2 x1 x2 x3) k =
    L72v1 fuel x2 x3 (Int.ofNat x2) fuel x1 x1 0 (fun x14 x15 => k (.exit 0) (s72v1 x14 x15)) :=
  (loopN_at (st' := (s72v0 x1 x1 x2 x3 (Int.ofNat x2) 0)) (by kernel_rfl)).trans (q72v1 fuel x2 x3 (Int.ofNat x2) k fuel x1 x1 0)
theorem g72v2 (fuel : Nat) (x16 : Int) (x17 : Int) :
    (kBlk 0 (kSeq (C64 fuel) fuel (7 :: (rl 10 13 [])) A72v3 (finish A72))) (.exit 0) (s72v1 x16 x17) =
    (some [.v (.i .i64 x16), .v (.i .i64 x17)]) := by kernel_rfl
theorem e72 (fuel : Nat) (x1 : Int) (x2 : Nat) (x3 : Nat → Nat → CV) : evalF (C64 fuel) fuel A72 [.v (.i .i64 x1), .v (.ro false (.pr (.int .i64) .nil) x2 x3)] = ob (F72 fuel x1 x2 x3) fun t => some [.v (.i .i64 t.1), .v (.i .i64 t.2)] := by
  rw [walk72, ← f72]
  simp only [D72, t72v1, g72v2]
def O72 (fuel : Nat) : Ora where
  o := fun args {ρ} K =>
    wc args fun a1 l2 =>
    wv a1 fun c3 =>
    wI .i64 c3 fun y4 =>
    wc l2 fun a6 l7 =>
    wv a6 fun c8 =>
    wL (.pr (.int .i64) .nil) c8 fun y9 y10 =>
    wn l7 <|
    (ob (F72 fuel y4 y9 y10) fun t => K [.v (.i .i64 t.1), .v (.i .i64 t.2)])
  nat := fun args {ρ} K => by
    simp only [bind_wc, bind_wn, bind_wv, bind_wagg, bind_wI, bind_wB, bind_wS, bind_wL, bind_wP, bind_wFn, bind_ob, Option.bind_some]
theorem d72 {P : Program} (fuel : Nat) (hmix : P.follows .mixedOrders = true) (hC : Sound P (C64 fuel)) (hF : FFits P 72 A72) (args res : List A) (h : (O72 fuel).o args some = some res) : Den P 72 args res := by
  obtain ⟨a1, l2, rfl, z0⟩ := inv_wc h
  obtain ⟨c3, rfl, z1⟩ := inv_wv z0
  obtain ⟨y4, h5, z2⟩ := inv_wI z1
  obtain ⟨a6, l7, rfl, z3⟩ := inv_wc z2
  obtain ⟨c8, rfl, z4⟩ := inv_wv z3
  obtain ⟨y9, y10, h11, z5⟩ := inv_wL z4
  obtain ⟨hn, z6⟩ := inv_wn z5
  cases hn
  exact Den.weaken (.cons (WkA.v (Wk.i h5)) (.cons (WkA.v h11) .nil)) (evalF_sound hmix hC hF ((e72 fuel y4 y9 y10).trans z6))
def C65 (fuel : Nat) : Oracle := (C64 fuel).add 72 (fun _ => true) (O72 fuel)
def A46v1 : AC := (.seq (.block 1
  (.seq (.region 6 [o1 15 (.indexAddr 22 34 2 (tm 11) (tm 13)), o1 16 (.load 34 (some 2) (tm 15)), o1 6 (.alloc 0 34 [.c (.i .i64 0), .c (.i .i64 0)]), o0 (.store 34 2 (tm 6) (tm 16))] 1 none) []
    (.region 7 [mv 17 3, o1 18 (.fieldAddr 34 (tm 6) 0 0), o1 19 (.load 3 none (tm 18)), o1 20 (.buildSlice 0 75 3 (.pr (.int .i64) .nil) 1 [.c (.i .i64 0)] [(0, (tm 19))]), o1 21 (.append 1 75 3 (.pr (.int .i64) .nil) 8 (tm 17) (tm 20)), mv 22 4, o1 23 (.fieldAddr 34 (tm 6) 1 1), o1 24 (.load 3 none (tm 23)), o1 25 (.buildSlice 2 75 3 (.pr (.int .i64) .nil) 1 [.c (.i .i64 0)] [(0, (tm 24))]), o1 26 (.append 3 75 3 (.pr (.int .i64) .nil) 8 (tm 22) (tm 25)), o1 3 (.assign (tm 21)), o1 4 (.assign (tm 26))] 4 (some [[], [], [1], [1, 2], (rl 0 4 []), [], [], [6], [6, 7], (rl 0 9 []), (rl 0 10 []), (rl 0 11 [])])))) []
  (.region 8 [o1 27 (.binOp .add 3 (tm 13) (ic 1) 3), mv 13 27] 0 none))
def A46v2 : AC := (.seq (.region 5 [o1 14 (.binOp .lss 3 (tm 13) (tm 12) 3)] 0 none) []
  (.seq (.cond (tm 14)
  .skip
  (.exit 0 (0 :: 1 :: (rl 5 48 [])))) []
  A46v1))
def A46v3 : AC := (.seq (.region 9 [mv 29 3, o1 30 (.indexAddr 75 3 1 (tm 29) (ic 0)), o1 31 (.load 3 none (tm 30)), mv 32 3, o1 33 (.call 72 [(tm 31), (tm 32)] [3, 75] .snap), mv 28 33, o1 34 (.extract (tm 28) 0), o1 35 (.extract (tm 28) 1), o1 36 (.fieldAddr 36 (tm 2) 0 0), o1 37 (.fieldAddr 34 (tm 36) 0 0), o0 (.store 3 1 (tm 37) (tm 34)), o1 38 (.fieldAddr 36 (tm 2) 1 2), o1 39 (.fieldAddr 34 (tm 38) 0 0), o0 (.store 3 1 (tm 39) (tm 35))] 0 none) []
  (.seq (.region 10 [mv 41 4, o1 42 (.indexAddr 75 3 1 (tm 41) (ic 0)), o1 43 (.load 3 none (tm 42)), mv 44 4, o1 45 (.call 72 [(tm 43), (tm 44)] [3, 75] .snap), mv 40 45, o1 46 (.extract (tm 40) 0), o1 47 (.extract (tm 40) 1), o1 48 (.fieldAddr 36 (tm 2) 0 0), o1 49 (.fieldAddr 34 (tm 48) 1 1), o0 (.store 3 1 (tm 49) (tm 46)), o1 50 (.fieldAddr 36 (tm 2) 1 2), o1 51 (.fieldAddr 34 (tm 50) 1 1), o0 (.store 3 1 (tm 51) (tm 47))] 0 none) []
  (.seq (.region 11 [o1 52 (.load 36 (some 4) (tm 2)), o0 (.store 36 4 (tm 2) (tm 52))] 0 none) []
  (.ret (0 :: 1 :: (rl 3 50 []))))))
def A46v4 : AC := (.seq (.region 3 [o1 3 (.assign (.const (.slice none 0 0))), o1 4 (.assign (.const (.slice none 0 0)))] 0 none) []
  (.seq (.seq (.region 4 [mv 11 0, o1 12 (.len 22 false (tm 11)), o1 13 (.move (ic 0))] 0 none) []
  (.block 0
  (.loop [.slot 3 (.pr (.int .i64) .nil), .slot 4 (.pr (.int .i64) .nil)] (0 :: 1 :: (rl 5 6 (rl 14 39 [])))
    A46v2))) (6 :: (rl 11 17 []))
  A46v3))
def A46 : AF := ⟨53, [.cell 2 36 (some 4)],
  (.seq (.region 0 [o1 2 (.alloc 0 36 [.c (.i .i64 0), .c (.i .i64 0), .c (.i .i64 0), .c (.i .i64 0)])] 1 none) []
  (.seq (.seq (.region 1 [mv 7 0, o1 8 (.len 22 false (tm 7)), o1 9 (.binOp .eql 3 (tm 8) (ic 0) 3)] 0 none) []
  (.cond (tm 9)
  (.seq (.region 2 [o1 10 (.load 36 (some 4) (tm 2)), o0 (.store 36 4 (tm 2) (tm 10))] 0 none) []
    (.ret (0 :: 1 :: (rl 3 50 []))))
  .skip)) (rl 7 4 [])
  A46v4))⟩
def B46v1 (C : Oracle) (fuel : Nat) {ρ : Type} : St → (Ex → St → Option ρ) → Option ρ := fun st k => evalC C fuel A46v2 st k
def N46v1 : St → Option St := fun s => s.norm (0 :: 1 :: (rl 5 6 (rl 14 39 []))) 3
def s46v0 (x6 : Nat) (x7 : Nat) (x8 : Nat → Nat → CV) (x9 : Int) (x10 : Int) (x11 : Nat → Nat → CV) (x12 : Nat → Nat → CV) : St := ⟨(.u :: .u :: .x (.ptr 0 0) :: .x (.own 1 0 x6) :: .x (.own 2 0 x6) :: (us 6 (.x (.c (.ro false (.pr (.int .i64) (.pr (.int .i64) .nil)) x7 x8)) :: .x (.c (.i .i64 x9)) :: .x (.c (.i .i64 x10)) :: (us 39 [])))), [.box [(.c (.i .i64 0)), (.c (.i .i64 0)), (.c (.i .i64 0)), (.c (.i .i64 0))], .arr (.pr (.int .i64) .nil) x6 x11, .arr (.pr (.int .i64) .nil) x6 x12]⟩
def s46v1 (x13 : Nat) (x14 : Nat → Nat → CV) (x15 : Nat → Nat → CV) : St := ⟨(.u :: .u :: .x (.ptr 0 0) :: .x (.own 1 0 x13) :: .x (.own 2 0 x13) :: (us 48 [])), [.box [(.c (.i .i64 0)), (.c (.i .i64 0)), (.c (.i .i64 0)), (.c (.i .i64 0))], .arr (.pr (.int .i64) .nil) x13 x14, .arr (.pr (.int .i64) .nil) x13 x15]⟩
def L46v1 {ρ : Type} (fuel : Nat) (x7 : Nat) (x8 : Nat → Nat → CV) (x9 : Int) : Nat → Nat → Int → (Nat → Nat → CV) → (Nat → Nat → CV) → (Nat → (Nat → Nat → CV) → (Nat → Nat → CV) → Option ρ) → Option ρ
  | 0, _, _, _, _, _ => none
  | m + 1, x6, x10, x11, x12, k0 =>
    (bif (decide (x10 < x9)) then (bif (inb x10 x7) then (bif (Nat.ble (x6 + 1) 1073741824) then (bif (Nat.ble (x6 + 1) 1073741824) then (L46v1 fuel x7 x8 x9 m (x6 + 1) (w64 (x10 + 1)) (joinF x6 x11 (rowsF 1 [(.i .i64 (CV.int (x8 (Int.toNat x10) 0)))])) (joinF x6 x12 (rowsF 1 [(.i .i64 (CV.int (x8 (Int.toNat x10) 1)))])) k0) else none) else none) else none) else (k0 x6 x11 x12))
theorem nl46v1 {ρ σ : Type} (fuel : Nat) (x7 : Nat) (x8 : Nat → Nat → CV) (x9 : Int) (g : ρ → Option σ) : ∀ (m : Nat) (x6 : Nat) (x10 : Int) (x11 : Nat → Nat → CV) (x12 : Nat → Nat → CV) (k0 : Nat → (Nat → Nat → CV) → (Nat → Nat → CV) → Option ρ), ob (L46v1 fuel x7 x8 x9 m x6 x10 x11 x12 k0) g = L46v1 fuel x7 x8 x9 m x6 x10 x11 x12 (fun x13 x14 x15 => ob (k0 x13 x14 x15) g)
  | 0, _, _, _, _, _ => rfl
  | m + 1, x6, x10, x11, x12, k0 => by
    simp only [L46v1, ob_bif, ob_ob, ob_none, nl46v1 fuel x7 x8 x9 g m]
theorem r46v1 (fuel : Nat) (m : Nat) {ρ : Type} (k : Ex → St → Option ρ) (x7 : Nat) (x8 : Nat → Nat → CV) (x9 : Int) (x6 : Nat) (x10 : Int) (x11 : Nat → Nat → CV) (x12 : Nat → Nat → CV) :
    loopH (B46v1 (C65 fuel) fuel) N46v1 (m + 1) (s46v0 x6 x7 x8 x9 x10 x11 x12) k =
    (bif (decide (x10 < x9)) then (bif (inb x10 x7) then (bif (Nat.ble (x6 + 1) 1073741824) then (bif (Nat.ble (x6 + 1) 1073741824) then (loopH (B46v1 (C65 fuel) fuel) N46v1 m (s46v0 (x6 + 1) x7 x8 x9 (w64 (x10 + 1)) (joinF x6 x11 (rowsF 1 [(.i .i64 (CV.int (x8 (Int.toNat x10) 0)))])) (joinF x6 x12 (rowsF 1 [(.i .i64 (CV.int (x8 (Int.toNat x10) 1)))]))) k) else none) else none) else none) else (k (.exit 0) (s46v1 x6 x11 x12))) := by kernel_rfl
theorem q46v1 (fuel : Nat) (x7 : Nat) (x8 : Nat → Nat → CV) (x9 : Int) {ρ : Type} (k : Ex → St → Option ρ) : ∀ (m : Nat) (x6 : Nat) (x10 : Int) (x11 : Nat → Nat → CV) (x12 : Nat → Nat → CV),
    loopH (B46v1 (C65 fuel) fuel) N46v1 m (s46v0 x6 x7 x8 x9 x10 x11 x12) k = L46v1 fuel x7 x8 x9 m x6 x10 x11 x12 (fun x13 x14 x15 => k (.exit 0) (s46v1 x13 x14 x15))
  | 0, _, _, _, _ => rfl
  | m + 1, x6, x10, x11, x12 => by
    rw [r46v1]
    simp only [L46v1, q46v1 fuel x7 x8 x9 k m]
def D46 {ρ : Type} (fuel : Nat) (x1 : Nat) (x2 : Nat → Nat → CV) (k : (Int × Int × Int × Int) → Option ρ) : Option ρ :=
  (bif ((Int.ofNat x1) == 0) then (k (0, 0, 0, 0)) else (L46v1 fuel x1 x2 (Int.ofNat x1) fuel 0 0 (fun _ _ => .any) (fun _ _ => .any)
    (fun x16 x17 x18 => (bif (inb 0 x16) then (ob (F72 fuel (CV.int (x17 0 0)) x16 x17) fun x19 => (bif (inb 0 x16) then (ob (F72 fuel (CV.int (x18 0 0)) x16 x18) fun x20 => (k (x19.1, x20.1, x19.2, x20.2))) else none)) else none))))
def F46 (fuel : Nat) (x1 : Nat) (x2 : Nat → Nat → CV) : Option (Int × Int × Int × Int) := D46 fuel x1 x2 some
theorem n46 {ρ σ : Type} (fuel : Nat) (x1 : Nat) (x2 : Nat → Nat → CV) (k : (Int × Int × Int × Int) → Option ρ) (g : ρ → Option σ) : ob (D46 fuel x1 x2 k) g = D46 fuel x1 x2 fun t => ob (k t) g := by
  simp only [D46, ob_bif, ob_ob, ob_none, nl46v1]
theorem f46 {ρ : Type} (fuel : Nat) (x1 : Nat) (x2 : Nat → Nat → CV) (k : (Int × Int × Int × Int) → Option ρ) : D46 fuel x1 x2 k = ob (F46 fuel x1 x2) k := by
  unfold F46
  rw [n46]
  simp only [ob_some]
def s46v2 (x1 : Nat) (x2 : Nat → Nat → CV) : St := ⟨(.x (.c (.ro false (.pr (.int .i64) (.pr (.int .i64) .nil)) x1 x2)) :: .undef :: .x (.ptr 0 0) :: .x (.own 1 0 0) :: .x (.own 2 0 0) :: .undef :: .undef :: (us 4 [.x (.c (.ro false (.pr (.int .i64) (.pr (.int .i64) .nil)) x1 x2)), .x (.c (.i .i64 (Int.ofNat x1))), .x (.c (.i .i64 0)), .undef, .undef, .undef, .undef, .undef, .undef, .undef, .undef, .undef, .undef, .undef, .undef, .undef, .undef, .undef, .undef, .undef, .undef, .undef, .undef, .undef, .undef, .undef, .undef, .undef, .undef, .undef, .undef, .undef, .undef, .undef, .undef, .undef, .undef, .undef, .undef, .undef, .undef, .undef])), [.box [(.c (.i .i64 0)), (.c (.i .i64 0)), (.c (.i .i64 0)), (.c (.i .i64 0))], .arr (.pr (.int .i64) .nil) 0 (fun _ _ => .any), .arr (.pr (.int .i64) .nil) 0 (fun _ _ => .any)]⟩
theorem walk46 (fuel : Nat) (x1 : Nat) (x2 : Nat → Nat → CV) :
    evalF (C65 fuel) fuel A46 [.v (.ro false (.pr (.int .i64) (.pr (.int .i64) .nil)) x1 x2)] =
    (bif ((Int.ofNat x1) == 0) then (some [.agg [(.i .i64 0), (.i .i64 0), (.i .i64 0), (.i .i64 0)]]) else (loopN (B46v1 (C65 fuel) fuel) N46v1 fuel (s46v2 x1 x2) (kBlk 0 (kSeq (C65 fuel) fuel (6 :: (rl 11 17 [])) A46v3 (finish A46))))) := by kernel_rfl
theorem t46v1 (fuel : Nat) {ρ : Type} (k : Ex → St → Option ρ) (x1 : Nat) (x2 : Nat → Nat → CV) :
    loopN (B46v1 (C65 fuel) fuel) N46v1 fuel (s46v2 x1 x2) k =
    L46v1 fuel x1 x2 (Int.ofNat x1) fuel 0 0 (fun _ _ => .any) (fun _ _ => .any) (fun x13 x14 x15 => k (.exit 0) (s46v1 x13 x14 x15)) :=
  (loopN_at (st' := (s46v0 0 x1 x2 (Int.ofNat x1) 0 (fun _ _ => .any) (fun _ _ => .any))) (by kernel_rfl)).trans (q46v1 fuel x1 x2 (Int.ofNat x1) k fuel 0 0 (fun _ _ => .any) (fun _ _ => .any))
theorem g46v2 (fuel : Nat) (x16 : Nat) (x17 : Nat → Nat → CV) (x18 : Nat → Nat → CV) :
    (kBlk 0 (kSeq (C65 fuel) fuel (6 :: (rl 11 17 [])) A46v3 (finish A46))) (.exit 0) (s46v1 x16 x17 x18) =
    (bif (inb 0 x16) then (ob (F72 fuel (CV.int (x17 0 0)) x16 x17) fun x19 => (bif (inb 0 x16) then (ob (F72 fuel (CV.int (x18 0 0)) x16 x18) fun x20 => (some [.agg [(.i .i64 x19.1), (.i .i64 x20.1), (.i .i64 x19.2), (.i .i64 x20.2)]])) else none)) else none) := by kernel_rfl
theorem e46 (fuel : Nat) (x1 : Nat) (x2 : Nat → Nat → CV) : evalF (C65 fuel) fuel A46 [.v (.ro false (.pr (.int .i64) (.pr (.int .i64) .nil)) x1 x2)] = ob (F46 fuel x1 x2) fun t => some [.agg [(.i .i64 t.1), (.i .i64 t.2.1), (.i .i64 t.2.2.1), (.i .i64 t.2.2.2)]] := by
  rw [walk46, ← f46]
  simp only [D46, t46v1, g46v2]
def O46 (fuel : Nat) : Ora where
  o := fun args {ρ} K =>
    wc args fun a1 l2 =>
    wv a1 fun c3 =>
    wL (.pr (.int .i64) (.pr (.int .i64) .nil)) c3 fun y4 y5 =>
    wn l2 <|
    (ob (F46 fuel y4 y5) fun t => K [.agg [(.i .i64 t.1), (.i .i64 t.2.1), (.i .i64 t.2.2.1), (.i .i64 t.2.2.2)]])
  nat := fun args {ρ} K => by
    simp only [bind_wc, bind_wn, bind_wv, bind_wagg, bind_wI, bind_wB, bind_wS, bind_wL, bind_wP, bind_wFn, bind_ob, Option.bind_some]
theorem d46 {P : Program} (fuel : Nat) (hmix : P.follows .mixedOrders = true) (hC : Sound P (C65 fuel)) (hF : FFits P 46 A46) (args res : List A) (h : (O46 fuel).o args some = some res) : Den P 46 args res := by
  obtain ⟨a1, l2, rfl, z0⟩ := inv_wc h
  obtain ⟨c3, rfl, z1⟩ := inv_wv z0
  obtain ⟨y4, y5, h6, z2⟩ := inv_wL z1
  obtain ⟨hn, z3⟩ := inv_wn z2
  cases hn
  exact Den.weaken (.cons (WkA.v h6) .nil) (evalF_sound hmix hC hF ((e46 fuel y4 y5).trans z3))
def C66 (fuel : Nat) : Oracle := (C65 fuel).add 46 (fun _ => true) (O46 fuel)
def A20 : AF := ⟨6, [.cell 2 36 (some 4)],
  (.seq (.region 0 [o1 1 (.box 0 25 (tm 0)), o1 2 (.alloc 1 36 [.c (.i .i64 0), .c (.i .i64 0), .c (.i .i64 0), .c (.i .i64 0)])] 2 none) []
  (.seq (.region 1 [o1 3 (.fieldAddr 25 (tm 1) 0 0), o1 4 (.load 22 none (tm 3)), o1 5 (.call 46 [(tm 4)] [22] .snap), o0 (.store 36 4 (tm 2) (tm 5))] 0 none) []
  (.ret [0, 1, 3, 4, 5])))⟩
def D20 {ρ : Type} (fuel : Nat) (x1 : Nat) (x2 : Nat → Nat → CV) (x3 : Nat) (x4 : Nat → Nat → CV) (k : (Int × Int × Int × Int) → Option ρ) : Option ρ :=
  (ob (F46 fuel x1 x2) fun x5 => (k (x5.1, x5.2.1, x5.2.2.1, x5.2.2.2)))
def F20 (fuel : Nat) (x1 : Nat) (x2 : Nat → Nat → CV) (x3 : Nat) (x4 : Nat → Nat → CV) : Option (Int × Int × Int × Int) := D20 fuel x1 x2 x3 x4 some
theorem n20 {ρ σ : Type} (fuel : Nat) (x1 : Nat) (x2 : Nat → Nat → CV) (x3 : Nat) (x4 : Nat → Nat → CV) (k : (Int × Int × Int × Int) → Option ρ) (g : ρ → Option σ) : ob (D20 fuel x1 x2 x3 x4 k) g = D20 fuel x1 x2 x3 x4 fun t => ob (k t) g := by
  simp only [D20, ob_bif, ob_ob, ob_none]
theorem f20 {ρ : Type} (fuel : Nat) (x1 : Nat) (x2 : Nat → Nat → CV) (x3 : Nat) (x4 : Nat → Nat → CV) (k : (Int × Int × Int × Int) → Option ρ) : D20 fuel x1 x2 x3 x4 k = ob (F20 fuel x1 x2 x3 x4) k := by
  unfold F20
  rw [n20]
  simp only [ob_some]
theorem walk20 (fuel : Nat) (x1 : Nat) (x2 : Nat → Nat → CV) (x3 : Nat) (x4 : Nat → Nat → CV) :
    evalF (C66 fuel) fuel A20 [.agg [(.ro false (.pr (.int .i64) (.pr (.int .i64) .nil)) x1 x2), (.ro false (.pr (.sl (.pr (.int .i64) (.pr (.int .i64) .nil))) .nil) x3 x4)]] =
    (ob (F46 fuel x1 x2) fun x5 => (some [.agg [(.i .i64 x5.1), (.i .i64 x5.2.1), (.i .i64 x5.2.2.1), (.i .i64 x5.2.2.2)]])) := by kernel_rfl
theorem e20 (fuel : Nat) (x1 : Nat) (x2 : Nat → Nat → CV) (x3 : Nat) (x4 : Nat → Nat → CV) : evalF (C66 fuel) fuel A20 [.agg [(.ro false (.pr (.int .i64) (.pr (.int .i64) .nil)) x1 x2), (.ro false (.pr (.sl (.pr (.int .i64) (.pr (.int .i64) .nil))) .nil) x3 x4)]] = ob (F20 fuel x1 x2 x3 x4) fun t => some [.agg [(.i .i64 t.1), (.i .i64 t.2.1), (.i .i64 t.2.2.1), (.i .i64 t.2.2.2)]] := by
  rw [walk20, ← f20]
  simp only [D20]
def O20 (fuel : Nat) : Ora where
  o := fun args {ρ} K =>
    wc args fun a1 l2 =>
    wagg a1 fun l3 =>
    wc l3 fun c4 l5 =>
    wL (.pr (.int .i64) (.pr (.int .i64) .nil)) c4 fun y6 y7 =>
    wc l5 fun c9 l10 =>
    wL (.pr (.sl (.pr (.int .i64) (.pr (.int .i64) .nil))) .nil) c9 fun y11 y12 =>
    wn l10 <|
    wn l2 <|
    (ob (F20 fuel y6 y7 y11 y12) fun t => K [.agg [(.i .i64 t.1), (.i .i64 t.2.1), (.i .i64 t.2.2.1), (.i .i64 t.2.2.2)]])
  nat := fun args {ρ} K => by
    simp only [bind_wc, bind_wn, bind_wv, bind_wagg, bind_wI, bind_wB, bind_wS, bind_wL, bind_wP, bind_wFn, bind_ob, Option.bind_some]
theorem d20 {P : Program} (fuel : Nat) (hmix : P.follows .mixedOrders = true) (hC : Sound P (C66 fuel)) (hF : FFits P 20 A20) (args res : List A) (h : (O20 fuel).o args some = some res) : Den P 20 args res := by
  obtain ⟨a1, l2, rfl, z0⟩ := inv_wc h
  obtain ⟨l3, rfl, z1⟩ := inv_wagg z0
  obtain ⟨c4, l5, rfl, z2⟩ := inv_wc z1
  obtain ⟨y6, y7, h8, z3⟩ := inv_wL z2
  obtain ⟨c9, l10, rfl, z4⟩ := inv_wc z3
  obtain ⟨y11, y12, h13, z5⟩ := inv_wL z4
  obtain ⟨hn, z6⟩ := inv_wn z5
  cases hn
  obtain ⟨hn, z7⟩ := inv_wn z6
  cases hn
  exact Den.weaken (.cons (WkA.agg (.cons h8 (.cons h13 .nil))) .nil) (evalF_sound hmix hC hF ((e20 fuel y6 y7 y11 y12).trans z7))
def C67 (fuel : Nat) : Oracle := (C66 fuel).add 20 (fun _ => true) (O20 fuel)
end Go.Eng.R13
