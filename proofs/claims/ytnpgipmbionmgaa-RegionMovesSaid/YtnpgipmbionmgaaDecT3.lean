/-
  The functions of the program, run on symbols; printed by decomp.py.
-/
import Derived.Test.YtnpgipmbionmgaaDecT2
set_option linter.all false
set_option maxRecDepth 1000000
set_option maxHeartbeats 4000000
namespace Go.Eng.R13
open Go Go.RowKit Go.Eng
/-- shipyard/shipyardref13.Move -/
def A26v1 : AC := (.seq (.block 3
  (.region 9 [
    ⟨(some 41), .move (.tmp 6), none⟩,
    ⟨(some 42), .move (.tmp 41), none⟩,
    ⟨(some 43), .move (.tmp 5), (some (42, false))⟩,
    ⟨(some 44), .move (.tmp 7), (some (42, false))⟩,
    ⟨(some 45), .indexAddr 23 22 1 (.tmp 43) (.tmp 44), (some (42, false))⟩,
    ⟨(some 46), .load 22 none (.tmp 45), (some (42, false))⟩,
    ⟨(some 47), .move (.tmp 8), (some (42, false))⟩,
    ⟨(some 48), .indexAddr 22 34 2 (.tmp 46) (.tmp 47), (some (42, false))⟩,
    ⟨(some 49), .load 34 (some 2) (.tmp 48), (some (42, false))⟩,
    ⟨(some 50), .call 53 [(.tmp 49)] [34] .snap, (some (42, false))⟩,
    ⟨(some 51), .pick (.tmp 42) (.const (.bool true)) (.tmp 50), none⟩,
    ⟨(some 6), .assign (.tmp 51), none⟩] 0 none)) []
  (.region 8 [
  ⟨(some 39), .move (.tmp 8), none⟩,
  ⟨(some 40), .binOp .add 3 (.tmp 39) (.const (.int .i64 1)) 3, none⟩,
  ⟨(some 8), .assign (.tmp 40), none⟩] 0 none))
def A26v2 : AC := (.seq (.seq (.region 7 [
  ⟨(some 32), .move (.tmp 8), none⟩,
  ⟨(some 33), .move (.tmp 5), none⟩,
  ⟨(some 34), .move (.tmp 7), none⟩,
  ⟨(some 35), .indexAddr 23 22 1 (.tmp 33) (.tmp 34), none⟩,
  ⟨(some 36), .load 22 none (.tmp 35), none⟩,
  ⟨(some 37), .len 22 false (.tmp 36), none⟩,
  ⟨(some 38), .binOp .lss 3 (.tmp 32) (.tmp 37) 3, none⟩] 0 none) []
  (.cond (.tmp 38)
  .skip
  (.exit 2 [0, 1, 8, 9, 10, 11, 12, 13, 14, 15, 16, 17, 18, 19, 20, 21, 22, 23, 24, 25, 26, 27, 28, 29, 30, 31, 32, 33, 34, 35, 36, 37, 38, 39, 40, 41, 42, 43, 44, 45, 46, 47, 48, 49, 50, 51, 52, 53, 54, 55, 56, 57, 58, 59, 60, 61, 62, 63, 64, 65, 66, 67, 68, 69, 70, 71, 72, 73, 74, 75, 76, 77, 78]))) [32, 33, 34, 35, 36, 37, 38]
  A26v1)
def A26v3 : AC := (.region 5 [
  ⟨(some 30), .move (.tmp 7), none⟩,
  ⟨(some 31), .binOp .add 3 (.tmp 30) (.const (.int .i64 1)) 3, none⟩,
  ⟨(some 7), .assign (.tmp 31), none⟩] 0 none)
def A26v4 : AC := (.seq (.block 1
  (.seq (.region 6 [
    ⟨(some 8), .assign (.const (.int .i64 0)), none⟩] 0 none) []
    (.block 2
    (.loop [] [0, 1, 9, 10, 11, 12, 13, 14, 15, 16, 17, 18, 19, 20, 21, 22, 23, 24, 25, 26, 27, 28, 29, 30, 31, 32, 33, 34, 35, 36, 37, 38, 39, 40, 41, 42, 43, 44, 45, 46, 47, 48, 49, 50, 51, 52, 53, 54, 55, 56, 57, 58, 59, 60, 61, 62, 63, 64, 65, 66, 67, 68, 69, 70, 71, 72, 73, 74, 75, 76, 77, 78]
      A26v2)))) [8, 32, 33, 34, 35, 36, 37, 38, 39, 40, 41, 42, 43, 44, 45, 46, 47, 48, 49, 50, 51]
  A26v3)
def A26v5 : AC := (.seq (.seq (.region 4 [
  ⟨(some 26), .move (.tmp 7), none⟩,
  ⟨(some 27), .move (.tmp 5), none⟩,
  ⟨(some 28), .len 23 false (.tmp 27), none⟩,
  ⟨(some 29), .binOp .lss 3 (.tmp 26) (.tmp 28) 3, none⟩] 0 none) []
  (.cond (.tmp 29)
  .skip
  (.exit 0 [0, 1, 5, 7, 8, 9, 10, 11, 12, 13, 14, 15, 16, 17, 18, 19, 20, 21, 22, 23, 24, 25, 26, 27, 28, 29, 30, 31, 32, 33, 34, 35, 36, 37, 38, 39, 40, 41, 42, 43, 44, 45, 46, 47, 48, 49, 50, 51, 52, 53, 54, 55, 56, 57, 58, 59, 60, 61, 62, 63, 64, 65, 66, 67, 68, 69, 70, 71, 72, 73, 74, 75, 76, 77, 78]))) [26, 27, 28, 29]
  A26v4)
def A26v6 : AC := (.seq (.block 5
  (.region 16 [
    ⟨(some 66), .fieldAddr 25 (.tmp 9) 1 1, none⟩,
    ⟨(some 67), .load 23 none (.tmp 66), none⟩,
    ⟨(some 68), .fieldAddr 25 (.tmp 2) 1 1, none⟩,
    ⟨(some 69), .load 23 none (.tmp 68), none⟩,
    ⟨(some 70), .move (.tmp 10), none⟩,
    ⟨(some 71), .indexAddr 23 22 1 (.tmp 69) (.tmp 70), none⟩,
    ⟨(some 72), .load 22 none (.tmp 71), none⟩,
    ⟨(some 73), .load 41 (some 5) (.tmp 3), none⟩,
    ⟨(some 74), .call 54 [(.tmp 72), (.tmp 73)] [22, 41] .freeze, none⟩,
    ⟨(some 75), .buildSlice 0 23 22 (.pr (.sl (.pr (.int .i64) (.pr (.int .i64) .nil))) .nil) 1 [.c (.ro true .nil 0 (fun _ _ => .any))] [(0, (.tmp 74))], none⟩,
    ⟨(some 76), .append 1 23 22 (.pr (.sl (.pr (.int .i64) (.pr (.int .i64) .nil))) .nil) 24 (.tmp 67) (.tmp 75), none⟩,
    ⟨(some 77), .fieldAddr 25 (.tmp 9) 1 1, none⟩,
    ⟨none, .store 23 1 (.tmp 77) (.tmp 76), none⟩] 2 (some [[], [0], [], [2], [], [2, 3, 4], [2, 3, 4, 5], [], [2, 3, 4, 5, 6, 7], [2, 3, 4, 5, 6, 7, 8], [0, 1, 2, 3, 4, 5, 6, 7, 8, 9], [0, 1, 2, 3, 4, 5, 6, 7, 8, 9, 10], [0, 1, 2, 3, 4, 5, 6, 7, 8, 9, 10, 11]]))) []
  (.region 15 [
  ⟨(some 64), .move (.tmp 10), none⟩,
  ⟨(some 65), .binOp .add 3 (.tmp 64) (.const (.int .i64 1)) 3, none⟩,
  ⟨(some 10), .assign (.tmp 65), none⟩] 0 none))
def A26v7 : AC := (.seq (.seq (.region 14 [
  ⟨(some 59), .move (.tmp 10), none⟩,
  ⟨(some 60), .fieldAddr 25 (.tmp 2) 1 1, none⟩,
  ⟨(some 61), .load 23 none (.tmp 60), none⟩,
  ⟨(some 62), .len 23 false (.tmp 61), none⟩,
  ⟨(some 63), .binOp .lss 3 (.tmp 59) (.tmp 62) 3, none⟩] 0 none) []
  (.cond (.tmp 63)
  .skip
  (.exit 4 [0, 1, 2, 3, 5, 6, 7, 8, 10, 11, 12, 13, 14, 15, 16, 17, 18, 19, 20, 21, 22, 23, 24, 25, 26, 27, 28, 29, 30, 31, 32, 33, 34, 35, 36, 37, 38, 39, 40, 41, 42, 43, 44, 45, 46, 47, 48, 49, 50, 51, 52, 53, 54, 55, 56, 57, 58, 59, 60, 61, 62, 63, 64, 65, 66, 67, 68, 69, 70, 71, 72, 73, 74, 75, 76, 77, 78]))) [59, 60, 61, 62, 63]
  A26v6)
def A26v8 : AC := (.seq (.region 17 [
  ⟨(some 78), .load 25 (some 2) (.tmp 9), none⟩,
  ⟨none, .store 25 2 (.tmp 4) (.tmp 78), none⟩] 0 none) []
  (.ret [0, 1, 2, 3, 5, 6, 7, 8, 9, 10, 11, 12, 13, 14, 15, 16, 17, 18, 19, 20, 21, 22, 23, 24, 25, 26, 27, 28, 29, 30, 31, 32, 33, 34, 35, 36, 37, 38, 39, 40, 41, 42, 43, 44, 45, 46, 47, 48, 49, 50, 51, 52, 53, 54, 55, 56, 57, 58, 59, 60, 61, 62, 63, 64, 65, 66, 67, 68, 69, 70, 71, 72, 73, 74, 75, 76, 77, 78]))
def A26v9 : AC := (.seq (.region 12 [
  ⟨(some 54), .fieldAddr 25 (.tmp 2) 0 0, none⟩,
  ⟨(some 55), .load 22 none (.tmp 54), none⟩,
  ⟨(some 56), .load 41 (some 5) (.tmp 3), none⟩,
  ⟨(some 57), .call 54 [(.tmp 55), (.tmp 56)] [22, 41] .freeze, none⟩,
  ⟨(some 58), .build 25 [.c (.ro true .nil 0 (fun _ _ => .any)), .c (.ro true .nil 0 (fun _ _ => .any))] [(0, 1), (1, 1)] 0 [(0, (.tmp 57))], none⟩,
  ⟨(some 9), .alloc 0 25 [.c (.ro true .nil 0 (fun _ _ => .any)), .c (.ro true .nil 0 (fun _ _ => .any))], none⟩,
  ⟨none, .store 25 2 (.tmp 9) (.tmp 58), none⟩] 1 none) []
  (.seq (.seq (.region 13 [
  ⟨(some 10), .assign (.const (.int .i64 0)), none⟩] 0 none) []
  (.block 4
  (.loop [.cell 9 1 (.pr (.sl (.pr (.int .i64) (.pr (.int .i64) .nil))) .nil)] [0, 1, 5, 6, 7, 8, 11, 12, 13, 14, 15, 16, 17, 18, 19, 20, 21, 22, 23, 24, 25, 26, 27, 28, 29, 30, 31, 32, 33, 34, 35, 36, 37, 38, 39, 40, 41, 42, 43, 44, 45, 46, 47, 48, 49, 50, 51, 52, 53, 54, 55, 56, 57, 58, 59, 60, 61, 62, 63, 64, 65, 66, 67, 68, 69, 70, 71, 72, 73, 74, 75, 76, 77, 78]
    A26v7))) [10, 59, 60, 61, 62, 63, 64, 65, 66, 67, 68, 69, 70, 71, 72, 73, 74, 75, 76, 77]
  A26v8))
def A26v10 : AC := (.seq (.seq (.region 10 [
  ⟨(some 52), .move (.tmp 6), none⟩] 0 none) []
  (.cond (.tmp 52)
  (.seq (.region 11 [
    ⟨(some 53), .build 25 [.c (.ro true .nil 0 (fun _ _ => .any)), .c (.ro true .nil 0 (fun _ _ => .any))] [(0, 1), (1, 1)] 0 [], none⟩,
    ⟨none, .store 25 2 (.tmp 4) (.tmp 53), none⟩] 0 none) []
    (.ret [0, 1, 2, 3, 5, 6, 7, 8, 9, 10, 11, 12, 13, 14, 15, 16, 17, 18, 19, 20, 21, 22, 23, 24, 25, 26, 27, 28, 29, 30, 31, 32, 33, 34, 35, 36, 37, 38, 39, 40, 41, 42, 43, 44, 45, 46, 47, 48, 49, 50, 51, 52, 53, 54, 55, 56, 57, 58, 59, 60, 61, 62, 63, 64, 65, 66, 67, 68, 69, 70, 71, 72, 73, 74, 75, 76, 77, 78]))
  .skip)) [52, 53]
  A26v9)
def A26 : AF := ⟨79, [.cell 4 25 (some 2)],
  (.seq (.region 0 [
  ⟨(some 2), .box 0 25 (.tmp 0), none⟩,
  ⟨(some 3), .box 1 41 (.tmp 1), none⟩,
  ⟨(some 4), .alloc 2 25 [.c (.ro true .nil 0 (fun _ _ => .any)), .c (.ro true .nil 0 (fun _ _ => .any))], none⟩] 3 none) []
  (.seq (.region 1 [
  ⟨(some 11), .load 25 (some 2) (.tmp 2), none⟩,
  ⟨(some 12), .call 44 [(.tmp 11)] [25] .freeze, none⟩,
  ⟨(some 5), .assign (.tmp 12), none⟩] 0 none) []
  (.seq (.region 2 [
  ⟨(some 13), .fieldAddr 41 (.tmp 3) 2 3, none⟩,
  ⟨(some 14), .load 3 none (.tmp 13), none⟩,
  ⟨(some 15), .binOp .lss 3 (.tmp 14) (.const (.int .i64 0)) 3, none⟩,
  ⟨(some 16), .move (.tmp 15), none⟩,
  ⟨(some 17), .fieldAddr 41 (.tmp 3) 2 3, (some (16, false))⟩,
  ⟨(some 18), .load 3 none (.tmp 17), (some (16, false))⟩,
  ⟨(some 19), .binOp .gtr 3 (.tmp 18) (.const (.int .i64 3)) 3, (some (16, false))⟩,
  ⟨(some 20), .pick (.tmp 16) (.const (.bool true)) (.tmp 19), none⟩,
  ⟨(some 21), .move (.tmp 20), none⟩,
  ⟨(some 22), .fieldAddr 41 (.tmp 3) 1 1, (some (21, false))⟩,
  ⟨(some 23), .load 34 (some 2) (.tmp 22), (some (21, false))⟩,
  ⟨(some 24), .call 53 [(.tmp 23)] [34] .snap, (some (21, false))⟩,
  ⟨(some 25), .pick (.tmp 21) (.const (.bool true)) (.tmp 24), none⟩,
  ⟨(some 6), .assign (.tmp 25), none⟩] 0 none) []
  (.seq (.seq (.region 3 [
  ⟨(some 7), .assign (.const (.int .i64 0)), none⟩] 0 none) []
  (.block 0
  (.loop [] [0, 1, 8, 9, 10, 11, 12, 13, 14, 15, 16, 17, 18, 19, 20, 21, 22, 23, 24, 25, 26, 27, 28, 29, 30, 31, 32, 33, 34, 35, 36, 37, 38, 39, 40, 41, 42, 43, 44, 45, 46, 47, 48, 49, 50, 51, 52, 53, 54, 55, 56, 57, 58, 59, 60, 61, 62, 63, 64, 65, 66, 67, 68, 69, 70, 71, 72, 73, 74, 75, 76, 77, 78]
    A26v5))) [7, 8, 26, 27, 28, 29, 30, 31, 32, 33, 34, 35, 36, 37, 38, 39, 40, 41, 42, 43, 44, 45, 46, 47, 48, 49, 50, 51]
  A26v10))))⟩

def B26v2 (C : Oracle) (fuel : Nat) {ρ : Type} : St → (Ex → St → Option ρ) → Option ρ := fun st k => evalC C fuel A26v2 st k
def N26v2 : St → Option St := fun s => s.norm [0, 1, 9, 10, 11, 12, 13, 14, 15, 16, 17, 18, 19, 20, 21, 22, 23, 24, 25, 26, 27, 28, 29, 30, 31, 32, 33, 34, 35, 36, 37, 38, 39, 40, 41, 42, 43, 44, 45, 46, 47, 48, 49, 50, 51, 52, 53, 54, 55, 56, 57, 58, 59, 60, 61, 62, 63, 64, 65, 66, 67, 68, 69, 70, 71, 72, 73, 74, 75, 76, 77, 78] 3

def s26v0 (x80 : Nat) (x81 : Nat → Nat → CV) (x82 : Bool) (x83 : Int) (x84 : Int) (x85 : Nat) (x86 : Nat → Nat → CV) (x87 : Nat) (x88 : Nat → Nat → CV) (x89 : ByteArray) (x90 : Int) (x91 : Int) (x92 : Int) (x93 : Bool) : St := ⟨[.u, .u, .x (.ptr 0 0), .x (.ptr 1 0), .x (.ptr 2 0), .x (.c (.ro false (.pr (.sl (.pr (.int .i64) (.pr (.int .i64) .nil))) .nil) x80 x81)), .x (.c (.b x82)), .x (.c (.i .i64 x83)), .x (.c (.i .i64 x84)), .u, .u, .u, .u, .u, .u, .u, .u, .u, .u, .u, .u, .u, .u, .u, .u, .u, .u, .u, .u, .u, .u, .u, .u, .u, .u, .u, .u, .u, .u, .u, .u, .u, .u, .u, .u, .u, .u, .u, .u, .u, .u, .u, .u, .u, .u, .u, .u, .u, .u, .u, .u, .u, .u, .u, .u, .u, .u, .u, .u, .u, .u, .u, .u, .u, .u, .u, .u, .u, .u],
    [.box [(.c (.ro false (.pr (.int .i64) (.pr (.int .i64) .nil)) x85 x86)), (.c (.ro false (.pr (.sl (.pr (.int .i64) (.pr (.int .i64) .nil))) .nil) x87 x88))], .box [(.c (.s x89)), (.c (.i .i64 x90)), (.c (.i .i64 x91)), (.c (.i .i64 x92)), (.c (.b x93))], .box [(.c (.ro true .nil 0 (fun _ _ => .any))), (.c (.ro true .nil 0 (fun _ _ => .any)))]]⟩

def s26v1 (x80 : Nat) (x81 : Nat → Nat → CV) (x95 : Bool) (x83 : Int) (x85 : Nat) (x86 : Nat → Nat → CV) (x87 : Nat) (x88 : Nat → Nat → CV) (x89 : ByteArray) (x90 : Int) (x91 : Int) (x92 : Int) (x93 : Bool) : St := ⟨[.u, .u, .x (.ptr 0 0), .x (.ptr 1 0), .x (.ptr 2 0), .x (.c (.ro false (.pr (.sl (.pr (.int .i64) (.pr (.int .i64) .nil))) .nil) x80 x81)), .x (.c (.b x95)), .x (.c (.i .i64 x83)), .u, .u, .u, .u, .u, .u, .u, .u, .u, .u, .u, .u, .u, .u, .u, .u, .u, .u, .u, .u, .u, .u, .u, .u, .u, .u, .u, .u, .u, .u, .u, .u, .u, .u, .u, .u, .u, .u, .u, .u, .u, .u, .u, .u, .u, .u, .u, .u, .u, .u, .u, .u, .u, .u, .u, .u, .u, .u, .u, .u, .u, .u, .u, .u, .u, .u, .u, .u, .u, .u, .u],
    [.box [(.c (.ro false (.pr (.int .i64) (.pr (.int .i64) .nil)) x85 x86)), (.c (.ro false (.pr (.sl (.pr (.int .i64) (.pr (.int .i64) .nil))) .nil) x87 x88))], .box [(.c (.s x89)), (.c (.i .i64 x90)), (.c (.i .i64 x91)), (.c (.i .i64 x92)), (.c (.b x93))], .box [(.c (.ro true .nil 0 (fun _ _ => .any))), (.c (.ro true .nil 0 (fun _ _ => .any)))]]⟩

def L26v2 {ρ : Type} (fuel : Nat) (x80 : Nat) (x81 : Nat → Nat → CV) (x83 : Int) (x85 : Nat) (x86 : Nat → Nat → CV) (x87 : Nat) (x88 : Nat → Nat → CV) (x89 : ByteArray) (x90 : Int) (x91 : Int) (x92 : Int) (x93 : Bool) : Nat → Bool → Int → (Bool → Option ρ) → Option ρ
  | 0, _, _, _ => none
  | m + 1, x82, x84, k0 =>
    (bif (inb x83 x80) then (bif (decide (x84 < (Int.ofNat (CV.len (x81 (Int.toNat x83) 0))))) then (bif (x82 == false) then (bif (inb x83 x80) then (bif (inb x84 (CV.len (x81 (Int.toNat x83) 0))) then (ob (F53 fuel (CV.int ((CV.el (x81 (Int.toNat x83) 0)) (Int.toNat x84) 0)) (CV.int ((CV.el (x81 (Int.toNat x83) 0)) (Int.toNat x84) 1))) fun x94 => (L26v2 fuel x80 x81 x83 x85 x86 x87 x88 x89 x90 x91 x92 x93 m x94 (w64 (x84 + 1)) k0)) else none) else none) else (L26v2 fuel x80 x81 x83 x85 x86 x87 x88 x89 x90 x91 x92 x93 m true (w64 (x84 + 1)) k0)) else (k0 x82)) else none)

theorem nl26v2 {ρ σ : Type} (fuel : Nat) (x80 : Nat) (x81 : Nat → Nat → CV) (x83 : Int) (x85 : Nat) (x86 : Nat → Nat → CV) (x87 : Nat) (x88 : Nat → Nat → CV) (x89 : ByteArray) (x90 : Int) (x91 : Int) (x92 : Int) (x93 : Bool) (g : ρ → Option σ) : ∀ (m : Nat) (x82 : Bool) (x84 : Int) (k0 : Bool → Option ρ), ob (L26v2 fuel x80 x81 x83 x85 x86 x87 x88 x89 x90 x91 x92 x93 m x82 x84 k0) g = L26v2 fuel x80 x81 x83 x85 x86 x87 x88 x89 x90 x91 x92 x93 m x82 x84 (fun x95 => ob (k0 x95) g)
  | 0, _, _, _ => rfl
  | m + 1, x82, x84, k0 => by
    simp only [L26v2, ob_bif, ob_ob, ob_none, nl26v2 fuel x80 x81 x83 x85 x86 x87 x88 x89 x90 x91 x92 x93 g m]

theorem r26v2 (fuel : Nat) (m : Nat) {ρ : Type} (k : Ex → St → Option ρ) (x80 : Nat) (x81 : Nat → Nat → CV) (x83 : Int) (x85 : Nat) (x86 : Nat → Nat → CV) (x87 : Nat) (x88 : Nat → Nat → CV) (x89 : ByteArray) (x90 : Int) (x91 : Int) (x92 : Int) (x93 : Bool) (x82 : Bool) (x84 : Int) :
    loopH (B26v2 (C57 fuel) fuel) N26v2 (m + 1) (s26v0 x80 x81 x82 x83 x84 x85 x86 x87 x88 x89 x90 x91 x92 x93) k =
    (bif (inb x83 x80) then (bif (decide (x84 < (Int.ofNat (CV.len (x81 (Int.toNat x83) 0))))) then (bif (x82 == false) then (bif (inb x83 x80) then (bif (inb x84 (CV.len (x81 (Int.toNat x83) 0))) then (ob (F53 fuel (CV.int ((CV.el (x81 (Int.toNat x83) 0)) (Int.toNat x84) 0)) (CV.int ((CV.el (x81 (Int.toNat x83) 0)) (Int.toNat x84) 1))) fun x94 => (loopH (B26v2 (C57 fuel) fuel) N26v2 m (s26v0 x80 x81 x94 x83 (w64 (x84 + 1)) x85 x86 x87 x88 x89 x90 x91 x92 x93) k)) else none) else none) else (loopH (B26v2 (C57 fuel) fuel) N26v2 m (s26v0 x80 x81 true x83 (w64 (x84 + 1)) x85 x86 x87 x88 x89 x90 x91 x92 x93) k)) else (k (.exit 2) (s26v1 x80 x81 x82 x83 x85 x86 x87 x88 x89 x90 x91 x92 x93))) else none) := by kernel_rfl

theorem q26v2 (fuel : Nat) (x80 : Nat) (x81 : Nat → Nat → CV) (x83 : Int) (x85 : Nat) (x86 : Nat → Nat → CV) (x87 : Nat) (x88 : Nat → Nat → CV) (x89 : ByteArray) (x90 : Int) (x91 : Int) (x92 : Int) (x93 : Bool) {ρ : Type} (k : Ex → St → Option ρ) : ∀ (m : Nat) (x82 : Bool) (x84 : Int),
    loopH (B26v2 (C57 fuel) fuel) N26v2 m (s26v0 x80 x81 x82 x83 x84 x85 x86 x87 x88 x89 x90 x91 x92 x93) k = L26v2 fuel x80 x81 x83 x85 x86 x87 x88 x89 x90 x91 x92 x93 m x82 x84 (fun x95 => k (.exit 2) (s26v1 x80 x81 x95 x83 x85 x86 x87 x88 x89 x90 x91 x92 x93))
  | 0, _, _ => rfl
  | m + 1, x82, x84 => by
    rw [r26v2]
    simp only [L26v2, q26v2 fuel x80 x81 x83 x85 x86 x87 x88 x89 x90 x91 x92 x93 k m]

def B26v3 (C : Oracle) (fuel : Nat) {ρ : Type} : St → (Ex → St → Option ρ) → Option ρ := fun st k => evalC C fuel A26v5 st k
def N26v3 : St → Option St := fun s => s.norm [0, 1, 8, 9, 10, 11, 12, 13, 14, 15, 16, 17, 18, 19, 20, 21, 22, 23, 24, 25, 26, 27, 28, 29, 30, 31, 32, 33, 34, 35, 36, 37, 38, 39, 40, 41, 42, 43, 44, 45, 46, 47, 48, 49, 50, 51, 52, 53, 54, 55, 56, 57, 58, 59, 60, 61, 62, 63, 64, 65, 66, 67, 68, 69, 70, 71, 72, 73, 74, 75, 76, 77, 78] 3

def s26v2 (x53 : Nat) (x54 : Nat → Nat → CV) (x55 : Bool) (x56 : Int) (x57 : Nat) (x58 : Nat → Nat → CV) (x59 : Nat) (x60 : Nat → Nat → CV) (x61 : ByteArray) (x62 : Int) (x63 : Int) (x64 : Int) (x65 : Bool) : St := ⟨[.u, .u, .x (.ptr 0 0), .x (.ptr 1 0), .x (.ptr 2 0), .x (.c (.ro false (.pr (.sl (.pr (.int .i64) (.pr (.int .i64) .nil))) .nil) x53 x54)), .x (.c (.b x55)), .x (.c (.i .i64 x56)), .u, .u, .u, .u, .u, .u, .u, .u, .u, .u, .u, .u, .u, .u, .u, .u, .u, .u, .u, .u, .u, .u, .u, .u, .u, .u, .u, .u, .u, .u, .u, .u, .u, .u, .u, .u, .u, .u, .u, .u, .u, .u, .u, .u, .u, .u, .u, .u, .u, .u, .u, .u, .u, .u, .u, .u, .u, .u, .u, .u, .u, .u, .u, .u, .u, .u, .u, .u, .u, .u, .u],
    [.box [(.c (.ro false (.pr (.int .i64) (.pr (.int .i64) .nil)) x57 x58)), (.c (.ro false (.pr (.sl (.pr (.int .i64) (.pr (.int .i64) .nil))) .nil) x59 x60))], .box [(.c (.s x61)), (.c (.i .i64 x62)), (.c (.i .i64 x63)), (.c (.i .i64 x64)), (.c (.b x65))], .box [(.c (.ro true .nil 0 (fun _ _ => .any))), (.c (.ro true .nil 0 (fun _ _ => .any)))]]⟩

def s26v3 (x97 : Bool) (x57 : Nat) (x58 : Nat → Nat → CV) (x59 : Nat) (x60 : Nat → Nat → CV) (x61 : ByteArray) (x62 : Int) (x63 : Int) (x64 : Int) (x65 : Bool) : St := ⟨[.u, .u, .x (.ptr 0 0), .x (.ptr 1 0), .x (.ptr 2 0), .u, .x (.c (.b x97)), .u, .u, .u, .u, .u, .u, .u, .u, .u, .u, .u, .u, .u, .u, .u, .u, .u, .u, .u, .u, .u, .u, .u, .u, .u, .u, .u, .u, .u, .u, .u, .u, .u, .u, .u, .u, .u, .u, .u, .u, .u, .u, .u, .u, .u, .u, .u, .u, .u, .u, .u, .u, .u, .u, .u, .u, .u, .u, .u, .u, .u, .u, .u, .u, .u, .u, .u, .u, .u, .u, .u, .u],
    [.box [(.c (.ro false (.pr (.int .i64) (.pr (.int .i64) .nil)) x57 x58)), (.c (.ro false (.pr (.sl (.pr (.int .i64) (.pr (.int .i64) .nil))) .nil) x59 x60))], .box [(.c (.s x61)), (.c (.i .i64 x62)), (.c (.i .i64 x63)), (.c (.i .i64 x64)), (.c (.b x65))], .box [(.c (.ro true .nil 0 (fun _ _ => .any))), (.c (.ro true .nil 0 (fun _ _ => .any)))]]⟩

def L26v3 {ρ : Type} (fuel : Nat) (x53 : Nat) (x54 : Nat → Nat → CV) (x57 : Nat) (x58 : Nat → Nat → CV) (x59 : Nat) (x60 : Nat → Nat → CV) (x61 : ByteArray) (x62 : Int) (x63 : Int) (x64 : Int) (x65 : Bool) : Nat → Bool → Int → (Bool → Option ρ) → Option ρ
  | 0, _, _, _ => none
  | m + 1, x55, x56, k0 =>
    (bif (decide (x56 < (Int.ofNat x53))) then (L26v2 fuel x53 x54 x56 x57 x58 x59 x60 x61 x62 x63 x64 x65 fuel x55 0
    (fun x96 => (L26v3 fuel x53 x54 x57 x58 x59 x60 x61 x62 x63 x64 x65 m x96 (w64 (x56 + 1)) k0))) else (k0 x55))

theorem nl26v3 {ρ σ : Type} (fuel : Nat) (x53 : Nat) (x54 : Nat → Nat → CV) (x57 : Nat) (x58 : Nat → Nat → CV) (x59 : Nat) (x60 : Nat → Nat → CV) (x61 : ByteArray) (x62 : Int) (x63 : Int) (x64 : Int) (x65 : Bool) (g : ρ → Option σ) : ∀ (m : Nat) (x55 : Bool) (x56 : Int) (k0 : Bool → Option ρ), ob (L26v3 fuel x53 x54 x57 x58 x59 x60 x61 x62 x63 x64 x65 m x55 x56 k0) g = L26v3 fuel x53 x54 x57 x58 x59 x60 x61 x62 x63 x64 x65 m x55 x56 (fun x97 => ob (k0 x97) g)
  | 0, _, _, _ => rfl
  | m + 1, x55, x56, k0 => by
    simp only [L26v3, ob_bif, ob_ob, ob_none, nl26v3 fuel x53 x54 x57 x58 x59 x60 x61 x62 x63 x64 x65 g m, nl26v2]

def s26v4 (x53 : Nat) (x54 : Nat → Nat → CV) (x55 : Bool) (x56 : Int) (x57 : Nat) (x58 : Nat → Nat → CV) (x59 : Nat) (x60 : Nat → Nat → CV) (x61 : ByteArray) (x62 : Int) (x63 : Int) (x64 : Int) (x65 : Bool) : St := ⟨[.u, .u, .x (.ptr 0 0), .x (.ptr 1 0), .x (.ptr 2 0), .x (.c (.ro false (.pr (.sl (.pr (.int .i64) (.pr (.int .i64) .nil))) .nil) x53 x54)), .x (.c (.b x55)), .x (.c (.i .i64 x56)), .x (.c (.i .i64 0)), .u, .u, .u, .u, .u, .u, .u, .u, .u, .u, .u, .u, .u, .u, .u, .u, .u, .u, .u, .u, .u, .u, .u, .u, .u, .u, .u, .u, .u, .u, .u, .u, .u, .u, .u, .u, .u, .u, .u, .u, .u, .u, .u, .u, .u, .u, .u, .u, .u, .u, .u, .u, .u, .u, .u, .u, .u, .u, .u, .u, .u, .u, .u, .u, .u, .u, .u, .u, .u, .u],
    [.box [(.c (.ro false (.pr (.int .i64) (.pr (.int .i64) .nil)) x57 x58)), (.c (.ro false (.pr (.sl (.pr (.int .i64) (.pr (.int .i64) .nil))) .nil) x59 x60))], .box [(.c (.s x61)), (.c (.i .i64 x62)), (.c (.i .i64 x63)), (.c (.i .i64 x64)), (.c (.b x65))], .box [(.c (.ro true .nil 0 (fun _ _ => .any))), (.c (.ro true .nil 0 (fun _ _ => .any)))]]⟩

theorem r26v3 (fuel : Nat) (m : Nat) {ρ : Type} (k : Ex → St → Option ρ) (x53 : Nat) (x54 : Nat → Nat → CV) (x57 : Nat) (x58 : Nat → Nat → CV) (x59 : Nat) (x60 : Nat → Nat → CV) (x61 : ByteArray) (x62 : Int) (x63 : Int) (x64 : Int) (x65 : Bool) (x55 : Bool) (x56 : Int) :
    loopH (B26v3 (C57 fuel) fuel) N26v3 (m + 1) (s26v2 x53 x54 x55 x56 x57 x58 x59 x60 x61 x62 x63 x64 x65) k =
    (bif (decide (x56 < (Int.ofNat x53))) then (loopN (B26v2 (C57 fuel) fuel) N26v2 fuel (s26v4 x53 x54 x55 x56 x57 x58 x59 x60 x61 x62 x63 x64 x65) (kBlk 2 (kBlk 1 (kSeq (C57 fuel) fuel [8, 32, 33, 34, 35, 36, 37, 38, 39, 40, 41, 42, 43, 44, 45, 46, 47, 48, 49, 50, 51] A26v3 (kLoop (B26v3 (C57 fuel) fuel) N26v3 m k))))) else (k (.exit 0) (s26v3 x55 x57 x58 x59 x60 x61 x62 x63 x64 x65))) := by kernel_rfl

theorem t26v1 (fuel : Nat) {ρ : Type} (k : Ex → St → Option ρ) (x53 : Nat) (x54 : Nat → Nat → CV) (x55 : Bool) (x56 : Int) (x57 : Nat) (x58 : Nat → Nat → CV) (x59 : Nat) (x60 : Nat → Nat → CV) (x61 : ByteArray) (x62 : Int) (x63 : Int) (x64 : Int) (x65 : Bool) :
    loopN (B26v2 (C57 fuel) fuel) N26v2 fuel (s26v4 x53 x54 x55 x56 x57 x58 x59 x60 x61 x62 x63 x64 x65) k =
    L26v2 fuel x53 x54 x56 x57 x58 x59 x60 x61 x62 x63 x64 x65 fuel x55 0 (fun x95 => k (.exit 2) (s26v1 x53 x54 x95 x56 x57 x58 x59 x60 x61 x62 x63 x64 x65)) :=
  (loopN_at (st' := (s26v0 x53 x54 x55 x56 0 x57 x58 x59 x60 x61 x62 x63 x64 x65)) (by kernel_rfl)).trans (q26v2 fuel x53 x54 x56 x57 x58 x59 x60 x61 x62 x63 x64 x65 k fuel x55 0)

theorem g26v2 (fuel : Nat) (m : Nat) {ρ : Type} (k : Ex → St → Option ρ) (x53 : Nat) (x54 : Nat → Nat → CV) (x96 : Bool) (x56 : Int) (x57 : Nat) (x58 : Nat → Nat → CV) (x59 : Nat) (x60 : Nat → Nat → CV) (x61 : ByteArray) (x62 : Int) (x63 : Int) (x64 : Int) (x65 : Bool) :
    (kBlk 2 (kBlk 1 (kSeq (C57 fuel) fuel [8, 32, 33, 34, 35, 36, 37, 38, 39, 40, 41, 42, 43, 44, 45, 46, 47, 48, 49, 50, 51] A26v3 (kLoop (B26v3 (C57 fuel) fuel) N26v3 m k)))) (.exit 2) (s26v1 x53 x54 x96 x56 x57 x58 x59 x60 x61 x62 x63 x64 x65) =
    (loopH (B26v3 (C57 fuel) fuel) N26v3 m (s26v2 x53 x54 x96 (w64 (x56 + 1)) x57 x58 x59 x60 x61 x62 x63 x64 x65) k) := by kernel_rfl

theorem q26v3 (fuel : Nat) (x53 : Nat) (x54 : Nat → Nat → CV) (x57 : Nat) (x58 : Nat → Nat → CV) (x59 : Nat) (x60 : Nat → Nat → CV) (x61 : ByteArray) (x62 : Int) (x63 : Int) (x64 : Int) (x65 : Bool) {ρ : Type} (k : Ex → St → Option ρ) : ∀ (m : Nat) (x55 : Bool) (x56 : Int),
    loopH (B26v3 (C57 fuel) fuel) N26v3 m (s26v2 x53 x54 x55 x56 x57 x58 x59 x60 x61 x62 x63 x64 x65) k = L26v3 fuel x53 x54 x57 x58 x59 x60 x61 x62 x63 x64 x65 m x55 x56 (fun x97 => k (.exit 0) (s26v3 x97 x57 x58 x59 x60 x61 x62 x63 x64 x65))
  | 0, _, _ => rfl
  | m + 1, x55, x56 => by
    rw [r26v3]
    simp only [L26v3, q26v3 fuel x53 x54 x57 x58 x59 x60 x61 x62 x63 x64 x65 k m, t26v1, g26v2]

def B26v4 (C : Oracle) (fuel : Nat) {ρ : Type} : St → (Ex → St → Option ρ) → Option ρ := fun st k => evalC C fuel A26v7 st k
def N26v4 : St → Option St := fun s => s.norm [0, 1, 5, 6, 7, 8, 11, 12, 13, 14, 15, 16, 17, 18, 19, 20, 21, 22, 23, 24, 25, 26, 27, 28, 29, 30, 31, 32, 33, 34, 35, 36, 37, 38, 39, 40, 41, 42, 43, 44, 45, 46, 47, 48, 49, 50, 51, 52, 53, 54, 55, 56, 57, 58, 59, 60, 61, 62, 63, 64, 65, 66, 67, 68, 69, 70, 71, 72, 73, 74, 75, 76, 77, 78] 5

def s26v5 (x112 : Int) (x113 : Nat) (x114 : Nat → Nat → CV) (x115 : Nat) (x116 : Nat → Nat → CV) (x117 : ByteArray) (x118 : Int) (x119 : Int) (x120 : Int) (x121 : Bool) (x122 : Nat) (x123 : Nat → Nat → CV) (x124 : Nat) (x125 : Nat → Nat → CV) : St := ⟨[.u, .u, .x (.ptr 0 0), .x (.ptr 1 0), .x (.ptr 2 0), .u, .u, .u, .u, .x (.ptr 3 0), .x (.c (.i .i64 x112)), .u, .u, .u, .u, .u, .u, .u, .u, .u, .u, .u, .u, .u, .u, .u, .u, .u, .u, .u, .u, .u, .u, .u, .u, .u, .u, .u, .u, .u, .u, .u, .u, .u, .u, .u, .u, .u, .u, .u, .u, .u, .u, .u, .u, .u, .u, .u, .u, .u, .u, .u, .u, .u, .u, .u, .u, .u, .u, .u, .u, .u, .u, .u, .u, .u, .u, .u, .u],
    [.box [(.c (.ro false (.pr (.int .i64) (.pr (.int .i64) .nil)) x113 x114)), (.c (.ro false (.pr (.sl (.pr (.int .i64) (.pr (.int .i64) .nil))) .nil) x115 x116))], .box [(.c (.s x117)), (.c (.i .i64 x118)), (.c (.i .i64 x119)), (.c (.i .i64 x120)), (.c (.b x121))], .box [(.c (.ro true .nil 0 (fun _ _ => .any))), (.c (.ro true .nil 0 (fun _ _ => .any)))], .box [(.c (.ro false (.pr (.int .i64) (.pr (.int .i64) .nil)) x122 x123)), (.own 4 0 x124)], .arr (.pr (.sl (.pr (.int .i64) (.pr (.int .i64) .nil))) .nil) x124 x125]⟩

def s26v6 (x113 : Nat) (x114 : Nat → Nat → CV) (x115 : Nat) (x116 : Nat → Nat → CV) (x117 : ByteArray) (x118 : Int) (x119 : Int) (x120 : Int) (x121 : Bool) (x122 : Nat) (x123 : Nat → Nat → CV) (x127 : Nat) (x128 : Nat → Nat → CV) : St := ⟨[.u, .u, .u, .u, .x (.ptr 2 0), .u, .u, .u, .u, .x (.ptr 3 0), .u, .u, .u, .u, .u, .u, .u, .u, .u, .u, .u, .u, .u, .u, .u, .u, .u, .u, .u, .u, .u, .u, .u, .u, .u, .u, .u, .u, .u, .u, .u, .u, .u, .u, .u, .u, .u, .u, .u, .u, .u, .u, .u, .u, .u, .u, .u, .u, .u, .u, .u, .u, .u, .u, .u, .u, .u, .u, .u, .u, .u, .u, .u, .u, .u, .u, .u, .u, .u],
    [.box [(.c (.ro false (.pr (.int .i64) (.pr (.int .i64) .nil)) x113 x114)), (.c (.ro false (.pr (.sl (.pr (.int .i64) (.pr (.int .i64) .nil))) .nil) x115 x116))], .box [(.c (.s x117)), (.c (.i .i64 x118)), (.c (.i .i64 x119)), (.c (.i .i64 x120)), (.c (.b x121))], .box [(.c (.ro true .nil 0 (fun _ _ => .any))), (.c (.ro true .nil 0 (fun _ _ => .any)))], .box [(.c (.ro false (.pr (.int .i64) (.pr (.int .i64) .nil)) x122 x123)), (.own 4 0 x127)], .arr (.pr (.sl (.pr (.int .i64) (.pr (.int .i64) .nil))) .nil) x127 x128]⟩

def L26v4 {ρ : Type} (fuel : Nat) (x113 : Nat) (x114 : Nat → Nat → CV) (x115 : Nat) (x116 : Nat → Nat → CV) (x117 : ByteArray) (x118 : Int) (x119 : Int) (x120 : Int) (x121 : Bool) (x122 : Nat) (x123 : Nat → Nat → CV) : Nat → Int → Nat → (Nat → Nat → CV) → (Nat → (Nat → Nat → CV) → Option ρ) → Option ρ
  | 0, _, _, _, _ => none
  | m + 1, x112, x124, x125, k0 =>
    (bif (decide (x112 < (Int.ofNat x115))) then (bif (inb x112 x115) then (ob (F54 fuel (CV.len (x116 (Int.toNat x112) 0)) (CV.el (x116 (Int.toNat x112) 0)) x117 x118 x119 x120 x121) fun x126 => (bif (Nat.ble (x124 + 1) 1073741824) then (L26v4 fuel x113 x114 x115 x116 x117 x118 x119 x120 x121 x122 x123 m (w64 (x112 + 1)) (x124 + 1) (joinF x124 x125 (rowsF 1 [(.ro false (.pr (.int .i64) (.pr (.int .i64) .nil)) x126.1 x126.2)])) k0) else none)) else none) else (k0 x124 x125))

theorem nl26v4 {ρ σ : Type} (fuel : Nat) (x113 : Nat) (x114 : Nat → Nat → CV) (x115 : Nat) (x116 : Nat → Nat → CV) (x117 : ByteArray) (x118 : Int) (x119 : Int) (x120 : Int) (x121 : Bool) (x122 : Nat) (x123 : Nat → Nat → CV) (g : ρ → Option σ) : ∀ (m : Nat) (x112 : Int) (x124 : Nat) (x125 : Nat → Nat → CV) (k0 : Nat → (Nat → Nat → CV) → Option ρ), ob (L26v4 fuel x113 x114 x115 x116 x117 x118 x119 x120 x121 x122 x123 m x112 x124 x125 k0) g = L26v4 fuel x113 x114 x115 x116 x117 x118 x119 x120 x121 x122 x123 m x112 x124 x125 (fun x127 x128 => ob (k0 x127 x128) g)
  | 0, _, _, _, _ => rfl
  | m + 1, x112, x124, x125, k0 => by
    simp only [L26v4, ob_bif, ob_ob, ob_none, nl26v4 fuel x113 x114 x115 x116 x117 x118 x119 x120 x121 x122 x123 g m]

theorem r26v4 (fuel : Nat) (m : Nat) {ρ : Type} (k : Ex → St → Option ρ) (x113 : Nat) (x114 : Nat → Nat → CV) (x115 : Nat) (x116 : Nat → Nat → CV) (x117 : ByteArray) (x118 : Int) (x119 : Int) (x120 : Int) (x121 : Bool) (x122 : Nat) (x123 : Nat → Nat → CV) (x112 : Int) (x124 : Nat) (x125 : Nat → Nat → CV) :
    loopH (B26v4 (C57 fuel) fuel) N26v4 (m + 1) (s26v5 x112 x113 x114 x115 x116 x117 x118 x119 x120 x121 x122 x123 x124 x125) k =
    (bif (decide (x112 < (Int.ofNat x115))) then (bif (inb x112 x115) then (ob (F54 fuel (CV.len (x116 (Int.toNat x112) 0)) (CV.el (x116 (Int.toNat x112) 0)) x117 x118 x119 x120 x121) fun x126 => (bif (Nat.ble (x124 + 1) 1073741824) then (loopH (B26v4 (C57 fuel) fuel) N26v4 m (s26v5 (w64 (x112 + 1)) x113 x114 x115 x116 x117 x118 x119 x120 x121 x122 x123 (x124 + 1) (joinF x124 x125 (rowsF 1 [(.ro false (.pr (.int .i64) (.pr (.int .i64) .nil)) x126.1 x126.2)]))) k) else none)) else none) else (k (.exit 4) (s26v6 x113 x114 x115 x116 x117 x118 x119 x120 x121 x122 x123 x124 x125))) := by kernel_rfl

theorem q26v4 (fuel : Nat) (x113 : Nat) (x114 : Nat → Nat → CV) (x115 : Nat) (x116 : Nat → Nat → CV) (x117 : ByteArray) (x118 : Int) (x119 : Int) (x120 : Int) (x121 : Bool) (x122 : Nat) (x123 : Nat → Nat → CV) {ρ : Type} (k : Ex → St → Option ρ) : ∀ (m : Nat) (x112 : Int) (x124 : Nat) (x125 : Nat → Nat → CV),
    loopH (B26v4 (C57 fuel) fuel) N26v4 m (s26v5 x112 x113 x114 x115 x116 x117 x118 x119 x120 x121 x122 x123 x124 x125) k = L26v4 fuel x113 x114 x115 x116 x117 x118 x119 x120 x121 x122 x123 m x112 x124 x125 (fun x127 x128 => k (.exit 4) (s26v6 x113 x114 x115 x116 x117 x118 x119 x120 x121 x122 x123 x127 x128))
  | 0, _, _, _ => rfl
  | m + 1, x112, x124, x125 => by
    rw [r26v4]
    simp only [L26v4, q26v4 fuel x113 x114 x115 x116 x117 x118 x119 x120 x121 x122 x123 k m]

def B26v6 (C : Oracle) (fuel : Nat) {ρ : Type} : St → (Ex → St → Option ρ) → Option ρ := fun st k => evalC C fuel A26v2 st k
def N26v6 : St → Option St := fun s => s.norm [0, 1, 9, 10, 11, 12, 13, 14, 15, 16, 17, 18, 19, 20, 21, 22, 23, 24, 25, 26, 27, 28, 29, 30, 31, 32, 33, 34, 35, 36, 37, 38, 39, 40, 41, 42, 43, 44, 45, 46, 47, 48, 49, 50, 51, 52, 53, 54, 55, 56, 57, 58, 59, 60, 61, 62, 63, 64, 65, 66, 67, 68, 69, 70, 71, 72, 73, 74, 75, 76, 77, 78] 3

def s26v7 (x189 : Nat) (x190 : Nat → Nat → CV) (x191 : Int) (x192 : Int) (x193 : Nat) (x194 : Nat → Nat → CV) (x195 : Nat) (x196 : Nat → Nat → CV) (x197 : ByteArray) (x198 : Int) (x199 : Int) (x200 : Int) (x201 : Bool) : St := ⟨[.u, .u, .x (.ptr 0 0), .x (.ptr 1 0), .x (.ptr 2 0), .x (.c (.ro false (.pr (.sl (.pr (.int .i64) (.pr (.int .i64) .nil))) .nil) x189 x190)), .x (.c (.b true)), .x (.c (.i .i64 x191)), .x (.c (.i .i64 x192)), .u, .u, .u, .u, .u, .u, .u, .u, .u, .u, .u, .u, .u, .u, .u, .u, .u, .u, .u, .u, .u, .u, .u, .u, .u, .u, .u, .u, .u, .u, .u, .u, .u, .u, .u, .u, .u, .u, .u, .u, .u, .u, .u, .u, .u, .u, .u, .u, .u, .u, .u, .u, .u, .u, .u, .u, .u, .u, .u, .u, .u, .u, .u, .u, .u, .u, .u, .u, .u, .u],
    [.box [(.c (.ro false (.pr (.int .i64) (.pr (.int .i64) .nil)) x193 x194)), (.c (.ro false (.pr (.sl (.pr (.int .i64) (.pr (.int .i64) .nil))) .nil) x195 x196))], .box [(.c (.s x197)), (.c (.i .i64 x198)), (.c (.i .i64 x199)), (.c (.i .i64 x200)), (.c (.b x201))], .box [(.c (.ro true .nil 0 (fun _ _ => .any))), (.c (.ro true .nil 0 (fun _ _ => .any)))]]⟩

def s26v8 (x189 : Nat) (x190 : Nat → Nat → CV) (x191 : Int) (x193 : Nat) (x194 : Nat → Nat → CV) (x195 : Nat) (x196 : Nat → Nat → CV) (x197 : ByteArray) (x198 : Int) (x199 : Int) (x200 : Int) (x201 : Bool) : St := ⟨[.u, .u, .x (.ptr 0 0), .x (.ptr 1 0), .x (.ptr 2 0), .x (.c (.ro false (.pr (.sl (.pr (.int .i64) (.pr (.int .i64) .nil))) .nil) x189 x190)), .x (.c (.b true)), .x (.c (.i .i64 x191)), .u, .u, .u, .u, .u, .u, .u, .u, .u, .u, .u, .u, .u, .u, .u, .u, .u, .u, .u, .u, .u, .u, .u, .u, .u, .u, .u, .u, .u, .u, .u, .u, .u, .u, .u, .u, .u, .u, .u, .u, .u, .u, .u, .u, .u, .u, .u, .u, .u, .u, .u, .u, .u, .u, .u, .u, .u, .u, .u, .u, .u, .u, .u, .u, .u, .u, .u, .u, .u, .u, .u],
    [.box [(.c (.ro false (.pr (.int .i64) (.pr (.int .i64) .nil)) x193 x194)), (.c (.ro false (.pr (.sl (.pr (.int .i64) (.pr (.int .i64) .nil))) .nil) x195 x196))], .box [(.c (.s x197)), (.c (.i .i64 x198)), (.c (.i .i64 x199)), (.c (.i .i64 x200)), (.c (.b x201))], .box [(.c (.ro true .nil 0 (fun _ _ => .any))), (.c (.ro true .nil 0 (fun _ _ => .any)))]]⟩

def L26v6 {ρ : Type} (fuel : Nat) (x189 : Nat) (x190 : Nat → Nat → CV) (x191 : Int) (x193 : Nat) (x194 : Nat → Nat → CV) (x195 : Nat) (x196 : Nat → Nat → CV) (x197 : ByteArray) (x198 : Int) (x199 : Int) (x200 : Int) (x201 : Bool) : Nat → Int → (Option ρ) → Option ρ
  | 0, _, _ => none
  | m + 1, x192, k0 =>
    (bif (inb x191 x189) then (bif (decide (x192 < (Int.ofNat (CV.len (x190 (Int.toNat x191) 0))))) then (L26v6 fuel x189 x190 x191 x193 x194 x195 x196 x197 x198 x199 x200 x201 m (w64 (x192 + 1)) k0) else k0) else none)

theorem nl26v6 {ρ σ : Type} (fuel : Nat) (x189 : Nat) (x190 : Nat → Nat → CV) (x191 : Int) (x193 : Nat) (x194 : Nat → Nat → CV) (x195 : Nat) (x196 : Nat → Nat → CV) (x197 : ByteArray) (x198 : Int) (x199 : Int) (x200 : Int) (x201 : Bool) (g : ρ → Option σ) : ∀ (m : Nat) (x192 : Int) (k0 : Option ρ), ob (L26v6 fuel x189 x190 x191 x193 x194 x195 x196 x197 x198 x199 x200 x201 m x192 k0) g = L26v6 fuel x189 x190 x191 x193 x194 x195 x196 x197 x198 x199 x200 x201 m x192 (ob k0 g)
  | 0, _, _ => rfl
  | m + 1, x192, k0 => by
    simp only [L26v6, ob_bif, ob_ob, ob_none, nl26v6 fuel x189 x190 x191 x193 x194 x195 x196 x197 x198 x199 x200 x201 g m]

theorem r26v6 (fuel : Nat) (m : Nat) {ρ : Type} (k : Ex → St → Option ρ) (x189 : Nat) (x190 : Nat → Nat → CV) (x191 : Int) (x193 : Nat) (x194 : Nat → Nat → CV) (x195 : Nat) (x196 : Nat → Nat → CV) (x197 : ByteArray) (x198 : Int) (x199 : Int) (x200 : Int) (x201 : Bool) (x192 : Int) :
    loopH (B26v6 (C57 fuel) fuel) N26v6 (m + 1) (s26v7 x189 x190 x191 x192 x193 x194 x195 x196 x197 x198 x199 x200 x201) k =
    (bif (inb x191 x189) then (bif (decide (x192 < (Int.ofNat (CV.len (x190 (Int.toNat x191) 0))))) then (loopH (B26v6 (C57 fuel) fuel) N26v6 m (s26v7 x189 x190 x191 (w64 (x192 + 1)) x193 x194 x195 x196 x197 x198 x199 x200 x201) k) else (k (.exit 2) (s26v8 x189 x190 x191 x193 x194 x195 x196 x197 x198 x199 x200 x201))) else none) := by kernel_rfl

theorem q26v6 (fuel : Nat) (x189 : Nat) (x190 : Nat → Nat → CV) (x191 : Int) (x193 : Nat) (x194 : Nat → Nat → CV) (x195 : Nat) (x196 : Nat → Nat → CV) (x197 : ByteArray) (x198 : Int) (x199 : Int) (x200 : Int) (x201 : Bool) {ρ : Type} (k : Ex → St → Option ρ) : ∀ (m : Nat) (x192 : Int),
    loopH (B26v6 (C57 fuel) fuel) N26v6 m (s26v7 x189 x190 x191 x192 x193 x194 x195 x196 x197 x198 x199 x200 x201) k = L26v6 fuel x189 x190 x191 x193 x194 x195 x196 x197 x198 x199 x200 x201 m x192 (k (.exit 2) (s26v8 x189 x190 x191 x193 x194 x195 x196 x197 x198 x199 x200 x201))
  | 0, _ => rfl
  | m + 1, x192 => by
    rw [r26v6]
    simp only [L26v6, q26v6 fuel x189 x190 x191 x193 x194 x195 x196 x197 x198 x199 x200 x201 k m]

def B26v7 (C : Oracle) (fuel : Nat) {ρ : Type} : St → (Ex → St → Option ρ) → Option ρ := fun st k => evalC C fuel A26v5 st k
def N26v7 : St → Option St := fun s => s.norm [0, 1, 8, 9, 10, 11, 12, 13, 14, 15, 16, 17, 18, 19, 20, 21, 22, 23, 24, 25, 26, 27, 28, 29, 30, 31, 32, 33, 34, 35, 36, 37, 38, 39, 40, 41, 42, 43, 44, 45, 46, 47, 48, 49, 50, 51, 52, 53, 54, 55, 56, 57, 58, 59, 60, 61, 62, 63, 64, 65, 66, 67, 68, 69, 70, 71, 72, 73, 74, 75, 76, 77, 78] 3

def s26v9 (x165 : Nat) (x166 : Nat → Nat → CV) (x167 : Int) (x168 : Nat) (x169 : Nat → Nat → CV) (x170 : Nat) (x171 : Nat → Nat → CV) (x172 : ByteArray) (x173 : Int) (x174 : Int) (x175 : Int) (x176 : Bool) : St := ⟨[.u, .u, .x (.ptr 0 0), .x (.ptr 1 0), .x (.ptr 2 0), .x (.c (.ro false (.pr (.sl (.pr (.int .i64) (.pr (.int .i64) .nil))) .nil) x165 x166)), .x (.c (.b true)), .x (.c (.i .i64 x167)), .u, .u, .u, .u, .u, .u, .u, .u, .u, .u, .u, .u, .u, .u, .u, .u, .u, .u, .u, .u, .u, .u, .u, .u, .u, .u, .u, .u, .u, .u, .u, .u, .u, .u, .u, .u, .u, .u, .u, .u, .u, .u, .u, .u, .u, .u, .u, .u, .u, .u, .u, .u, .u, .u, .u, .u, .u, .u, .u, .u, .u, .u, .u, .u, .u, .u, .u, .u, .u, .u, .u],
    [.box [(.c (.ro false (.pr (.int .i64) (.pr (.int .i64) .nil)) x168 x169)), (.c (.ro false (.pr (.sl (.pr (.int .i64) (.pr (.int .i64) .nil))) .nil) x170 x171))], .box [(.c (.s x172)), (.c (.i .i64 x173)), (.c (.i .i64 x174)), (.c (.i .i64 x175)), (.c (.b x176))], .box [(.c (.ro true .nil 0 (fun _ _ => .any))), (.c (.ro true .nil 0 (fun _ _ => .any)))]]⟩

def s26v10 (x168 : Nat) (x169 : Nat → Nat → CV) (x170 : Nat) (x171 : Nat → Nat → CV) (x172 : ByteArray) (x173 : Int) (x174 : Int) (x175 : Int) (x176 : Bool) : St := ⟨[.u, .u, .x (.ptr 0 0), .x (.ptr 1 0), .x (.ptr 2 0), .u, .x (.c (.b true)), .u, .u, .u, .u, .u, .u, .u, .u, .u, .u, .u, .u, .u, .u, .u, .u, .u, .u, .u, .u, .u, .u, .u, .u, .u, .u, .u, .u, .u, .u, .u, .u, .u, .u, .u, .u, .u, .u, .u, .u, .u, .u, .u, .u, .u, .u, .u, .u, .u, .u, .u, .u, .u, .u, .u, .u, .u, .u, .u, .u, .u, .u, .u, .u, .u, .u, .u, .u, .u, .u, .u, .u],
    [.box [(.c (.ro false (.pr (.int .i64) (.pr (.int .i64) .nil)) x168 x169)), (.c (.ro false (.pr (.sl (.pr (.int .i64) (.pr (.int .i64) .nil))) .nil) x170 x171))], .box [(.c (.s x172)), (.c (.i .i64 x173)), (.c (.i .i64 x174)), (.c (.i .i64 x175)), (.c (.b x176))], .box [(.c (.ro true .nil 0 (fun _ _ => .any))), (.c (.ro true .nil 0 (fun _ _ => .any)))]]⟩

def L26v7 {ρ : Type} (fuel : Nat) (x165 : Nat) (x166 : Nat → Nat → CV) (x168 : Nat) (x169 : Nat → Nat → CV) (x170 : Nat) (x171 : Nat → Nat → CV) (x172 : ByteArray) (x173 : Int) (x174 : Int) (x175 : Int) (x176 : Bool) : Nat → Int → (Option ρ) → Option ρ
  | 0, _, _ => none
  | m + 1, x167, k0 =>
    (bif (decide (x167 < (Int.ofNat x165))) then (L26v6 fuel x165 x166 x167 x168 x169 x170 x171 x172 x173 x174 x175 x176 fuel 0
    (L26v7 fuel x165 x166 x168 x169 x170 x171 x172 x173 x174 x175 x176 m (w64 (x167 + 1)) k0)) else k0)

theorem nl26v7 {ρ σ : Type} (fuel : Nat) (x165 : Nat) (x166 : Nat → Nat → CV) (x168 : Nat) (x169 : Nat → Nat → CV) (x170 : Nat) (x171 : Nat → Nat → CV) (x172 : ByteArray) (x173 : Int) (x174 : Int) (x175 : Int) (x176 : Bool) (g : ρ → Option σ) : ∀ (m : Nat) (x167 : Int) (k0 : Option ρ), ob (L26v7 fuel x165 x166 x168 x169 x170 x171 x172 x173 x174 x175 x176 m x167 k0) g = L26v7 fuel x165 x166 x168 x169 x170 x171 x172 x173 x174 x175 x176 m x167 (ob k0 g)
  | 0, _, _ => rfl
  | m + 1, x167, k0 => by
    simp only [L26v7, ob_bif, ob_ob, ob_none, nl26v7 fuel x165 x166 x168 x169 x170 x171 x172 x173 x174 x175 x176 g m, nl26v6]

def s26v11 (x165 : Nat) (x166 : Nat → Nat → CV) (x167 : Int) (x168 : Nat) (x169 : Nat → Nat → CV) (x170 : Nat) (x171 : Nat → Nat → CV) (x172 : ByteArray) (x173 : Int) (x174 : Int) (x175 : Int) (x176 : Bool) : St := ⟨[.u, .u, .x (.ptr 0 0), .x (.ptr 1 0), .x (.ptr 2 0), .x (.c (.ro false (.pr (.sl (.pr (.int .i64) (.pr (.int .i64) .nil))) .nil) x165 x166)), .x (.c (.b true)), .x (.c (.i .i64 x167)), .x (.c (.i .i64 0)), .u, .u, .u, .u, .u, .u, .u, .u, .u, .u, .u, .u, .u, .u, .u, .u, .u, .u, .u, .u, .u, .u, .u, .u, .u, .u, .u, .u, .u, .u, .u, .u, .u, .u, .u, .u, .u, .u, .u, .u, .u, .u, .u, .u, .u, .u, .u, .u, .u, .u, .u, .u, .u, .u, .u, .u, .u, .u, .u, .u, .u, .u, .u, .u, .u, .u, .u, .u, .u, .u],
    [.box [(.c (.ro false (.pr (.int .i64) (.pr (.int .i64) .nil)) x168 x169)), (.c (.ro false (.pr (.sl (.pr (.int .i64) (.pr (.int .i64) .nil))) .nil) x170 x171))], .box [(.c (.s x172)), (.c (.i .i64 x173)), (.c (.i .i64 x174)), (.c (.i .i64 x175)), (.c (.b x176))], .box [(.c (.ro true .nil 0 (fun _ _ => .any))), (.c (.ro true .nil 0 (fun _ _ => .any)))]]⟩

theorem r26v7 (fuel : Nat) (m : Nat) {ρ : Type} (k : Ex → St → Option ρ) (x165 : Nat) (x166 : Nat → Nat → CV) (x168 : Nat) (x169 : Nat → Nat → CV) (x170 : Nat) (x171 : Nat → Nat → CV) (x172 : ByteArray) (x173 : Int) (x174 : Int) (x175 : Int) (x176 : Bool) (x167 : Int) :
    loopH (B26v7 (C57 fuel) fuel) N26v7 (m + 1) (s26v9 x165 x166 x167 x168 x169 x170 x171 x172 x173 x174 x175 x176) k =
    (bif (decide (x167 < (Int.ofNat x165))) then (loopN (B26v6 (C57 fuel) fuel) N26v6 fuel (s26v11 x165 x166 x167 x168 x169 x170 x171 x172 x173 x174 x175 x176) (kBlk 2 (kBlk 1 (kSeq (C57 fuel) fuel [8, 32, 33, 34, 35, 36, 37, 38, 39, 40, 41, 42, 43, 44, 45, 46, 47, 48, 49, 50, 51] A26v3 (kLoop (B26v7 (C57 fuel) fuel) N26v7 m k))))) else (k (.exit 0) (s26v10 x168 x169 x170 x171 x172 x173 x174 x175 x176))) := by kernel_rfl

theorem t26v3 (fuel : Nat) {ρ : Type} (k : Ex → St → Option ρ) (x165 : Nat) (x166 : Nat → Nat → CV) (x167 : Int) (x168 : Nat) (x169 : Nat → Nat → CV) (x170 : Nat) (x171 : Nat → Nat → CV) (x172 : ByteArray) (x173 : Int) (x174 : Int) (x175 : Int) (x176 : Bool) :
    loopN (B26v6 (C57 fuel) fuel) N26v6 fuel (s26v11 x165 x166 x167 x168 x169 x170 x171 x172 x173 x174 x175 x176) k =
    L26v6 fuel x165 x166 x167 x168 x169 x170 x171 x172 x173 x174 x175 x176 fuel 0 (k (.exit 2) (s26v8 x165 x166 x167 x168 x169 x170 x171 x172 x173 x174 x175 x176)) :=
  (loopN_at (st' := (s26v7 x165 x166 x167 0 x168 x169 x170 x171 x172 x173 x174 x175 x176)) (by kernel_rfl)).trans (q26v6 fuel x165 x166 x167 x168 x169 x170 x171 x172 x173 x174 x175 x176 k fuel 0)

theorem g26v4 (fuel : Nat) (m : Nat) {ρ : Type} (k : Ex → St → Option ρ) (x165 : Nat) (x166 : Nat → Nat → CV) (x167 : Int) (x168 : Nat) (x169 : Nat → Nat → CV) (x170 : Nat) (x171 : Nat → Nat → CV) (x172 : ByteArray) (x173 : Int) (x174 : Int) (x175 : Int) (x176 : Bool) :
    (kBlk 2 (kBlk 1 (kSeq (C57 fuel) fuel [8, 32, 33, 34, 35, 36, 37, 38, 39, 40, 41, 42, 43, 44, 45, 46, 47, 48, 49, 50, 51] A26v3 (kLoop (B26v7 (C57 fuel) fuel) N26v7 m k)))) (.exit 2) (s26v8 x165 x166 x167 x168 x169 x170 x171 x172 x173 x174 x175 x176) =
    (loopH (B26v7 (C57 fuel) fuel) N26v7 m (s26v9 x165 x166 (w64 (x167 + 1)) x168 x169 x170 x171 x172 x173 x174 x175 x176) k) := by kernel_rfl

theorem q26v7 (fuel : Nat) (x165 : Nat) (x166 : Nat → Nat → CV) (x168 : Nat) (x169 : Nat → Nat → CV) (x170 : Nat) (x171 : Nat → Nat → CV) (x172 : ByteArray) (x173 : Int) (x174 : Int) (x175 : Int) (x176 : Bool) {ρ : Type} (k : Ex → St → Option ρ) : ∀ (m : Nat) (x167 : Int),
    loopH (B26v7 (C57 fuel) fuel) N26v7 m (s26v9 x165 x166 x167 x168 x169 x170 x171 x172 x173 x174 x175 x176) k = L26v7 fuel x165 x166 x168 x169 x170 x171 x172 x173 x174 x175 x176 m x167 (k (.exit 0) (s26v10 x168 x169 x170 x171 x172 x173 x174 x175 x176))
  | 0, _ => rfl
  | m + 1, x167 => by
    rw [r26v7]
    simp only [L26v7, q26v7 fuel x165 x166 x168 x169 x170 x171 x172 x173 x174 x175 x176 k m, t26v3, g26v4]

def D26 {ρ : Type} (fuel : Nat) (x1 : Nat) (x2 : Nat → Nat → CV) (x3 : Nat) (x4 : Nat → Nat → CV) (x5 : ByteArray) (x6 : Int) (x7 : Int) (x8 : Int) (x9 : Bool) (k : (Bool × Nat × (Nat → Nat → CV) × Nat × (Nat → Nat → CV)) → Option ρ) : Option ρ :=
  (ob (F44 fuel x1 x2 x3 x4) fun x10 => (bif ((decide (x8 < 0)) == false) then (bif ((decide (x8 > 3)) == false) then (ob (F53 fuel x6 x7) fun x11 => (L26v3 fuel x10.1 x10.2 x1 x2 x3 x4 x5 x6 x7 x8 x9 fuel x11 0
    (fun x98 => (bif x98 then (k (true, 0, (fun _ _ => .any), 0, (fun _ _ => .any))) else (ob (F54 fuel x1 x2 x5 x6 x7 x8 x9) fun x99 => (L26v4 fuel x1 x2 x3 x4 x5 x6 x7 x8 x9 x99.1 x99.2 fuel 0 0 (fun _ _ => .any)
    (fun x129 x130 => (k (false, x99.1, x99.2, x129, x130))))))))) else (L26v7 fuel x10.1 x10.2 x1 x2 x3 x4 x5 x6 x7 x8 x9 fuel 0
    (k (true, 0, (fun _ _ => .any), 0, (fun _ _ => .any))))) else (L26v7 fuel x10.1 x10.2 x1 x2 x3 x4 x5 x6 x7 x8 x9 fuel 0
    (k (true, 0, (fun _ _ => .any), 0, (fun _ _ => .any))))))

def FT26 (fuel : Nat) (x1 : Nat) (x2 : Nat → Nat → CV) (x3 : Nat) (x4 : Nat → Nat → CV) (x5 : ByteArray) (x6 : Int) (x7 : Int) (x8 : Int) (x9 : Bool) : Option (Bool × Nat × (Nat → Nat → CV) × Nat × (Nat → Nat → CV)) := D26 fuel x1 x2 x3 x4 x5 x6 x7 x8 x9 some

theorem n26 {ρ σ : Type} (fuel : Nat) (x1 : Nat) (x2 : Nat → Nat → CV) (x3 : Nat) (x4 : Nat → Nat → CV) (x5 : ByteArray) (x6 : Int) (x7 : Int) (x8 : Int) (x9 : Bool) (k : (Bool × Nat × (Nat → Nat → CV) × Nat × (Nat → Nat → CV)) → Option ρ) (g : ρ → Option σ) : ob (D26 fuel x1 x2 x3 x4 x5 x6 x7 x8 x9 k) g = D26 fuel x1 x2 x3 x4 x5 x6 x7 x8 x9 fun t => ob (k t) g := by
  simp only [D26, ob_bif, ob_ob, ob_none, nl26v3, nl26v4, nl26v7]

theorem f26 {ρ : Type} (fuel : Nat) (x1 : Nat) (x2 : Nat → Nat → CV) (x3 : Nat) (x4 : Nat → Nat → CV) (x5 : ByteArray) (x6 : Int) (x7 : Int) (x8 : Int) (x9 : Bool) (k : (Bool × Nat × (Nat → Nat → CV) × Nat × (Nat → Nat → CV)) → Option ρ) : D26 fuel x1 x2 x3 x4 x5 x6 x7 x8 x9 k = ob (FT26 fuel x1 x2 x3 x4 x5 x6 x7 x8 x9) k := by
  unfold FT26
  rw [n26]
  simp only [ob_some]

def s26v12 (x1 : Nat) (x2 : Nat → Nat → CV) (x3 : Nat) (x4 : Nat → Nat → CV) (x5 : ByteArray) (x6 : Int) (x7 : Int) (x8 : Int) (x9 : Bool) (x10 : Nat × (Nat → Nat → CV)) (x11 : Bool) : St := ⟨[.agg [(.c (.ro false (.pr (.int .i64) (.pr (.int .i64) .nil)) x1 x2)), (.c (.ro false (.pr (.sl (.pr (.int .i64) (.pr (.int .i64) .nil))) .nil) x3 x4))], .agg [(.c (.s x5)), (.c (.i .i64 x6)), (.c (.i .i64 x7)), (.c (.i .i64 x8)), (.c (.b x9))], .x (.ptr 0 0), .x (.ptr 1 0), .x (.ptr 2 0), .x (.c (.ro false (.pr (.sl (.pr (.int .i64) (.pr (.int .i64) .nil))) .nil) x10.1 x10.2)), .x (.c (.b x11)), .x (.c (.i .i64 0)), .undef, .undef, .undef, .agg [(.c (.ro false (.pr (.int .i64) (.pr (.int .i64) .nil)) x1 x2)), (.c (.ro false (.pr (.sl (.pr (.int .i64) (.pr (.int .i64) .nil))) .nil) x3 x4))], .x (.c (.ro false (.pr (.sl (.pr (.int .i64) (.pr (.int .i64) .nil))) .nil) x10.1 x10.2)), .x (.ptr 1 3), .x (.c (.i .i64 x8)), .x (.c (.b (decide (x8 < 0)))), .x (.c (.b false)), .x (.ptr 1 3), .x (.c (.i .i64 x8)), .x (.c (.b (decide (x8 > 3)))), .x (.c (.b (decide (x8 > 3)))), .x (.c (.b false)), .x (.ptr 1 1), .agg [(.c (.i .i64 x6)), (.c (.i .i64 x7))], .x (.c (.b x11)), .x (.c (.b x11)), .undef, .undef, .undef, .undef, .undef, .undef, .undef, .undef, .undef, .undef, .undef, .undef, .undef, .undef, .undef, .undef, .undef, .undef, .undef, .undef, .undef, .undef, .undef, .undef, .undef, .undef, .undef, .undef, .undef, .undef, .undef, .undef, .undef, .undef, .undef, .undef, .undef, .undef, .undef, .undef, .undef, .undef, .undef, .undef, .undef, .undef, .undef, .undef, .undef, .undef, .undef, .undef, .undef],
    [.box [(.c (.ro false (.pr (.int .i64) (.pr (.int .i64) .nil)) x1 x2)), (.c (.ro false (.pr (.sl (.pr (.int .i64) (.pr (.int .i64) .nil))) .nil) x3 x4))], .box [(.c (.s x5)), (.c (.i .i64 x6)), (.c (.i .i64 x7)), (.c (.i .i64 x8)), (.c (.b x9))], .box [(.c (.ro true .nil 0 (fun _ _ => .any))), (.c (.ro true .nil 0 (fun _ _ => .any)))]]⟩

def s26v13 (x1 : Nat) (x2 : Nat → Nat → CV) (x3 : Nat) (x4 : Nat → Nat → CV) (x5 : ByteArray) (x6 : Int) (x7 : Int) (x8 : Int) (x9 : Bool) (x10 : Nat × (Nat → Nat → CV)) : St := ⟨[.agg [(.c (.ro false (.pr (.int .i64) (.pr (.int .i64) .nil)) x1 x2)), (.c (.ro false (.pr (.sl (.pr (.int .i64) (.pr (.int .i64) .nil))) .nil) x3 x4))], .agg [(.c (.s x5)), (.c (.i .i64 x6)), (.c (.i .i64 x7)), (.c (.i .i64 x8)), (.c (.b x9))], .x (.ptr 0 0), .x (.ptr 1 0), .x (.ptr 2 0), .x (.c (.ro false (.pr (.sl (.pr (.int .i64) (.pr (.int .i64) .nil))) .nil) x10.1 x10.2)), .x (.c (.b true)), .x (.c (.i .i64 0)), .undef, .undef, .undef, .agg [(.c (.ro false (.pr (.int .i64) (.pr (.int .i64) .nil)) x1 x2)), (.c (.ro false (.pr (.sl (.pr (.int .i64) (.pr (.int .i64) .nil))) .nil) x3 x4))], .x (.c (.ro false (.pr (.sl (.pr (.int .i64) (.pr (.int .i64) .nil))) .nil) x10.1 x10.2)), .x (.ptr 1 3), .x (.c (.i .i64 x8)), .x (.c (.b (decide (x8 < 0)))), .x (.c (.b false)), .x (.ptr 1 3), .x (.c (.i .i64 x8)), .x (.c (.b (decide (x8 > 3)))), .x (.c (.b (decide (x8 > 3)))), .x (.c (.b true)), .undef, .undef, .undef, .x (.c (.b true)), .undef, .undef, .undef, .undef, .undef, .undef, .undef, .undef, .undef, .undef, .undef, .undef, .undef, .undef, .undef, .undef, .undef, .undef, .undef, .undef, .undef, .undef, .undef, .undef, .undef, .undef, .undef, .undef, .undef, .undef, .undef, .undef, .undef, .undef, .undef, .undef, .undef, .undef, .undef, .undef, .undef, .undef, .undef, .undef, .undef, .undef, .undef, .undef, .undef, .undef, .undef, .undef, .undef],
    [.box [(.c (.ro false (.pr (.int .i64) (.pr (.int .i64) .nil)) x1 x2)), (.c (.ro false (.pr (.sl (.pr (.int .i64) (.pr (.int .i64) .nil))) .nil) x3 x4))], .box [(.c (.s x5)), (.c (.i .i64 x6)), (.c (.i .i64 x7)), (.c (.i .i64 x8)), (.c (.b x9))], .box [(.c (.ro true .nil 0 (fun _ _ => .any))), (.c (.ro true .nil 0 (fun _ _ => .any)))]]⟩

def s26v14 (x1 : Nat) (x2 : Nat → Nat → CV) (x3 : Nat) (x4 : Nat → Nat → CV) (x5 : ByteArray) (x6 : Int) (x7 : Int) (x8 : Int) (x9 : Bool) (x10 : Nat × (Nat → Nat → CV)) : St := ⟨[.agg [(.c (.ro false (.pr (.int .i64) (.pr (.int .i64) .nil)) x1 x2)), (.c (.ro false (.pr (.sl (.pr (.int .i64) (.pr (.int .i64) .nil))) .nil) x3 x4))], .agg [(.c (.s x5)), (.c (.i .i64 x6)), (.c (.i .i64 x7)), (.c (.i .i64 x8)), (.c (.b x9))], .x (.ptr 0 0), .x (.ptr 1 0), .x (.ptr 2 0), .x (.c (.ro false (.pr (.sl (.pr (.int .i64) (.pr (.int .i64) .nil))) .nil) x10.1 x10.2)), .x (.c (.b true)), .x (.c (.i .i64 0)), .undef, .undef, .undef, .agg [(.c (.ro false (.pr (.int .i64) (.pr (.int .i64) .nil)) x1 x2)), (.c (.ro false (.pr (.sl (.pr (.int .i64) (.pr (.int .i64) .nil))) .nil) x3 x4))], .x (.c (.ro false (.pr (.sl (.pr (.int .i64) (.pr (.int .i64) .nil))) .nil) x10.1 x10.2)), .x (.ptr 1 3), .x (.c (.i .i64 x8)), .x (.c (.b (decide (x8 < 0)))), .x (.c (.b true)), .undef, .undef, .undef, .x (.c (.b true)), .x (.c (.b true)), .undef, .undef, .undef, .x (.c (.b true)), .undef, .undef, .undef, .undef, .undef, .undef, .undef, .undef, .undef, .undef, .undef, .undef, .undef, .undef, .undef, .undef, .undef, .undef, .undef, .undef, .undef, .undef, .undef, .undef, .undef, .undef, .undef, .undef, .undef, .undef, .undef, .undef, .undef, .undef, .undef, .undef, .undef, .undef, .undef, .undef, .undef, .undef, .undef, .undef, .undef, .undef, .undef, .undef, .undef, .undef, .undef, .undef, .undef],
    [.box [(.c (.ro false (.pr (.int .i64) (.pr (.int .i64) .nil)) x1 x2)), (.c (.ro false (.pr (.sl (.pr (.int .i64) (.pr (.int .i64) .nil))) .nil) x3 x4))], .box [(.c (.s x5)), (.c (.i .i64 x6)), (.c (.i .i64 x7)), (.c (.i .i64 x8)), (.c (.b x9))], .box [(.c (.ro true .nil 0 (fun _ _ => .any))), (.c (.ro true .nil 0 (fun _ _ => .any)))]]⟩

theorem walk26 (fuel : Nat) (x1 : Nat) (x2 : Nat → Nat → CV) (x3 : Nat) (x4 : Nat → Nat → CV) (x5 : ByteArray) (x6 : Int) (x7 : Int) (x8 : Int) (x9 : Bool) :
    evalF (C57 fuel) fuel A26 [.agg [(.ro false (.pr (.int .i64) (.pr (.int .i64) .nil)) x1 x2), (.ro false (.pr (.sl (.pr (.int .i64) (.pr (.int .i64) .nil))) .nil) x3 x4)], .agg [(.s x5), (.i .i64 x6), (.i .i64 x7), (.i .i64 x8), (.b x9)]] =
    (ob (F44 fuel x1 x2 x3 x4) fun x10 => (bif ((decide (x8 < 0)) == false) then (bif ((decide (x8 > 3)) == false) then (ob (F53 fuel x6 x7) fun x11 => (loopN (B26v3 (C57 fuel) fuel) N26v3 fuel (s26v12 x1 x2 x3 x4 x5 x6 x7 x8 x9 x10 x11) (kBlk 0 (kSeq (C57 fuel) fuel [7, 8, 26, 27, 28, 29, 30, 31, 32, 33, 34, 35, 36, 37, 38, 39, 40, 41, 42, 43, 44, 45, 46, 47, 48, 49, 50, 51] A26v10 (finish A26))))) else (loopN (B26v7 (C57 fuel) fuel) N26v7 fuel (s26v13 x1 x2 x3 x4 x5 x6 x7 x8 x9 x10) (kBlk 0 (kSeq (C57 fuel) fuel [7, 8, 26, 27, 28, 29, 30, 31, 32, 33, 34, 35, 36, 37, 38, 39, 40, 41, 42, 43, 44, 45, 46, 47, 48, 49, 50, 51] A26v10 (finish A26))))) else (loopN (B26v7 (C57 fuel) fuel) N26v7 fuel (s26v14 x1 x2 x3 x4 x5 x6 x7 x8 x9 x10) (kBlk 0 (kSeq (C57 fuel) fuel [7, 8, 26, 27, 28, 29, 30, 31, 32, 33, 34, 35, 36, 37, 38, 39, 40, 41, 42, 43, 44, 45, 46, 47, 48, 49, 50, 51] A26v10 (finish A26)))))) := by kernel_rfl

theorem t26v5 (fuel : Nat) {ρ : Type} (k : Ex → St → Option ρ) (x1 : Nat) (x2 : Nat → Nat → CV) (x3 : Nat) (x4 : Nat → Nat → CV) (x5 : ByteArray) (x6 : Int) (x7 : Int) (x8 : Int) (x9 : Bool) (x10 : Nat × (Nat → Nat → CV)) (x11 : Bool) :
    loopN (B26v3 (C57 fuel) fuel) N26v3 fuel (s26v12 x1 x2 x3 x4 x5 x6 x7 x8 x9 x10 x11) k =
    L26v3 fuel x10.1 x10.2 x1 x2 x3 x4 x5 x6 x7 x8 x9 fuel x11 0 (fun x97 => k (.exit 0) (s26v3 x97 x1 x2 x3 x4 x5 x6 x7 x8 x9)) :=
  (loopN_at (st' := (s26v2 x10.1 x10.2 x11 0 x1 x2 x3 x4 x5 x6 x7 x8 x9)) (by kernel_rfl)).trans (q26v3 fuel x10.1 x10.2 x1 x2 x3 x4 x5 x6 x7 x8 x9 k fuel x11 0)

def s26v15 (x98 : Bool) (x1 : Nat) (x2 : Nat → Nat → CV) (x5 : ByteArray) (x6 : Int) (x7 : Int) (x8 : Int) (x9 : Bool) (x99 : Nat × (Nat → Nat → CV)) (x3 : Nat) (x4 : Nat → Nat → CV) : St := ⟨[.u, .u, .x (.ptr 0 0), .x (.ptr 1 0), .x (.ptr 2 0), .u, .x (.c (.b x98)), .u, .u, .x (.ptr 3 0), .x (.c (.i .i64 0)), .u, .u, .u, .u, .u, .u, .u, .u, .u, .u, .u, .u, .u, .u, .u, .u, .u, .u, .u, .u, .u, .u, .u, .u, .u, .u, .u, .u, .u, .u, .u, .u, .u, .u, .u, .u, .u, .u, .u, .u, .u, .u, .u, .x (.ptr 0 0), .x (.c (.ro false (.pr (.int .i64) (.pr (.int .i64) .nil)) x1 x2)), .agg [(.c (.s x5)), (.c (.i .i64 x6)), (.c (.i .i64 x7)), (.c (.i .i64 x8)), (.c (.b x9))], .x (.c (.ro false (.pr (.int .i64) (.pr (.int .i64) .nil)) x99.1 x99.2)), .agg [(.c (.ro false (.pr (.int .i64) (.pr (.int .i64) .nil)) x99.1 x99.2)), (.c (.ro true .nil 0 (fun _ _ => .any)))], .u, .u, .u, .u, .u, .u, .u, .u, .u, .u, .u, .u, .u, .u, .u, .u, .u, .u, .u, .u],
    [.box [(.c (.ro false (.pr (.int .i64) (.pr (.int .i64) .nil)) x1 x2)), (.c (.ro false (.pr (.sl (.pr (.int .i64) (.pr (.int .i64) .nil))) .nil) x3 x4))], .box [(.c (.s x5)), (.c (.i .i64 x6)), (.c (.i .i64 x7)), (.c (.i .i64 x8)), (.c (.b x9))], .box [(.c (.ro true .nil 0 (fun _ _ => .any))), (.c (.ro true .nil 0 (fun _ _ => .any)))], .box [(.c (.ro false (.pr (.int .i64) (.pr (.int .i64) .nil)) x99.1 x99.2)), (.own 4 0 0)], .arr (.pr (.sl (.pr (.int .i64) (.pr (.int .i64) .nil))) .nil) 0 (fun _ _ => .any)]⟩

theorem g26v6 (fuel : Nat) (x98 : Bool) (x1 : Nat) (x2 : Nat → Nat → CV) (x3 : Nat) (x4 : Nat → Nat → CV) (x5 : ByteArray) (x6 : Int) (x7 : Int) (x8 : Int) (x9 : Bool) :
    (kBlk 0 (kSeq (C57 fuel) fuel [7, 8, 26, 27, 28, 29, 30, 31, 32, 33, 34, 35, 36, 37, 38, 39, 40, 41, 42, 43, 44, 45, 46, 47, 48, 49, 50, 51] A26v10 (finish A26))) (.exit 0) (s26v3 x98 x1 x2 x3 x4 x5 x6 x7 x8 x9) =
    (bif x98 then (some [.agg [(.ro true .nil 0 (fun _ _ => .any)), (.ro true .nil 0 (fun _ _ => .any))]]) else (ob (F54 fuel x1 x2 x5 x6 x7 x8 x9) fun x99 => (loopN (B26v4 (C57 fuel) fuel) N26v4 fuel (s26v15 x98 x1 x2 x5 x6 x7 x8 x9 x99 x3 x4) (kBlk 4 (kSeq (C57 fuel) fuel [10, 59, 60, 61, 62, 63, 64, 65, 66, 67, 68, 69, 70, 71, 72, 73, 74, 75, 76, 77] A26v8 (finish A26)))))) := by kernel_rfl

theorem t26v7 (fuel : Nat) {ρ : Type} (k : Ex → St → Option ρ) (x98 : Bool) (x1 : Nat) (x2 : Nat → Nat → CV) (x5 : ByteArray) (x6 : Int) (x7 : Int) (x8 : Int) (x9 : Bool) (x99 : Nat × (Nat → Nat → CV)) (x3 : Nat) (x4 : Nat → Nat → CV) :
    loopN (B26v4 (C57 fuel) fuel) N26v4 fuel (s26v15 x98 x1 x2 x5 x6 x7 x8 x9 x99 x3 x4) k =
    L26v4 fuel x1 x2 x3 x4 x5 x6 x7 x8 x9 x99.1 x99.2 fuel 0 0 (fun _ _ => .any) (fun x127 x128 => k (.exit 4) (s26v6 x1 x2 x3 x4 x5 x6 x7 x8 x9 x99.1 x99.2 x127 x128)) :=
  (loopN_at (st' := (s26v5 0 x1 x2 x3 x4 x5 x6 x7 x8 x9 x99.1 x99.2 0 (fun _ _ => .any))) (by kernel_rfl)).trans (q26v4 fuel x1 x2 x3 x4 x5 x6 x7 x8 x9 x99.1 x99.2 k fuel 0 0 (fun _ _ => .any))

theorem g26v8 (fuel : Nat) (x1 : Nat) (x2 : Nat → Nat → CV) (x3 : Nat) (x4 : Nat → Nat → CV) (x5 : ByteArray) (x6 : Int) (x7 : Int) (x8 : Int) (x9 : Bool) (x99 : Nat × (Nat → Nat → CV)) (x129 : Nat) (x130 : Nat → Nat → CV) :
    (kBlk 4 (kSeq (C57 fuel) fuel [10, 59, 60, 61, 62, 63, 64, 65, 66, 67, 68, 69, 70, 71, 72, 73, 74, 75, 76, 77] A26v8 (finish A26))) (.exit 4) (s26v6 x1 x2 x3 x4 x5 x6 x7 x8 x9 x99.1 x99.2 x129 x130) =
    (some [.agg [(.ro false (.pr (.int .i64) (.pr (.int .i64) .nil)) x99.1 x99.2), (.ro false (.pr (.sl (.pr (.int .i64) (.pr (.int .i64) .nil))) .nil) x129 x130)]]) := by kernel_rfl

theorem t26v9 (fuel : Nat) {ρ : Type} (k : Ex → St → Option ρ) (x1 : Nat) (x2 : Nat → Nat → CV) (x3 : Nat) (x4 : Nat → Nat → CV) (x5 : ByteArray) (x6 : Int) (x7 : Int) (x8 : Int) (x9 : Bool) (x10 : Nat × (Nat → Nat → CV)) :
    loopN (B26v7 (C57 fuel) fuel) N26v7 fuel (s26v13 x1 x2 x3 x4 x5 x6 x7 x8 x9 x10) k =
    L26v7 fuel x10.1 x10.2 x1 x2 x3 x4 x5 x6 x7 x8 x9 fuel 0 (k (.exit 0) (s26v10 x1 x2 x3 x4 x5 x6 x7 x8 x9)) :=
  (loopN_at (st' := (s26v9 x10.1 x10.2 0 x1 x2 x3 x4 x5 x6 x7 x8 x9)) (by kernel_rfl)).trans (q26v7 fuel x10.1 x10.2 x1 x2 x3 x4 x5 x6 x7 x8 x9 k fuel 0)

theorem g26v10 (fuel : Nat) (x1 : Nat) (x2 : Nat → Nat → CV) (x3 : Nat) (x4 : Nat → Nat → CV) (x5 : ByteArray) (x6 : Int) (x7 : Int) (x8 : Int) (x9 : Bool) :
    (kBlk 0 (kSeq (C57 fuel) fuel [7, 8, 26, 27, 28, 29, 30, 31, 32, 33, 34, 35, 36, 37, 38, 39, 40, 41, 42, 43, 44, 45, 46, 47, 48, 49, 50, 51] A26v10 (finish A26))) (.exit 0) (s26v10 x1 x2 x3 x4 x5 x6 x7 x8 x9) =
    (some [.agg [(.ro true .nil 0 (fun _ _ => .any)), (.ro true .nil 0 (fun _ _ => .any))]]) := by kernel_rfl

theorem t26v11 (fuel : Nat) {ρ : Type} (k : Ex → St → Option ρ) (x1 : Nat) (x2 : Nat → Nat → CV) (x3 : Nat) (x4 : Nat → Nat → CV) (x5 : ByteArray) (x6 : Int) (x7 : Int) (x8 : Int) (x9 : Bool) (x10 : Nat × (Nat → Nat → CV)) :
    loopN (B26v7 (C57 fuel) fuel) N26v7 fuel (s26v14 x1 x2 x3 x4 x5 x6 x7 x8 x9 x10) k =
    L26v7 fuel x10.1 x10.2 x1 x2 x3 x4 x5 x6 x7 x8 x9 fuel 0 (k (.exit 0) (s26v10 x1 x2 x3 x4 x5 x6 x7 x8 x9)) :=
  (loopN_at (st' := (s26v9 x10.1 x10.2 0 x1 x2 x3 x4 x5 x6 x7 x8 x9)) (by kernel_rfl)).trans (q26v7 fuel x10.1 x10.2 x1 x2 x3 x4 x5 x6 x7 x8 x9 k fuel 0)

theorem g26v12 (fuel : Nat) (x1 : Nat) (x2 : Nat → Nat → CV) (x3 : Nat) (x4 : Nat → Nat → CV) (x5 : ByteArray) (x6 : Int) (x7 : Int) (x8 : Int) (x9 : Bool) :
    (kBlk 0 (kSeq (C57 fuel) fuel [7, 8, 26, 27, 28, 29, 30, 31, 32, 33, 34, 35, 36, 37, 38, 39, 40, 41, 42, 43, 44, 45, 46, 47, 48, 49, 50, 51] A26v10 (finish A26))) (.exit 0) (s26v10 x1 x2 x3 x4 x5 x6 x7 x8 x9) =
    (some [.agg [(.ro true .nil 0 (fun _ _ => .any)), (.ro true .nil 0 (fun _ _ => .any))]]) := by kernel_rfl

theorem e26 (fuel : Nat) (x1 : Nat) (x2 : Nat → Nat → CV) (x3 : Nat) (x4 : Nat → Nat → CV) (x5 : ByteArray) (x6 : Int) (x7 : Int) (x8 : Int) (x9 : Bool) : evalF (C57 fuel) fuel A26 [.agg [(.ro false (.pr (.int .i64) (.pr (.int .i64) .nil)) x1 x2), (.ro false (.pr (.sl (.pr (.int .i64) (.pr (.int .i64) .nil))) .nil) x3 x4)], .agg [(.s x5), (.i .i64 x6), (.i .i64 x7), (.i .i64 x8), (.b x9)]] = ob (FT26 fuel x1 x2 x3 x4 x5 x6 x7 x8 x9) fun t => some (bif t.1 then [.agg [(.ro true .nil 0 (fun _ _ => .any)), (.ro true .nil 0 (fun _ _ => .any))]] else [.agg [(.ro false (.pr (.int .i64) (.pr (.int .i64) .nil)) t.2.1 t.2.2.1), (.ro false (.pr (.sl (.pr (.int .i64) (.pr (.int .i64) .nil))) .nil) t.2.2.2.1 t.2.2.2.2)]]) := by
  rw [walk26, ← f26]
  simp only [D26, t26v5, g26v6, t26v7, g26v8, t26v9, g26v10, t26v11, g26v12, cond_true, cond_false]

def F26 (fuel : Nat) (x1 : Nat) (x2 : Nat → Nat → CV) (x3 : Nat) (x4 : Nat → Nat → CV) (x5 : ByteArray) (x6 : Int) (x7 : Int) (x8 : Int) (x9 : Bool) : Option (Nat × (Nat → Nat → CV) × Nat × (Nat → Nat → CV)) := ob (FT26 fuel x1 x2 x3 x4 x5 x6 x7 x8 x9) fun t => some (bif t.1 then (0, (fun _ _ => .any), 0, (fun _ _ => .any)) else (t.2.1, t.2.2.1, t.2.2.2.1, t.2.2.2.2))

def O26 (fuel : Nat) : Ora where
  o := fun args {ρ} K =>
    wc args fun a1 l2 =>
    wagg a1 fun l3 =>
    wc l3 fun c4 l5 =>
    wL (.pr (.int .i64) (.pr (.int .i64) .nil)) c4 fun y6 y7 =>
    wc l5 fun c9 l10 =>
    wL (.pr (.sl (.pr (.int .i64) (.pr (.int .i64) .nil))) .nil) c9 fun y11 y12 =>
    wn l10 <|
    wc l2 fun a14 l15 =>
    wagg a14 fun l16 =>
    wc l16 fun c17 l18 =>
    wS c17 fun y19 =>
    wc l18 fun c21 l22 =>
    wI .i64 c21 fun y23 =>
    wc l22 fun c25 l26 =>
    wI .i64 c25 fun y27 =>
    wc l26 fun c29 l30 =>
    wI .i64 c29 fun y31 =>
    wc l30 fun c33 l34 =>
    wB c33 fun y35 =>
    wn l34 <|
    wn l15 <|
    (ob (F26 fuel y6 y7 y11 y12 y19 y23 y27 y31 y35) fun t => K [.agg [(.ro false (.pr (.int .i64) (.pr (.int .i64) .nil)) t.1 t.2.1), (.ro false (.pr (.sl (.pr (.int .i64) (.pr (.int .i64) .nil))) .nil) t.2.2.1 t.2.2.2)]])
  nat := fun args {ρ} K => by
    simp only [bind_wc, bind_wn, bind_wv, bind_wagg, bind_wI, bind_wB, bind_wS, bind_wL, bind_wP, bind_wFn, bind_ob, Option.bind_some]

theorem d26 {P : Program} (fuel : Nat) (hmix : P.follows .mixedOrders = true) (hC : Sound P (C57 fuel)) (hF : FFits P 26 A26) (args res : List A) (h : (O26 fuel).o args some = some res) : Den P 26 args res := by
  obtain ⟨a1, l2, rfl, z0⟩ := inv_wc h
  obtain ⟨l3, rfl, z1⟩ := inv_wagg z0
  obtain ⟨c4, l5, rfl, z2⟩ := inv_wc z1
  obtain ⟨y6, y7, h8, z3⟩ := inv_wL z2
  obtain ⟨c9, l10, rfl, z4⟩ := inv_wc z3
  obtain ⟨y11, y12, h13, z5⟩ := inv_wL z4
  obtain ⟨hn, z6⟩ := inv_wn z5
  cases hn
  obtain ⟨a14, l15, rfl, z7⟩ := inv_wc z6
  obtain ⟨l16, rfl, z8⟩ := inv_wagg z7
  obtain ⟨c17, l18, rfl, z9⟩ := inv_wc z8
  obtain ⟨y19, h20, z10⟩ := inv_wS z9
  obtain ⟨c21, l22, rfl, z11⟩ := inv_wc z10
  obtain ⟨y23, h24, z12⟩ := inv_wI z11
  obtain ⟨c25, l26, rfl, z13⟩ := inv_wc z12
  obtain ⟨y27, h28, z14⟩ := inv_wI z13
  obtain ⟨c29, l30, rfl, z15⟩ := inv_wc z14
  obtain ⟨y31, h32, z16⟩ := inv_wI z15
  obtain ⟨c33, l34, rfl, z17⟩ := inv_wc z16
  obtain ⟨y35, h36, z18⟩ := inv_wB z17
  obtain ⟨hn, z19⟩ := inv_wn z18
  cases hn
  obtain ⟨hn, z20⟩ := inv_wn z19
  cases hn
  obtain ⟨u, hu, hr⟩ := ob_inv z20
  cases hr
  obtain ⟨t, ht, hv⟩ := ob_inv (show ob (FT26 fuel y6 y7 y11 y12 y19 y23 y27 y31 y35) _ = some u from hu)
  cases hv
  refine Den.results ?_ (Den.weaken (.cons (WkA.agg (.cons h8 (.cons h13 .nil))) (.cons (WkA.agg (.cons (Wk.s h20) (.cons (Wk.i h24) (.cons (Wk.i h28) (.cons (Wk.i h32) (.cons (Wk.b h36) .nil)))))) .nil)) (evalF_sound hmix hC hF ((e26 fuel y6 y7 y11 y12 y19 y23 y27 y31 y35).trans (by rw [ht]; rfl))))
  obtain ⟨b, t⟩ := t
  cases b with
  | true => exact (.cons (WkA.agg (.cons (Wk.ro (by rfl)) (.cons (Wk.ro (by rfl)) .nil))) .nil)
  | false =>
    exact (.cons (WkA.agg (.cons (Wk.refl _) (.cons (Wk.refl _) .nil))) .nil)

def C58 (fuel : Nat) : Oracle := (C57 fuel).add 26 (fun _ => true) (O26 fuel)

/-- shipyard/shipyardlaw13.RegionMoves -/
def A6 : AF := ⟨19, [.tmp 4],
  (.seq (.region 0 [
  ⟨(some 2), .box 0 25 (.tmp 0), none⟩,
  ⟨(some 3), .box 1 41 (.tmp 1), none⟩,
  ⟨(some 4), .assign (.const (.bool false)), none⟩] 2 none) []
  (.seq (.region 1 [
  ⟨(some 5), .load 25 (some 2) (.tmp 2), none⟩,
  ⟨(some 6), .call 12 [(.tmp 5)] [25] .snap, none⟩,
  ⟨(some 7), .move (.tmp 6), none⟩,
  ⟨(some 8), .load 25 (some 2) (.tmp 2), (some (7, false))⟩,
  ⟨(some 9), .load 41 (some 5) (.tmp 3), (some (7, false))⟩,
  ⟨(some 10), .call 25 [(.tmp 8), (.tmp 9)] [25, 41] .freeze, (some (7, false))⟩,
  ⟨(some 11), .load 25 (some 2) (.tmp 2), (some (7, false))⟩,
  ⟨(some 12), .load 41 (some 5) (.tmp 3), (some (7, false))⟩,
  ⟨(some 13), .call 26 [(.tmp 11), (.tmp 12)] [25, 41] .freeze, (some (7, false))⟩,
  ⟨(some 14), .call 24 [(.tmp 10), (.tmp 13)] [25, 25] .snap, (some (7, false))⟩,
  ⟨(some 15), .pick (.tmp 7) (.const (.bool true)) (.tmp 14), none⟩,
  ⟨(some 16), .move (.tmp 15), none⟩,
  ⟨(some 17), .call 15 [] [] .snap, (some (16, true))⟩,
  ⟨(some 18), .pick (.tmp 16) (.tmp 17) (.const (.bool false)), none⟩,
  ⟨(some 4), .assign (.tmp 18), none⟩] 0 (some [[], [0], [0, 1], [0, 1, 2], [0, 1, 2], [0, 1, 2, 3, 4], [0, 1, 2], [0, 1, 2], [0, 1, 2, 3, 4, 5, 6, 7], [0, 1, 2, 3, 4, 5, 6, 7, 8], [0, 1, 2, 3, 4, 5, 6, 7, 8, 9], [0, 1, 2, 3, 4, 5, 6, 7, 8, 9, 10], [0, 1, 2, 3, 4, 5, 6, 7, 8, 9, 10, 11], [0, 1, 2, 3, 4, 5, 6, 7, 8, 9, 10, 11, 12], [0, 1, 2, 3, 4, 5, 6, 7, 8, 9, 10, 11, 12, 13]])) []
  (.ret [0, 1, 2, 3, 5, 6, 7, 8, 9, 10, 11, 12, 13, 14, 15, 16, 17, 18])))⟩

def D6 {ρ : Type} (fuel : Nat) (x1 : Nat) (x2 : Nat → Nat → CV) (x3 : Nat) (x4 : Nat → Nat → CV) (x5 : ByteArray) (x6 : Int) (x7 : Int) (x8 : Int) (x9 : Bool) (k : Bool → Option ρ) : Option ρ :=
  (ob (F12 fuel x1 x2 x3 x4) fun x10 => (bif (x10 == false) then (ob (F25 fuel x1 x2 x3 x4 x5 x6 x7 x8 x9) fun x11 => (ob (F26 fuel x1 x2 x3 x4 x5 x6 x7 x8 x9) fun x12 => (ob (F24 fuel x11.1 x11.2.1 x11.2.2.1 x11.2.2.2 x12.1 x12.2.1 x12.2.2.1 x12.2.2.2) fun x13 => (bif (x13 == true) then (ob (F15 fuel) fun x14 => (k x14)) else (k false))))) else (ob (F15 fuel) fun x15 => (k x15))))

def F6 (fuel : Nat) (x1 : Nat) (x2 : Nat → Nat → CV) (x3 : Nat) (x4 : Nat → Nat → CV) (x5 : ByteArray) (x6 : Int) (x7 : Int) (x8 : Int) (x9 : Bool) : Option (Bool) := D6 fuel x1 x2 x3 x4 x5 x6 x7 x8 x9 some

theorem n6 {ρ σ : Type} (fuel : Nat) (x1 : Nat) (x2 : Nat → Nat → CV) (x3 : Nat) (x4 : Nat → Nat → CV) (x5 : ByteArray) (x6 : Int) (x7 : Int) (x8 : Int) (x9 : Bool) (k : (Bool) → Option ρ) (g : ρ → Option σ) : ob (D6 fuel x1 x2 x3 x4 x5 x6 x7 x8 x9 k) g = D6 fuel x1 x2 x3 x4 x5 x6 x7 x8 x9 fun t => ob (k t) g := by
  simp only [D6, ob_bif, ob_ob, ob_none]

theorem f6 {ρ : Type} (fuel : Nat) (x1 : Nat) (x2 : Nat → Nat → CV) (x3 : Nat) (x4 : Nat → Nat → CV) (x5 : ByteArray) (x6 : Int) (x7 : Int) (x8 : Int) (x9 : Bool) (k : (Bool) → Option ρ) : D6 fuel x1 x2 x3 x4 x5 x6 x7 x8 x9 k = ob (F6 fuel x1 x2 x3 x4 x5 x6 x7 x8 x9) k := by
  unfold F6
  rw [n6]
  simp only [ob_some]

theorem walk6 (fuel : Nat) (x1 : Nat) (x2 : Nat → Nat → CV) (x3 : Nat) (x4 : Nat → Nat → CV) (x5 : ByteArray) (x6 : Int) (x7 : Int) (x8 : Int) (x9 : Bool) :
    evalF (C58 fuel) fuel A6 [.agg [(.ro false (.pr (.int .i64) (.pr (.int .i64) .nil)) x1 x2), (.ro false (.pr (.sl (.pr (.int .i64) (.pr (.int .i64) .nil))) .nil) x3 x4)], .agg [(.s x5), (.i .i64 x6), (.i .i64 x7), (.i .i64 x8), (.b x9)]] =
    (ob (F12 fuel x1 x2 x3 x4) fun x10 => (bif (x10 == false) then (ob (F25 fuel x1 x2 x3 x4 x5 x6 x7 x8 x9) fun x11 => (ob (F26 fuel x1 x2 x3 x4 x5 x6 x7 x8 x9) fun x12 => (ob (F24 fuel x11.1 x11.2.1 x11.2.2.1 x11.2.2.2 x12.1 x12.2.1 x12.2.2.1 x12.2.2.2) fun x13 => (bif (x13 == true) then (ob (F15 fuel) fun x14 => (some [.v (.b x14)])) else (some [.v (.b false)]))))) else (ob (F15 fuel) fun x15 => (some [.v (.b x15)])))) := by kernel_rfl

theorem e6 (fuel : Nat) (x1 : Nat) (x2 : Nat → Nat → CV) (x3 : Nat) (x4 : Nat → Nat → CV) (x5 : ByteArray) (x6 : Int) (x7 : Int) (x8 : Int) (x9 : Bool) : evalF (C58 fuel) fuel A6 [.agg [(.ro false (.pr (.int .i64) (.pr (.int .i64) .nil)) x1 x2), (.ro false (.pr (.sl (.pr (.int .i64) (.pr (.int .i64) .nil))) .nil) x3 x4)], .agg [(.s x5), (.i .i64 x6), (.i .i64 x7), (.i .i64 x8), (.b x9)]] = ob (F6 fuel x1 x2 x3 x4 x5 x6 x7 x8 x9) fun t => some [.v (.b t)] := by
  rw [walk6, ← f6]
  simp only [D6]

def O6 (fuel : Nat) : Ora where
  o := fun args {ρ} K =>
    wc args fun a1 l2 =>
    wagg a1 fun l3 =>
    wc l3 fun c4 l5 =>
    wL (.pr (.int .i64) (.pr (.int .i64) .nil)) c4 fun y6 y7 =>
    wc l5 fun c9 l10 =>
    wL (.pr (.sl (.pr (.int .i64) (.pr (.int .i64) .nil))) .nil) c9 fun y11 y12 =>
    wn l10 <|
    wc l2 fun a14 l15 =>
    wagg a14 fun l16 =>
    wc l16 fun c17 l18 =>
    wS c17 fun y19 =>
    wc l18 fun c21 l22 =>
    wI .i64 c21 fun y23 =>
    wc l22 fun c25 l26 =>
    wI .i64 c25 fun y27 =>
    wc l26 fun c29 l30 =>
    wI .i64 c29 fun y31 =>
    wc l30 fun c33 l34 =>
    wB c33 fun y35 =>
    wn l34 <|
    wn l15 <|
    (ob (F6 fuel y6 y7 y11 y12 y19 y23 y27 y31 y35) fun t => K [.v (.b t)])
  nat := fun args {ρ} K => by
    simp only [bind_wc, bind_wn, bind_wv, bind_wagg, bind_wI, bind_wB, bind_wS, bind_wL, bind_wP, bind_wFn, bind_ob, Option.bind_some]

theorem d6 {P : Program} (fuel : Nat) (hmix : P.follows .mixedOrders = true) (hC : Sound P (C58 fuel)) (hF : FFits P 6 A6) (args res : List A) (h : (O6 fuel).o args some = some res) : Den P 6 args res := by
  obtain ⟨a1, l2, rfl, z0⟩ := inv_wc h
  obtain ⟨l3, rfl, z1⟩ := inv_wagg z0
  obtain ⟨c4, l5, rfl, z2⟩ := inv_wc z1
  obtain ⟨y6, y7, h8, z3⟩ := inv_wL z2
  obtain ⟨c9, l10, rfl, z4⟩ := inv_wc z3
  obtain ⟨y11, y12, h13, z5⟩ := inv_wL z4
  obtain ⟨hn, z6⟩ := inv_wn z5
  cases hn
  obtain ⟨a14, l15, rfl, z7⟩ := inv_wc z6
  obtain ⟨l16, rfl, z8⟩ := inv_wagg z7
  obtain ⟨c17, l18, rfl, z9⟩ := inv_wc z8
  obtain ⟨y19, h20, z10⟩ := inv_wS z9
  obtain ⟨c21, l22, rfl, z11⟩ := inv_wc z10
  obtain ⟨y23, h24, z12⟩ := inv_wI z11
  obtain ⟨c25, l26, rfl, z13⟩ := inv_wc z12
  obtain ⟨y27, h28, z14⟩ := inv_wI z13
  obtain ⟨c29, l30, rfl, z15⟩ := inv_wc z14
  obtain ⟨y31, h32, z16⟩ := inv_wI z15
  obtain ⟨c33, l34, rfl, z17⟩ := inv_wc z16
  obtain ⟨y35, h36, z18⟩ := inv_wB z17
  obtain ⟨hn, z19⟩ := inv_wn z18
  cases hn
  obtain ⟨hn, z20⟩ := inv_wn z19
  cases hn
  exact Den.weaken (.cons (WkA.agg (.cons h8 (.cons h13 .nil))) (.cons (WkA.agg (.cons (Wk.s h20) (.cons (Wk.i h24) (.cons (Wk.i h28) (.cons (Wk.i h32) (.cons (Wk.b h36) .nil)))))) .nil)) (evalF_sound hmix hC hF ((e6 fuel y6 y7 y11 y12 y19 y23 y27 y31 y35).trans z20))

def C59 (fuel : Nat) : Oracle := (C58 fuel).add 6 (fun _ => true) (O6 fuel)

end Go.Eng.R13
