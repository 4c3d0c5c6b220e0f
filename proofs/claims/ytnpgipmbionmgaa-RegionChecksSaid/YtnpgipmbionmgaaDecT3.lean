/-
  The functions of the program, run on symbols; printed by decomp.py.
-/
import Derived.Test.YtnpgipmbionmgaaDecT2
set_option linter.all false
set_option maxRecDepth 1000000
set_option maxHeartbeats 4000000
namespace Go.Eng.R13
open Go Go.RowKit Go.Eng
/-- shipyard/region.near -/
def A57v1 : AC := (.seq (.region 10 [
  ⟨(some 81), .fieldAddr 34 (.tmp 4) 0 0, none⟩,
  ⟨(some 82), .load 3 none (.tmp 81), none⟩,
  ⟨(some 83), .fieldAddr 34 (.tmp 13) 0 0, none⟩,
  ⟨(some 84), .load 3 none (.tmp 83), none⟩,
  ⟨(some 85), .binOp .sub 3 (.tmp 82) (.tmp 84) 3, none⟩,
  ⟨(some 86), .fieldAddr 34 (.tmp 4) 1 1, none⟩,
  ⟨(some 87), .load 3 none (.tmp 86), none⟩,
  ⟨(some 88), .fieldAddr 34 (.tmp 13) 1 1, none⟩,
  ⟨(some 89), .load 3 none (.tmp 88), none⟩,
  ⟨(some 90), .binOp .sub 3 (.tmp 87) (.tmp 89) 3, none⟩,
  ⟨(some 14), .assign (.tmp 85), none⟩,
  ⟨(some 15), .assign (.tmp 90), none⟩] 0 (some [[], [0], [], [2], [0, 1, 2, 3], [], [5], [], [7], [5, 6, 7, 8], [0, 1, 2, 3, 4], [0, 1, 2, 3, 4, 5, 6, 7, 8, 9, 10]])) []
  (.seq (.region 11 [
  ⟨(some 91), .move (.tmp 14), none⟩,
  ⟨(some 92), .move (.tmp 14), none⟩,
  ⟨(some 93), .binOp .mul 3 (.tmp 91) (.tmp 92) 3, none⟩,
  ⟨(some 94), .move (.tmp 15), none⟩,
  ⟨(some 95), .move (.tmp 15), none⟩,
  ⟨(some 96), .binOp .mul 3 (.tmp 94) (.tmp 95) 3, none⟩,
  ⟨(some 97), .binOp .add 3 (.tmp 93) (.tmp 96) 3, none⟩,
  ⟨(some 98), .move (.tmp 3), none⟩,
  ⟨(some 99), .move (.tmp 3), none⟩,
  ⟨(some 100), .binOp .mul 3 (.tmp 98) (.tmp 99) 3, none⟩,
  ⟨(some 101), .binOp .lss 3 (.tmp 97) (.tmp 100) 3, none⟩,
  ⟨(some 8), .assign (.tmp 101), none⟩] 0 none) []
  (.ret [0, 1, 2, 3, 4, 5, 6, 7, 9, 10, 11, 12, 13, 14, 15, 16, 17, 18, 19, 20, 21, 22, 23, 24, 25, 26, 27, 28, 29, 30, 31, 32, 33, 34, 35, 36, 37, 38, 39, 40, 41, 42, 43, 44, 45, 46, 47, 48, 49, 50, 51, 52, 53, 54, 55, 56, 57, 58, 59, 60, 61, 62, 63, 64, 65, 66, 67, 68, 69, 70, 71, 72, 73, 74, 75, 76, 77, 78, 79, 80, 81, 82, 83, 84, 85, 86, 87, 88, 89, 90, 91, 92, 93, 94, 95, 96, 97, 98, 99, 100, 101])))
def A57v2 : AC := (.seq (.region 7 [
  ⟨(some 77), .load 34 (some 2) (.tmp 5), none⟩,
  ⟨(some 13), .alloc 0 34 [.c (.i .i64 0), .c (.i .i64 0)], none⟩,
  ⟨none, .store 34 2 (.tmp 13) (.tmp 77), none⟩] 1 none) []
  (.seq (.seq (.region 8 [
  ⟨(some 78), .move (.tmp 11), none⟩,
  ⟨(some 79), .binOp .gtr 3 (.tmp 78) (.const (.int .i64 0)) 3, none⟩] 0 none) []
  (.cond (.tmp 79)
  (.region 9 [
    ⟨(some 80), .load 34 (some 2) (.tmp 6), none⟩,
    ⟨none, .store 34 2 (.tmp 13) (.tmp 80), none⟩] 0 none)
  .skip)) [78, 79, 80]
  A57v1))
def A57 : AF := ⟨102, [.tmp 8],
  (.seq (.region 0 [
  ⟨(some 4), .box 0 34 (.tmp 0), none⟩,
  ⟨(some 5), .box 1 34 (.tmp 1), none⟩,
  ⟨(some 6), .box 2 34 (.tmp 2), none⟩,
  ⟨(some 8), .assign (.const (.bool false)), none⟩] 3 none) []
  (.seq (.region 1 [
  ⟨(some 16), .fieldAddr 34 (.tmp 6) 0 0, none⟩,
  ⟨(some 17), .load 3 none (.tmp 16), none⟩,
  ⟨(some 18), .fieldAddr 34 (.tmp 5) 0 0, none⟩,
  ⟨(some 19), .load 3 none (.tmp 18), none⟩,
  ⟨(some 20), .binOp .sub 3 (.tmp 17) (.tmp 19) 3, none⟩,
  ⟨(some 21), .fieldAddr 34 (.tmp 6) 1 1, none⟩,
  ⟨(some 22), .load 3 none (.tmp 21), none⟩,
  ⟨(some 23), .fieldAddr 34 (.tmp 5) 1 1, none⟩,
  ⟨(some 24), .load 3 none (.tmp 23), none⟩,
  ⟨(some 25), .binOp .sub 3 (.tmp 22) (.tmp 24) 3, none⟩,
  ⟨(some 26), .build 34 [.c (.i .i64 0), .c (.i .i64 0)] [(0, 1), (1, 1)] 0 [(0, (.tmp 20)), (1, (.tmp 25))], none⟩,
  ⟨(some 9), .alloc 0 34 [.c (.i .i64 0), .c (.i .i64 0)], none⟩,
  ⟨none, .store 34 2 (.tmp 9) (.tmp 26), none⟩] 1 none) []
  (.seq (.region 2 [
  ⟨(some 27), .fieldAddr 34 (.tmp 9) 0 0, none⟩,
  ⟨(some 28), .load 3 none (.tmp 27), none⟩,
  ⟨(some 29), .fieldAddr 34 (.tmp 9) 0 0, none⟩,
  ⟨(some 30), .load 3 none (.tmp 29), none⟩,
  ⟨(some 31), .binOp .mul 3 (.tmp 28) (.tmp 30) 3, none⟩,
  ⟨(some 32), .fieldAddr 34 (.tmp 9) 1 1, none⟩,
  ⟨(some 33), .load 3 none (.tmp 32), none⟩,
  ⟨(some 34), .fieldAddr 34 (.tmp 9) 1 1, none⟩,
  ⟨(some 35), .load 3 none (.tmp 34), none⟩,
  ⟨(some 36), .binOp .mul 3 (.tmp 33) (.tmp 35) 3, none⟩,
  ⟨(some 37), .binOp .add 3 (.tmp 31) (.tmp 36) 3, none⟩,
  ⟨(some 10), .assign (.tmp 37), none⟩] 0 none) []
  (.seq (.region 3 [
  ⟨(some 38), .fieldAddr 34 (.tmp 4) 0 0, none⟩,
  ⟨(some 39), .load 3 none (.tmp 38), none⟩,
  ⟨(some 40), .fieldAddr 34 (.tmp 5) 0 0, none⟩,
  ⟨(some 41), .load 3 none (.tmp 40), none⟩,
  ⟨(some 42), .binOp .sub 3 (.tmp 39) (.tmp 41) 3, none⟩,
  ⟨(some 43), .fieldAddr 34 (.tmp 9) 0 0, none⟩,
  ⟨(some 44), .load 3 none (.tmp 43), none⟩,
  ⟨(some 45), .binOp .mul 3 (.tmp 42) (.tmp 44) 3, none⟩,
  ⟨(some 46), .fieldAddr 34 (.tmp 4) 1 1, none⟩,
  ⟨(some 47), .load 3 none (.tmp 46), none⟩,
  ⟨(some 48), .fieldAddr 34 (.tmp 5) 1 1, none⟩,
  ⟨(some 49), .load 3 none (.tmp 48), none⟩,
  ⟨(some 50), .binOp .sub 3 (.tmp 47) (.tmp 49) 3, none⟩,
  ⟨(some 51), .fieldAddr 34 (.tmp 9) 1 1, none⟩,
  ⟨(some 52), .load 3 none (.tmp 51), none⟩,
  ⟨(some 53), .binOp .mul 3 (.tmp 50) (.tmp 52) 3, none⟩,
  ⟨(some 54), .binOp .add 3 (.tmp 45) (.tmp 53) 3, none⟩,
  ⟨(some 11), .assign (.tmp 54), none⟩] 0 none) []
  (.seq (.seq (.region 4 [
  ⟨(some 55), .move (.tmp 11), none⟩,
  ⟨(some 56), .binOp .gtr 3 (.tmp 55) (.const (.int .i64 0)) 3, none⟩,
  ⟨(some 57), .move (.tmp 56), none⟩,
  ⟨(some 58), .move (.tmp 11), (some (57, true))⟩,
  ⟨(some 59), .move (.tmp 10), (some (57, true))⟩,
  ⟨(some 60), .binOp .lss 3 (.tmp 58) (.tmp 59) 3, (some (57, true))⟩,
  ⟨(some 61), .pick (.tmp 57) (.tmp 60) (.const (.bool false)), none⟩] 0 none) []
  (.cond (.tmp 61)
  (.seq (.region 5 [
    ⟨(some 62), .load 34 (some 2) (.tmp 5), none⟩,
    ⟨(some 63), .load 34 (some 2) (.tmp 6), none⟩,
    ⟨(some 64), .load 34 (some 2) (.tmp 4), none⟩,
    ⟨(some 65), .call 75 [(.tmp 62), (.tmp 63), (.tmp 64)] [34, 34, 34] .snap, none⟩,
    ⟨(some 12), .assign (.tmp 65), none⟩] 0 none) []
    (.seq (.region 6 [
    ⟨(some 66), .move (.tmp 12), none⟩,
    ⟨(some 67), .move (.tmp 12), none⟩,
    ⟨(some 68), .unOp .neg 3 (.tmp 67), none⟩,
    ⟨(some 69), .mm true [(.tmp 66), (.tmp 68)] [3, 3], none⟩,
    ⟨(some 70), .move (.tmp 3), none⟩,
    ⟨(some 71), .move (.tmp 3), none⟩,
    ⟨(some 72), .binOp .mul 3 (.tmp 70) (.tmp 71) 3, none⟩,
    ⟨(some 73), .move (.tmp 10), none⟩,
    ⟨(some 74), .binOp .mul 3 (.tmp 72) (.tmp 73) 3, none⟩,
    ⟨(some 75), .call 77 [(.tmp 74)] [3] .snap, none⟩,
    ⟨(some 76), .binOp .lss 3 (.tmp 69) (.tmp 75) 3, none⟩,
    ⟨(some 8), .assign (.tmp 76), none⟩] 0 none) []
    (.ret [0, 1, 2, 3, 4, 5, 6, 7, 9, 10, 11, 12, 13, 14, 15, 16, 17, 18, 19, 20, 21, 22, 23, 24, 25, 26, 27, 28, 29, 30, 31, 32, 33, 34, 35, 36, 37, 38, 39, 40, 41, 42, 43, 44, 45, 46, 47, 48, 49, 50, 51, 52, 53, 54, 55, 56, 57, 58, 59, 60, 61, 62, 63, 64, 65, 66, 67, 68, 69, 70, 71, 72, 73, 74, 75, 76, 77, 78, 79, 80, 81, 82, 83, 84, 85, 86, 87, 88, 89, 90, 91, 92, 93, 94, 95, 96, 97, 98, 99, 100, 101])))
  .skip)) [8, 12, 55, 56, 57, 58, 59, 60, 61, 62, 63, 64, 65, 66, 67, 68, 69, 70, 71, 72, 73, 74, 75, 76]
  A57v2)))))⟩

def D57 {ρ : Type} (fuel : Nat) (x1 : Int) (x2 : Int) (x3 : Int) (x4 : Int) (x5 : Int) (x6 : Int) (x7 : Int) (k : Bool → Option ρ) : Option ρ :=
  (bif ((decide ((w64 ((w64 ((w64 (x1 - x3)) * (w64 (x5 - x3)))) + (w64 ((w64 (x2 - x4)) * (w64 (x6 - x4)))))) > 0)) == true) then (bif (decide ((w64 ((w64 ((w64 (x1 - x3)) * (w64 (x5 - x3)))) + (w64 ((w64 (x2 - x4)) * (w64 (x6 - x4)))))) < (w64 ((w64 ((w64 (x5 - x3)) * (w64 (x5 - x3)))) + (w64 ((w64 (x6 - x4)) * (w64 (x6 - x4)))))))) then (ob (F75 fuel x3 x4 x5 x6 x1 x2) fun x8 => (ob (F77 fuel (w64 ((w64 (x7 * x7)) * (w64 ((w64 ((w64 (x5 - x3)) * (w64 (x5 - x3)))) + (w64 ((w64 (x6 - x4)) * (w64 (x6 - x4))))))))) fun x9 => (k (decide ((if (w64 (0 - x8)) > x8 then (w64 (0 - x8)) else x8) < x9))))) else (bif (decide ((w64 ((w64 ((w64 (x1 - x3)) * (w64 (x5 - x3)))) + (w64 ((w64 (x2 - x4)) * (w64 (x6 - x4)))))) > 0)) then (k (decide ((w64 ((w64 ((w64 (x1 - x5)) * (w64 (x1 - x5)))) + (w64 ((w64 (x2 - x6)) * (w64 (x2 - x6)))))) < (w64 (x7 * x7))))) else (k (decide ((w64 ((w64 ((w64 (x1 - x3)) * (w64 (x1 - x3)))) + (w64 ((w64 (x2 - x4)) * (w64 (x2 - x4)))))) < (w64 (x7 * x7))))))) else (bif (decide ((w64 ((w64 ((w64 (x1 - x3)) * (w64 (x5 - x3)))) + (w64 ((w64 (x2 - x4)) * (w64 (x6 - x4)))))) > 0)) then (k (decide ((w64 ((w64 ((w64 (x1 - x5)) * (w64 (x1 - x5)))) + (w64 ((w64 (x2 - x6)) * (w64 (x2 - x6)))))) < (w64 (x7 * x7))))) else (k (decide ((w64 ((w64 ((w64 (x1 - x3)) * (w64 (x1 - x3)))) + (w64 ((w64 (x2 - x4)) * (w64 (x2 - x4)))))) < (w64 (x7 * x7)))))))

def F57 (fuel : Nat) (x1 : Int) (x2 : Int) (x3 : Int) (x4 : Int) (x5 : Int) (x6 : Int) (x7 : Int) : Option (Bool) := D57 fuel x1 x2 x3 x4 x5 x6 x7 some

theorem n57 {ρ σ : Type} (fuel : Nat) (x1 : Int) (x2 : Int) (x3 : Int) (x4 : Int) (x5 : Int) (x6 : Int) (x7 : Int) (k : (Bool) → Option ρ) (g : ρ → Option σ) : ob (D57 fuel x1 x2 x3 x4 x5 x6 x7 k) g = D57 fuel x1 x2 x3 x4 x5 x6 x7 fun t => ob (k t) g := by
  simp only [D57, ob_bif, ob_ob, ob_none]

theorem f57 {ρ : Type} (fuel : Nat) (x1 : Int) (x2 : Int) (x3 : Int) (x4 : Int) (x5 : Int) (x6 : Int) (x7 : Int) (k : (Bool) → Option ρ) : D57 fuel x1 x2 x3 x4 x5 x6 x7 k = ob (F57 fuel x1 x2 x3 x4 x5 x6 x7) k := by
  unfold F57
  rw [n57]
  simp only [ob_some]

theorem walk57 (fuel : Nat) (x1 : Int) (x2 : Int) (x3 : Int) (x4 : Int) (x5 : Int) (x6 : Int) (x7 : Int) :
    evalF (C58 fuel) fuel A57 [.agg [(.i .i64 x1), (.i .i64 x2)], .agg [(.i .i64 x3), (.i .i64 x4)], .agg [(.i .i64 x5), (.i .i64 x6)], .v (.i .i64 x7)] =
    (bif ((decide ((w64 ((w64 ((w64 (x1 - x3)) * (w64 (x5 - x3)))) + (w64 ((w64 (x2 - x4)) * (w64 (x6 - x4)))))) > 0)) == true) then (bif (decide ((w64 ((w64 ((w64 (x1 - x3)) * (w64 (x5 - x3)))) + (w64 ((w64 (x2 - x4)) * (w64 (x6 - x4)))))) < (w64 ((w64 ((w64 (x5 - x3)) * (w64 (x5 - x3)))) + (w64 ((w64 (x6 - x4)) * (w64 (x6 - x4)))))))) then (ob (F75 fuel x3 x4 x5 x6 x1 x2) fun x8 => (ob (F77 fuel (w64 ((w64 (x7 * x7)) * (w64 ((w64 ((w64 (x5 - x3)) * (w64 (x5 - x3)))) + (w64 ((w64 (x6 - x4)) * (w64 (x6 - x4))))))))) fun x9 => (some [.v (.b (decide ((if (w64 (0 - x8)) > x8 then (w64 (0 - x8)) else x8) < x9)))]))) else (bif (decide ((w64 ((w64 ((w64 (x1 - x3)) * (w64 (x5 - x3)))) + (w64 ((w64 (x2 - x4)) * (w64 (x6 - x4)))))) > 0)) then (some [.v (.b (decide ((w64 ((w64 ((w64 (x1 - x5)) * (w64 (x1 - x5)))) + (w64 ((w64 (x2 - x6)) * (w64 (x2 - x6)))))) < (w64 (x7 * x7)))))]) else (some [.v (.b (decide ((w64 ((w64 ((w64 (x1 - x3)) * (w64 (x1 - x3)))) + (w64 ((w64 (x2 - x4)) * (w64 (x2 - x4)))))) < (w64 (x7 * x7)))))]))) else (bif (decide ((w64 ((w64 ((w64 (x1 - x3)) * (w64 (x5 - x3)))) + (w64 ((w64 (x2 - x4)) * (w64 (x6 - x4)))))) > 0)) then (some [.v (.b (decide ((w64 ((w64 ((w64 (x1 - x5)) * (w64 (x1 - x5)))) + (w64 ((w64 (x2 - x6)) * (w64 (x2 - x6)))))) < (w64 (x7 * x7)))))]) else (some [.v (.b (decide ((w64 ((w64 ((w64 (x1 - x3)) * (w64 (x1 - x3)))) + (w64 ((w64 (x2 - x4)) * (w64 (x2 - x4)))))) < (w64 (x7 * x7)))))]))) := by kernel_rfl

theorem e57 (fuel : Nat) (x1 : Int) (x2 : Int) (x3 : Int) (x4 : Int) (x5 : Int) (x6 : Int) (x7 : Int) : evalF (C58 fuel) fuel A57 [.agg [(.i .i64 x1), (.i .i64 x2)], .agg [(.i .i64 x3), (.i .i64 x4)], .agg [(.i .i64 x5), (.i .i64 x6)], .v (.i .i64 x7)] = ob (F57 fuel x1 x2 x3 x4 x5 x6 x7) fun t => some [.v (.b t)] := by
  rw [walk57, ← f57]
  simp only [D57]

def O57 (fuel : Nat) : Ora where
  o := fun args {ρ} K =>
    wc args fun a1 l2 =>
    wagg a1 fun l3 =>
    wc l3 fun c4 l5 =>
    wI .i64 c4 fun y6 =>
    wc l5 fun c8 l9 =>
    wI .i64 c8 fun y10 =>
    wn l9 <|
    wc l2 fun a12 l13 =>
    wagg a12 fun l14 =>
    wc l14 fun c15 l16 =>
    wI .i64 c15 fun y17 =>
    wc l16 fun c19 l20 =>
    wI .i64 c19 fun y21 =>
    wn l20 <|
    wc l13 fun a23 l24 =>
    wagg a23 fun l25 =>
    wc l25 fun c26 l27 =>
    wI .i64 c26 fun y28 =>
    wc l27 fun c30 l31 =>
    wI .i64 c30 fun y32 =>
    wn l31 <|
    wc l24 fun a34 l35 =>
    wv a34 fun c36 =>
    wI .i64 c36 fun y37 =>
    wn l35 <|
    (ob (F57 fuel y6 y10 y17 y21 y28 y32 y37) fun t => K [.v (.b t)])
  nat := fun args {ρ} K => by
    simp only [bind_wc, bind_wn, bind_wv, bind_wagg, bind_wI, bind_wB, bind_wS, bind_wL, bind_wP, bind_wFn, bind_ob, Option.bind_some]

theorem d57 {P : Program} (fuel : Nat) (hmix : P.follows .mixedOrders = true) (hC : Sound P (C58 fuel)) (hF : FFits P 57 A57) (args res : List A) (h : (O57 fuel).o args some = some res) : Den P 57 args res := by
  obtain ⟨a1, l2, rfl, z0⟩ := inv_wc h
  obtain ⟨l3, rfl, z1⟩ := inv_wagg z0
  obtain ⟨c4, l5, rfl, z2⟩ := inv_wc z1
  obtain ⟨y6, h7, z3⟩ := inv_wI z2
  obtain ⟨c8, l9, rfl, z4⟩ := inv_wc z3
  obtain ⟨y10, h11, z5⟩ := inv_wI z4
  obtain ⟨hn, z6⟩ := inv_wn z5
  cases hn
  obtain ⟨a12, l13, rfl, z7⟩ := inv_wc z6
  obtain ⟨l14, rfl, z8⟩ := inv_wagg z7
  obtain ⟨c15, l16, rfl, z9⟩ := inv_wc z8
  obtain ⟨y17, h18, z10⟩ := inv_wI z9
  obtain ⟨c19, l20, rfl, z11⟩ := inv_wc z10
  obtain ⟨y21, h22, z12⟩ := inv_wI z11
  obtain ⟨hn, z13⟩ := inv_wn z12
  cases hn
  obtain ⟨a23, l24, rfl, z14⟩ := inv_wc z13
  obtain ⟨l25, rfl, z15⟩ := inv_wagg z14
  obtain ⟨c26, l27, rfl, z16⟩ := inv_wc z15
  obtain ⟨y28, h29, z17⟩ := inv_wI z16
  obtain ⟨c30, l31, rfl, z18⟩ := inv_wc z17
  obtain ⟨y32, h33, z19⟩ := inv_wI z18
  obtain ⟨hn, z20⟩ := inv_wn z19
  cases hn
  obtain ⟨a34, l35, rfl, z21⟩ := inv_wc z20
  obtain ⟨c36, rfl, z22⟩ := inv_wv z21
  obtain ⟨y37, h38, z23⟩ := inv_wI z22
  obtain ⟨hn, z24⟩ := inv_wn z23
  cases hn
  exact Den.weaken (.cons (WkA.agg (.cons (Wk.i h7) (.cons (Wk.i h11) .nil))) (.cons (WkA.agg (.cons (Wk.i h18) (.cons (Wk.i h22) .nil))) (.cons (WkA.agg (.cons (Wk.i h29) (.cons (Wk.i h33) .nil))) (.cons (WkA.v (Wk.i h38)) .nil)))) (evalF_sound hmix hC hF ((e57 fuel y6 y10 y17 y21 y28 y32 y37).trans z24))

def C59 (fuel : Nat) : Oracle := (C58 fuel).add 57 (fun _ => true) (O57 fuel)

/-- shipyard/region.Clear.1 -/
def A55 : AF := ⟨43, [.tmp 9],
  (.seq (.region 0 [
  ⟨(some 5), .box 0 34 (.tmp 0), none⟩,
  ⟨(some 6), .box 1 34 (.tmp 1), none⟩,
  ⟨(some 7), .box 2 34 (.tmp 2), none⟩,
  ⟨(some 8), .box 3 34 (.tmp 3), none⟩,
  ⟨(some 9), .assign (.const (.bool false)), none⟩] 4 none) []
  (.seq (.region 1 [
  ⟨(some 10), .load 34 (some 2) (.tmp 5), none⟩,
  ⟨(some 11), .load 34 (some 2) (.tmp 6), none⟩,
  ⟨(some 12), .load 34 (some 2) (.tmp 7), none⟩,
  ⟨(some 13), .load 34 (some 2) (.tmp 8), none⟩,
  ⟨(some 14), .call 56 [(.tmp 10), (.tmp 11), (.tmp 12), (.tmp 13)] [34, 34, 34, 34] .snap, none⟩,
  ⟨(some 15), .move (.tmp 14), none⟩,
  ⟨(some 16), .load 34 (some 2) (.tmp 5), (some (15, false))⟩,
  ⟨(some 17), .load 34 (some 2) (.tmp 7), (some (15, false))⟩,
  ⟨(some 18), .load 34 (some 2) (.tmp 8), (some (15, false))⟩,
  ⟨(some 19), .load 3 none (.tmp 4), (some (15, false))⟩,
  ⟨(some 20), .call 57 [(.tmp 16), (.tmp 17), (.tmp 18), (.tmp 19)] [34, 34, 34, 3] .snap, (some (15, false))⟩,
  ⟨(some 21), .pick (.tmp 15) (.const (.bool true)) (.tmp 20), none⟩,
  ⟨(some 22), .move (.tmp 21), none⟩,
  ⟨(some 23), .load 34 (some 2) (.tmp 6), (some (22, false))⟩,
  ⟨(some 24), .load 34 (some 2) (.tmp 7), (some (22, false))⟩,
  ⟨(some 25), .load 34 (some 2) (.tmp 8), (some (22, false))⟩,
  ⟨(some 26), .load 3 none (.tmp 4), (some (22, false))⟩,
  ⟨(some 27), .call 57 [(.tmp 23), (.tmp 24), (.tmp 25), (.tmp 26)] [34, 34, 34, 3] .snap, (some (22, false))⟩,
  ⟨(some 28), .pick (.tmp 22) (.const (.bool true)) (.tmp 27), none⟩,
  ⟨(some 29), .move (.tmp 28), none⟩,
  ⟨(some 30), .load 34 (some 2) (.tmp 7), (some (29, false))⟩,
  ⟨(some 31), .load 34 (some 2) (.tmp 5), (some (29, false))⟩,
  ⟨(some 32), .load 34 (some 2) (.tmp 6), (some (29, false))⟩,
  ⟨(some 33), .load 3 none (.tmp 4), (some (29, false))⟩,
  ⟨(some 34), .call 57 [(.tmp 30), (.tmp 31), (.tmp 32), (.tmp 33)] [34, 34, 34, 3] .snap, (some (29, false))⟩,
  ⟨(some 35), .pick (.tmp 29) (.const (.bool true)) (.tmp 34), none⟩,
  ⟨(some 36), .move (.tmp 35), none⟩,
  ⟨(some 37), .load 34 (some 2) (.tmp 8), (some (36, false))⟩,
  ⟨(some 38), .load 34 (some 2) (.tmp 5), (some (36, false))⟩,
  ⟨(some 39), .load 34 (some 2) (.tmp 6), (some (36, false))⟩,
  ⟨(some 40), .load 3 none (.tmp 4), (some (36, false))⟩,
  ⟨(some 41), .call 57 [(.tmp 37), (.tmp 38), (.tmp 39), (.tmp 40)] [34, 34, 34, 3] .snap, (some (36, false))⟩,
  ⟨(some 42), .pick (.tmp 36) (.const (.bool true)) (.tmp 41), none⟩,
  ⟨(some 9), .assign (.tmp 42), none⟩] 0 none) []
  (.ret [0, 1, 2, 3, 4, 5, 6, 7, 8, 10, 11, 12, 13, 14, 15, 16, 17, 18, 19, 20, 21, 22, 23, 24, 25, 26, 27, 28, 29, 30, 31, 32, 33, 34, 35, 36, 37, 38, 39, 40, 41, 42])))⟩

def D55 {ρ : Type} (fuel : Nat) (x1 : Int) (x2 : Int) (x3 : Int) (x4 : Int) (x5 : Int) (x6 : Int) (x7 : Int) (x8 : Int) (x9 : Nat → CV) (k : Bool → Option ρ) : Option ρ :=
  (ob (F56 fuel x1 x2 x3 x4 x5 x6 x7 x8) fun x10 => (bif (x10 == false) then (ob (F57 fuel x1 x2 x5 x6 x7 x8 (CV.int (x9 0))) fun x11 => (bif (x11 == false) then (ob (F57 fuel x3 x4 x5 x6 x7 x8 (CV.int (x9 0))) fun x12 => (bif (x12 == false) then (ob (F57 fuel x5 x6 x1 x2 x3 x4 (CV.int (x9 0))) fun x13 => (bif (x13 == false) then (ob (F57 fuel x7 x8 x1 x2 x3 x4 (CV.int (x9 0))) fun x14 => (k x14)) else (k true))) else (k true))) else (k true))) else (k true)))

def F55 (fuel : Nat) (x1 : Int) (x2 : Int) (x3 : Int) (x4 : Int) (x5 : Int) (x6 : Int) (x7 : Int) (x8 : Int) (x9 : Nat → CV) : Option (Bool) := D55 fuel x1 x2 x3 x4 x5 x6 x7 x8 x9 some

theorem n55 {ρ σ : Type} (fuel : Nat) (x1 : Int) (x2 : Int) (x3 : Int) (x4 : Int) (x5 : Int) (x6 : Int) (x7 : Int) (x8 : Int) (x9 : Nat → CV) (k : (Bool) → Option ρ) (g : ρ → Option σ) : ob (D55 fuel x1 x2 x3 x4 x5 x6 x7 x8 x9 k) g = D55 fuel x1 x2 x3 x4 x5 x6 x7 x8 x9 fun t => ob (k t) g := by
  simp only [D55, ob_bif, ob_ob, ob_none]

theorem f55 {ρ : Type} (fuel : Nat) (x1 : Int) (x2 : Int) (x3 : Int) (x4 : Int) (x5 : Int) (x6 : Int) (x7 : Int) (x8 : Int) (x9 : Nat → CV) (k : (Bool) → Option ρ) : D55 fuel x1 x2 x3 x4 x5 x6 x7 x8 x9 k = ob (F55 fuel x1 x2 x3 x4 x5 x6 x7 x8 x9) k := by
  unfold F55
  rw [n55]
  simp only [ob_some]

theorem walk55 (fuel : Nat) (x1 : Int) (x2 : Int) (x3 : Int) (x4 : Int) (x5 : Int) (x6 : Int) (x7 : Int) (x8 : Int) (x9 : Nat → CV) :
    evalF (C59 fuel) fuel A55 [.agg [(.i .i64 x1), (.i .i64 x2)], .agg [(.i .i64 x3), (.i .i64 x4)], .agg [(.i .i64 x5), (.i .i64 x6)], .agg [(.i .i64 x7), (.i .i64 x8)], .v (.rp (.pr (.int .i64) .nil) x9)] =
    (ob (F56 fuel x1 x2 x3 x4 x5 x6 x7 x8) fun x10 => (bif (x10 == false) then (ob (F57 fuel x1 x2 x5 x6 x7 x8 (CV.int (x9 0))) fun x11 => (bif (x11 == false) then (ob (F57 fuel x3 x4 x5 x6 x7 x8 (CV.int (x9 0))) fun x12 => (bif (x12 == false) then (ob (F57 fuel x5 x6 x1 x2 x3 x4 (CV.int (x9 0))) fun x13 => (bif (x13 == false) then (ob (F57 fuel x7 x8 x1 x2 x3 x4 (CV.int (x9 0))) fun x14 => (some [.v (.b x14)])) else (some [.v (.b true)]))) else (some [.v (.b true)]))) else (some [.v (.b true)]))) else (some [.v (.b true)]))) := by kernel_rfl

theorem e55 (fuel : Nat) (x1 : Int) (x2 : Int) (x3 : Int) (x4 : Int) (x5 : Int) (x6 : Int) (x7 : Int) (x8 : Int) (x9 : Nat → CV) : evalF (C59 fuel) fuel A55 [.agg [(.i .i64 x1), (.i .i64 x2)], .agg [(.i .i64 x3), (.i .i64 x4)], .agg [(.i .i64 x5), (.i .i64 x6)], .agg [(.i .i64 x7), (.i .i64 x8)], .v (.rp (.pr (.int .i64) .nil) x9)] = ob (F55 fuel x1 x2 x3 x4 x5 x6 x7 x8 x9) fun t => some [.v (.b t)] := by
  rw [walk55, ← f55]
  simp only [D55]

def O55 (fuel : Nat) : Ora where
  o := fun args {ρ} K =>
    wc args fun a1 l2 =>
    wagg a1 fun l3 =>
    wc l3 fun c4 l5 =>
    wI .i64 c4 fun y6 =>
    wc l5 fun c8 l9 =>
    wI .i64 c8 fun y10 =>
    wn l9 <|
    wc l2 fun a12 l13 =>
    wagg a12 fun l14 =>
    wc l14 fun c15 l16 =>
    wI .i64 c15 fun y17 =>
    wc l16 fun c19 l20 =>
    wI .i64 c19 fun y21 =>
    wn l20 <|
    wc l13 fun a23 l24 =>
    wagg a23 fun l25 =>
    wc l25 fun c26 l27 =>
    wI .i64 c26 fun y28 =>
    wc l27 fun c30 l31 =>
    wI .i64 c30 fun y32 =>
    wn l31 <|
    wc l24 fun a34 l35 =>
    wagg a34 fun l36 =>
    wc l36 fun c37 l38 =>
    wI .i64 c37 fun y39 =>
    wc l38 fun c41 l42 =>
    wI .i64 c41 fun y43 =>
    wn l42 <|
    wc l35 fun a45 l46 =>
    wv a45 fun c47 =>
    wP (.pr (.int .i64) .nil) c47 fun y48 =>
    wn l46 <|
    (ob (F55 fuel y6 y10 y17 y21 y28 y32 y39 y43 y48) fun t => K [.v (.b t)])
  nat := fun args {ρ} K => by
    simp only [bind_wc, bind_wn, bind_wv, bind_wagg, bind_wI, bind_wB, bind_wS, bind_wL, bind_wP, bind_wFn, bind_ob, Option.bind_some]

theorem d55 {P : Program} (fuel : Nat) (hmix : P.follows .mixedOrders = true) (hC : Sound P (C59 fuel)) (hF : FFits P 55 A55) (args res : List A) (h : (O55 fuel).o args some = some res) : Den P 55 args res := by
  obtain ⟨a1, l2, rfl, z0⟩ := inv_wc h
  obtain ⟨l3, rfl, z1⟩ := inv_wagg z0
  obtain ⟨c4, l5, rfl, z2⟩ := inv_wc z1
  obtain ⟨y6, h7, z3⟩ := inv_wI z2
  obtain ⟨c8, l9, rfl, z4⟩ := inv_wc z3
  obtain ⟨y10, h11, z5⟩ := inv_wI z4
  obtain ⟨hn, z6⟩ := inv_wn z5
  cases hn
  obtain ⟨a12, l13, rfl, z7⟩ := inv_wc z6
  obtain ⟨l14, rfl, z8⟩ := inv_wagg z7
  obtain ⟨c15, l16, rfl, z9⟩ := inv_wc z8
  obtain ⟨y17, h18, z10⟩ := inv_wI z9
  obtain ⟨c19, l20, rfl, z11⟩ := inv_wc z10
  obtain ⟨y21, h22, z12⟩ := inv_wI z11
  obtain ⟨hn, z13⟩ := inv_wn z12
  cases hn
  obtain ⟨a23, l24, rfl, z14⟩ := inv_wc z13
  obtain ⟨l25, rfl, z15⟩ := inv_wagg z14
  obtain ⟨c26, l27, rfl, z16⟩ := inv_wc z15
  obtain ⟨y28, h29, z17⟩ := inv_wI z16
  obtain ⟨c30, l31, rfl, z18⟩ := inv_wc z17
  obtain ⟨y32, h33, z19⟩ := inv_wI z18
  obtain ⟨hn, z20⟩ := inv_wn z19
  cases hn
  obtain ⟨a34, l35, rfl, z21⟩ := inv_wc z20
  obtain ⟨l36, rfl, z22⟩ := inv_wagg z21
  obtain ⟨c37, l38, rfl, z23⟩ := inv_wc z22
  obtain ⟨y39, h40, z24⟩ := inv_wI z23
  obtain ⟨c41, l42, rfl, z25⟩ := inv_wc z24
  obtain ⟨y43, h44, z26⟩ := inv_wI z25
  obtain ⟨hn, z27⟩ := inv_wn z26
  cases hn
  obtain ⟨a45, l46, rfl, z28⟩ := inv_wc z27
  obtain ⟨c47, rfl, z29⟩ := inv_wv z28
  obtain ⟨y48, h49, z30⟩ := inv_wP z29
  obtain ⟨hn, z31⟩ := inv_wn z30
  cases hn
  exact Den.weaken (.cons (WkA.agg (.cons (Wk.i h7) (.cons (Wk.i h11) .nil))) (.cons (WkA.agg (.cons (Wk.i h18) (.cons (Wk.i h22) .nil))) (.cons (WkA.agg (.cons (Wk.i h29) (.cons (Wk.i h33) .nil))) (.cons (WkA.agg (.cons (Wk.i h40) (.cons (Wk.i h44) .nil))) (.cons (WkA.v (wk_rp h49)) .nil))))) (evalF_sound hmix hC hF ((e55 fuel y6 y10 y17 y21 y28 y32 y39 y43 y48).trans z31))

def C60 (fuel : Nat) : Oracle := (C59 fuel).add 55 (fun _ => true) (O55 fuel)

def B58bv2 (C : Oracle) (fuel : Nat) {ρ : Type} : St → (Ex → St → Option ρ) → Option ρ := fun st k => evalC C fuel A58v3 st k
def N58bv2 : St → Option St := fun s => s.norm [3, 4, 5, 6, 9, 10, 14, 15, 16, 17, 21, 22, 23, 24, 25, 26, 27, 28, 29, 30, 31, 32, 33, 34, 35, 36, 37, 38, 39, 40, 41, 42, 43, 44, 45, 46] 1

def s58bv0 (x55 : Nat) (x56 : Nat → Nat → CV) (x57 : Nat) (x58 : Nat → Nat → CV) (x59 : Nat → CV) (x60 : Int) (x61 : Int) (x62 : Int) (x63 : Int) (x64 : Int) (x65 : Int) : St := ⟨[.x (.c (.ro false (.pr (.int .i64) (.pr (.int .i64) .nil)) x55 x56)), .x (.c (.ro false (.pr (.int .i64) (.pr (.int .i64) .nil)) x57 x58)), .x (.c (.fn 55 1 (listF [(.rp (.pr (.int .i64) .nil) x59)]))), .u, .u, .u, .u, .x (.c (.i .i64 x60)), .x (.ptr 0 0), .u, .u, .x (.c (.ro false (.pr (.int .i64) (.pr (.int .i64) .nil)) x55 x56)), .x (.c (.i .i64 x61)), .x (.c (.i .i64 x60)), .u, .u, .u, .u, .x (.c (.ro false (.pr (.int .i64) (.pr (.int .i64) .nil)) x57 x58)), .x (.c (.i .i64 x62)), .x (.c (.i .i64 x63)), .u, .u, .u, .u, .u, .u, .u, .u, .u, .u, .u, .u, .u, .u, .u, .u, .u, .u, .u, .u, .u, .u, .u, .u, .u, .u],
    [.box [(.c (.i .i64 x64)), (.c (.i .i64 x65))]]⟩

def s58bv1 (x64 : Int) (x65 : Int) (x67 : Int) (x68 : Int) : St := ⟨[.u, .u, .u, .u, .u, .u, .x (.c (.b true)), .u, .u, .u, .u, .u, .u, .u, .u, .u, .u, .u, .u, .u, .u, .u, .u, .u, .u, .u, .u, .u, .u, .u, .u, .u, .u, .u, .u, .u, .u, .u, .u, .u, .u, .u, .u, .u, .u, .u, .u],
    [.box [(.c (.i .i64 x64)), (.c (.i .i64 x65))], .box [(.c (.i .i64 x67)), (.c (.i .i64 x68))]]⟩

def s58bv2 (x55 : Nat) (x56 : Nat → Nat → CV) (x57 : Nat) (x58 : Nat → Nat → CV) (x59 : Nat → CV) (x61 : Int) (x60 : Int) (x64 : Int) (x65 : Int) : St := ⟨[.x (.c (.ro false (.pr (.int .i64) (.pr (.int .i64) .nil)) x55 x56)), .x (.c (.ro false (.pr (.int .i64) (.pr (.int .i64) .nil)) x57 x58)), .x (.c (.fn 55 1 (listF [(.rp (.pr (.int .i64) .nil) x59)]))), .u, .u, .u, .u, .u, .u, .u, .u, .x (.c (.ro false (.pr (.int .i64) (.pr (.int .i64) .nil)) x55 x56)), .x (.c (.i .i64 x61)), .x (.c (.i .i64 x60)), .u, .u, .u, .u, .u, .u, .u, .u, .u, .u, .u, .u, .u, .u, .u, .u, .u, .u, .u, .u, .u, .u, .u, .u, .u, .u, .u, .u, .u, .u, .u, .u, .u],
    [.box [(.c (.i .i64 x64)), (.c (.i .i64 x65))]]⟩

def L58bv2 {ρ : Type} (fuel : Nat) (x55 : Nat) (x56 : Nat → Nat → CV) (x57 : Nat) (x58 : Nat → Nat → CV) (x59 : Nat → CV) (x60 : Int) (x61 : Int) (x62 : Int) (x64 : Int) (x65 : Int) : Nat → Int → (Int → Int → Option ρ) → (Option ρ) → Option ρ
  | 0, _, _, _ => none
  | m + 1, x63, k0, k1 =>
    (bif (decide (x63 < x62)) then (bif (inb x63 x57) then (bif ((Int.ofNat x55) == 0) then none else (bif (inb (Int.tmod (w64 (x60 + 1)) (Int.ofNat x55)) x55) then (bif ((Int.ofNat x57) == 0) then none else (bif (inb (Int.tmod (w64 (x63 + 1)) (Int.ofNat x57)) x57) then (ob (F55 fuel x64 x65 (CV.int (x56 (Int.toNat (Int.tmod (w64 (x60 + 1)) (Int.ofNat x55))) 0)) (CV.int (x56 (Int.toNat (Int.tmod (w64 (x60 + 1)) (Int.ofNat x55))) 1)) (CV.int (x58 (Int.toNat x63) 0)) (CV.int (x58 (Int.toNat x63) 1)) (CV.int (x58 (Int.toNat (Int.tmod (w64 (x63 + 1)) (Int.ofNat x57))) 0)) (CV.int (x58 (Int.toNat (Int.tmod (w64 (x63 + 1)) (Int.ofNat x57))) 1)) x59) fun x66 => (bif x66 then (k0 (CV.int (x58 (Int.toNat x63) 0)) (CV.int (x58 (Int.toNat x63) 1))) else (L58bv2 fuel x55 x56 x57 x58 x59 x60 x61 x62 x64 x65 m (w64 (x63 + 1)) k0 k1))) else none)) else none)) else none) else k1)

theorem nl58bv2 {ρ σ : Type} (fuel : Nat) (x55 : Nat) (x56 : Nat → Nat → CV) (x57 : Nat) (x58 : Nat → Nat → CV) (x59 : Nat → CV) (x60 : Int) (x61 : Int) (x62 : Int) (x64 : Int) (x65 : Int) (g : ρ → Option σ) : ∀ (m : Nat) (x63 : Int) (k0 : Int → Int → Option ρ) (k1 : Option ρ), ob (L58bv2 fuel x55 x56 x57 x58 x59 x60 x61 x62 x64 x65 m x63 k0 k1) g = L58bv2 fuel x55 x56 x57 x58 x59 x60 x61 x62 x64 x65 m x63 (fun x67 x68 => ob (k0 x67 x68) g) (ob k1 g)
  | 0, _, _, _ => rfl
  | m + 1, x63, k0, k1 => by
    simp only [L58bv2, ob_bif, ob_ob, ob_none, nl58bv2 fuel x55 x56 x57 x58 x59 x60 x61 x62 x64 x65 g m]

theorem r58bv2 (fuel : Nat) (m : Nat) {ρ : Type} (k : Ex → St → Option ρ) (x55 : Nat) (x56 : Nat → Nat → CV) (x57 : Nat) (x58 : Nat → Nat → CV) (x59 : Nat → CV) (x60 : Int) (x61 : Int) (x62 : Int) (x64 : Int) (x65 : Int) (x63 : Int) :
    loopH (B58bv2 (C60 fuel) fuel) N58bv2 (m + 1) (s58bv0 x55 x56 x57 x58 x59 x60 x61 x62 x63 x64 x65) k =
    (bif (decide (x63 < x62)) then (bif (inb x63 x57) then (bif ((Int.ofNat x55) == 0) then none else (bif (inb (Int.tmod (w64 (x60 + 1)) (Int.ofNat x55)) x55) then (bif ((Int.ofNat x57) == 0) then none else (bif (inb (Int.tmod (w64 (x63 + 1)) (Int.ofNat x57)) x57) then (ob (F55 fuel x64 x65 (CV.int (x56 (Int.toNat (Int.tmod (w64 (x60 + 1)) (Int.ofNat x55))) 0)) (CV.int (x56 (Int.toNat (Int.tmod (w64 (x60 + 1)) (Int.ofNat x55))) 1)) (CV.int (x58 (Int.toNat x63) 0)) (CV.int (x58 (Int.toNat x63) 1)) (CV.int (x58 (Int.toNat (Int.tmod (w64 (x63 + 1)) (Int.ofNat x57))) 0)) (CV.int (x58 (Int.toNat (Int.tmod (w64 (x63 + 1)) (Int.ofNat x57))) 1)) x59) fun x66 => (bif x66 then (k .ret (s58bv1 x64 x65 (CV.int (x58 (Int.toNat x63) 0)) (CV.int (x58 (Int.toNat x63) 1)))) else (loopH (B58bv2 (C60 fuel) fuel) N58bv2 m (s58bv0 x55 x56 x57 x58 x59 x60 x61 x62 (w64 (x63 + 1)) x64 x65) k))) else none)) else none)) else none) else (k (.exit 2) (s58bv2 x55 x56 x57 x58 x59 x61 x60 x64 x65))) := by kernel_rfl

theorem q58bv2 (fuel : Nat) (x55 : Nat) (x56 : Nat → Nat → CV) (x57 : Nat) (x58 : Nat → Nat → CV) (x59 : Nat → CV) (x60 : Int) (x61 : Int) (x62 : Int) (x64 : Int) (x65 : Int) {ρ : Type} (k : Ex → St → Option ρ) : ∀ (m : Nat) (x63 : Int),
    loopH (B58bv2 (C60 fuel) fuel) N58bv2 m (s58bv0 x55 x56 x57 x58 x59 x60 x61 x62 x63 x64 x65) k = L58bv2 fuel x55 x56 x57 x58 x59 x60 x61 x62 x64 x65 m x63 (fun x67 x68 => k .ret (s58bv1 x64 x65 x67 x68)) (k (.exit 2) (s58bv2 x55 x56 x57 x58 x59 x61 x60 x64 x65))
  | 0, _ => rfl
  | m + 1, x63 => by
    rw [r58bv2]
    simp only [L58bv2, q58bv2 fuel x55 x56 x57 x58 x59 x60 x61 x62 x64 x65 k m]

def B58bv3 (C : Oracle) (fuel : Nat) {ρ : Type} : St → (Ex → St → Option ρ) → Option ρ := fun st k => evalC C fuel A58v6 st k
def N58bv3 : St → Option St := fun s => s.norm [3, 4, 5, 6, 7, 8, 9, 10, 14, 15, 16, 17, 18, 19, 20, 21, 22, 23, 24, 25, 26, 27, 28, 29, 30, 31, 32, 33, 34, 35, 36, 37, 38, 39, 40, 41, 42, 43, 44, 45, 46] 0

def s58bv3 (x37 : Nat) (x38 : Nat → Nat → CV) (x39 : Nat) (x40 : Nat → Nat → CV) (x41 : Nat → CV) (x42 : Int) (x43 : Int) : St := ⟨[.x (.c (.ro false (.pr (.int .i64) (.pr (.int .i64) .nil)) x37 x38)), .x (.c (.ro false (.pr (.int .i64) (.pr (.int .i64) .nil)) x39 x40)), .x (.c (.fn 55 1 (listF [(.rp (.pr (.int .i64) .nil) x41)]))), .u, .u, .u, .u, .u, .u, .u, .u, .x (.c (.ro false (.pr (.int .i64) (.pr (.int .i64) .nil)) x37 x38)), .x (.c (.i .i64 x42)), .x (.c (.i .i64 x43)), .u, .u, .u, .u, .u, .u, .u, .u, .u, .u, .u, .u, .u, .u, .u, .u, .u, .u, .u, .u, .u, .u, .u, .u, .u, .u, .u, .u, .u, .u, .u, .u, .u],
    []⟩

def s58bv4 (x71 : Int) (x72 : Int) (x73 : Int) (x74 : Int) : St := ⟨[.u, .u, .u, .u, .u, .u, .x (.c (.b true)), .u, .u, .u, .u, .u, .u, .u, .u, .u, .u, .u, .u, .u, .u, .u, .u, .u, .u, .u, .u, .u, .u, .u, .u, .u, .u, .u, .u, .u, .u, .u, .u, .u, .u, .u, .u, .u, .u, .u, .u],
    [.box [(.c (.i .i64 x71)), (.c (.i .i64 x72))], .box [(.c (.i .i64 x73)), (.c (.i .i64 x74))]]⟩

def s58bv5 : St := ⟨[.u, .u, .u, .u, .u, .u, .u, .u, .u, .u, .u, .u, .u, .u, .u, .u, .u, .u, .u, .u, .u, .u, .u, .u, .u, .u, .u, .u, .u, .u, .u, .u, .u, .u, .u, .u, .u, .u, .u, .u, .u, .u, .u, .u, .u, .u, .u],
    []⟩

def L58bv3 {ρ : Type} (fuel : Nat) (x37 : Nat) (x38 : Nat → Nat → CV) (x39 : Nat) (x40 : Nat → Nat → CV) (x41 : Nat → CV) (x42 : Int) : Nat → Int → (Int → Int → Int → Int → Option ρ) → (Option ρ) → Option ρ
  | 0, _, _, _ => none
  | m + 1, x43, k0, k1 =>
    (bif (decide (x43 < x42)) then (bif (inb x43 x37) then (L58bv2 fuel x37 x38 x39 x40 x41 x43 x42 (Int.ofNat x39) (CV.int (x38 (Int.toNat x43) 0)) (CV.int (x38 (Int.toNat x43) 1)) fuel 0
    (fun x69 x70 => (k0 (CV.int (x38 (Int.toNat x43) 0)) (CV.int (x38 (Int.toNat x43) 1)) x69 x70))
    (L58bv3 fuel x37 x38 x39 x40 x41 x42 m (w64 (x43 + 1)) k0 k1)) else none) else k1)

theorem nl58bv3 {ρ σ : Type} (fuel : Nat) (x37 : Nat) (x38 : Nat → Nat → CV) (x39 : Nat) (x40 : Nat → Nat → CV) (x41 : Nat → CV) (x42 : Int) (g : ρ → Option σ) : ∀ (m : Nat) (x43 : Int) (k0 : Int → Int → Int → Int → Option ρ) (k1 : Option ρ), ob (L58bv3 fuel x37 x38 x39 x40 x41 x42 m x43 k0 k1) g = L58bv3 fuel x37 x38 x39 x40 x41 x42 m x43 (fun x71 x72 x73 x74 => ob (k0 x71 x72 x73 x74) g) (ob k1 g)
  | 0, _, _, _ => rfl
  | m + 1, x43, k0, k1 => by
    simp only [L58bv3, ob_bif, ob_ob, ob_none, nl58bv3 fuel x37 x38 x39 x40 x41 x42 g m, nl58bv2]

def s58bv6 (x37 : Nat) (x38 : Nat → Nat → CV) (x39 : Nat) (x40 : Nat → Nat → CV) (x41 : Nat → CV) (x43 : Int) (x42 : Int) : St := ⟨[.x (.c (.ro false (.pr (.int .i64) (.pr (.int .i64) .nil)) x37 x38)), .x (.c (.ro false (.pr (.int .i64) (.pr (.int .i64) .nil)) x39 x40)), .x (.c (.fn 55 1 (listF [(.rp (.pr (.int .i64) .nil) x41)]))), .u, .u, .u, .u, .x (.c (.i .i64 x43)), .x (.ptr 0 0), .u, .u, .x (.c (.ro false (.pr (.int .i64) (.pr (.int .i64) .nil)) x37 x38)), .x (.c (.i .i64 x42)), .x (.c (.i .i64 x43)), .x (.c (.b true)), .x (.c (.i .i64 x43)), .x (.c (.rp (.pr (.int .i64) (.pr (.int .i64) .nil)) (x38 (Int.toNat x43)))), .agg [(.c (.i .i64 (CV.int (x38 (Int.toNat x43) 0)))), (.c (.i .i64 (CV.int (x38 (Int.toNat x43) 1))))], .x (.c (.ro false (.pr (.int .i64) (.pr (.int .i64) .nil)) x39 x40)), .x (.c (.i .i64 (Int.ofNat x39))), .x (.c (.i .i64 0)), .u, .u, .u, .u, .u, .u, .u, .u, .u, .u, .u, .u, .u, .u, .u, .u, .u, .u, .u, .u, .u, .u, .u, .u, .u, .u],
    [.box [(.c (.i .i64 (CV.int (x38 (Int.toNat x43) 0)))), (.c (.i .i64 (CV.int (x38 (Int.toNat x43) 1))))]]⟩

theorem r58bv3 (fuel : Nat) (m : Nat) {ρ : Type} (k : Ex → St → Option ρ) (x37 : Nat) (x38 : Nat → Nat → CV) (x39 : Nat) (x40 : Nat → Nat → CV) (x41 : Nat → CV) (x42 : Int) (x43 : Int) :
    loopH (B58bv3 (C60 fuel) fuel) N58bv3 (m + 1) (s58bv3 x37 x38 x39 x40 x41 x42 x43) k =
    (bif (decide (x43 < x42)) then (bif (inb x43 x37) then (loopN (B58bv2 (C60 fuel) fuel) N58bv2 fuel (s58bv6 x37 x38 x39 x40 x41 x43 x42) (kBlk 2 (kBlk 1 (kSeq (C60 fuel) fuel [6, 7, 8, 9, 10, 15, 16, 17, 18, 19, 20, 21, 22, 23, 24, 25, 26, 27, 28, 29, 30, 31, 32, 33, 34, 35, 36, 37, 38, 39, 40, 41, 42, 43, 44, 45] A58v4 (kLoop (B58bv3 (C60 fuel) fuel) N58bv3 m k))))) else none) else (k (.exit 0) s58bv5)) := by kernel_rfl

theorem t58bv1 (fuel : Nat) {ρ : Type} (k : Ex → St → Option ρ) (x37 : Nat) (x38 : Nat → Nat → CV) (x39 : Nat) (x40 : Nat → Nat → CV) (x41 : Nat → CV) (x43 : Int) (x42 : Int) :
    loopN (B58bv2 (C60 fuel) fuel) N58bv2 fuel (s58bv6 x37 x38 x39 x40 x41 x43 x42) k =
    L58bv2 fuel x37 x38 x39 x40 x41 x43 x42 (Int.ofNat x39) (CV.int (x38 (Int.toNat x43) 0)) (CV.int (x38 (Int.toNat x43) 1)) fuel 0 (fun x67 x68 => k .ret (s58bv1 (CV.int (x38 (Int.toNat x43) 0)) (CV.int (x38 (Int.toNat x43) 1)) x67 x68)) (k (.exit 2) (s58bv2 x37 x38 x39 x40 x41 x42 x43 (CV.int (x38 (Int.toNat x43) 0)) (CV.int (x38 (Int.toNat x43) 1)))) :=
  (loopN_at (st' := (s58bv0 x37 x38 x39 x40 x41 x43 x42 (Int.ofNat x39) 0 (CV.int (x38 (Int.toNat x43) 0)) (CV.int (x38 (Int.toNat x43) 1)))) (by kernel_rfl)).trans (q58bv2 fuel x37 x38 x39 x40 x41 x43 x42 (Int.ofNat x39) (CV.int (x38 (Int.toNat x43) 0)) (CV.int (x38 (Int.toNat x43) 1)) k fuel 0)

theorem g58bv2 (fuel : Nat) (m : Nat) {ρ : Type} (k : Ex → St → Option ρ) (x38 : Nat → Nat → CV) (x43 : Int) (x69 : Int) (x70 : Int) :
    (kBlk 2 (kBlk 1 (kSeq (C60 fuel) fuel [6, 7, 8, 9, 10, 15, 16, 17, 18, 19, 20, 21, 22, 23, 24, 25, 26, 27, 28, 29, 30, 31, 32, 33, 34, 35, 36, 37, 38, 39, 40, 41, 42, 43, 44, 45] A58v4 (kLoop (B58bv3 (C60 fuel) fuel) N58bv3 m k)))) .ret (s58bv1 (CV.int (x38 (Int.toNat x43) 0)) (CV.int (x38 (Int.toNat x43) 1)) x69 x70) =
    (k .ret (s58bv4 (CV.int (x38 (Int.toNat x43) 0)) (CV.int (x38 (Int.toNat x43) 1)) x69 x70)) := by kernel_rfl

theorem g58bv3 (fuel : Nat) (m : Nat) {ρ : Type} (k : Ex → St → Option ρ) (x37 : Nat) (x38 : Nat → Nat → CV) (x39 : Nat) (x40 : Nat → Nat → CV) (x41 : Nat → CV) (x42 : Int) (x43 : Int) :
    (kBlk 2 (kBlk 1 (kSeq (C60 fuel) fuel [6, 7, 8, 9, 10, 15, 16, 17, 18, 19, 20, 21, 22, 23, 24, 25, 26, 27, 28, 29, 30, 31, 32, 33, 34, 35, 36, 37, 38, 39, 40, 41, 42, 43, 44, 45] A58v4 (kLoop (B58bv3 (C60 fuel) fuel) N58bv3 m k)))) (.exit 2) (s58bv2 x37 x38 x39 x40 x41 x42 x43 (CV.int (x38 (Int.toNat x43) 0)) (CV.int (x38 (Int.toNat x43) 1))) =
    (loopH (B58bv3 (C60 fuel) fuel) N58bv3 m (s58bv3 x37 x38 x39 x40 x41 x42 (w64 (x43 + 1))) k) := by kernel_rfl

theorem q58bv3 (fuel : Nat) (x37 : Nat) (x38 : Nat → Nat → CV) (x39 : Nat) (x40 : Nat → Nat → CV) (x41 : Nat → CV) (x42 : Int) {ρ : Type} (k : Ex → St → Option ρ) : ∀ (m : Nat) (x43 : Int),
    loopH (B58bv3 (C60 fuel) fuel) N58bv3 m (s58bv3 x37 x38 x39 x40 x41 x42 x43) k = L58bv3 fuel x37 x38 x39 x40 x41 x42 m x43 (fun x71 x72 x73 x74 => k .ret (s58bv4 x71 x72 x73 x74)) (k (.exit 0) s58bv5)
  | 0, _ => rfl
  | m + 1, x43 => by
    rw [r58bv3]
    simp only [L58bv3, q58bv3 fuel x37 x38 x39 x40 x41 x42 k m, t58bv1, g58bv2, g58bv3]

def D58b {ρ : Type} (fuel : Nat) (x1 : Nat) (x2 : Nat → Nat → CV) (x3 : Nat) (x4 : Nat → Nat → CV) (x5 : Nat → CV) (k : Bool → Option ρ) : Option ρ :=
  (L58bv3 fuel x1 x2 x3 x4 x5 (Int.ofNat x1) fuel 0
    (fun x75 x76 x77 x78 => (k true))
    (k false))

def F58b (fuel : Nat) (x1 : Nat) (x2 : Nat → Nat → CV) (x3 : Nat) (x4 : Nat → Nat → CV) (x5 : Nat → CV) : Option (Bool) := D58b fuel x1 x2 x3 x4 x5 some

theorem n58b {ρ σ : Type} (fuel : Nat) (x1 : Nat) (x2 : Nat → Nat → CV) (x3 : Nat) (x4 : Nat → Nat → CV) (x5 : Nat → CV) (k : (Bool) → Option ρ) (g : ρ → Option σ) : ob (D58b fuel x1 x2 x3 x4 x5 k) g = D58b fuel x1 x2 x3 x4 x5 fun t => ob (k t) g := by
  simp only [D58b, ob_bif, ob_ob, ob_none, nl58bv3]

theorem f58b {ρ : Type} (fuel : Nat) (x1 : Nat) (x2 : Nat → Nat → CV) (x3 : Nat) (x4 : Nat → Nat → CV) (x5 : Nat → CV) (k : (Bool) → Option ρ) : D58b fuel x1 x2 x3 x4 x5 k = ob (F58b fuel x1 x2 x3 x4 x5) k := by
  unfold F58b
  rw [n58b]
  simp only [ob_some]

def s58bv7 (x1 : Nat) (x2 : Nat → Nat → CV) (x3 : Nat) (x4 : Nat → Nat → CV) (x5 : Nat → CV) : St := ⟨[.x (.c (.ro false (.pr (.int .i64) (.pr (.int .i64) .nil)) x1 x2)), .x (.c (.ro false (.pr (.int .i64) (.pr (.int .i64) .nil)) x3 x4)), .x (.c (.fn 55 1 (listF [(.rp (.pr (.int .i64) .nil) x5)]))), .undef, .undef, .undef, .x (.c (.b false)), .undef, .undef, .undef, .undef, .x (.c (.ro false (.pr (.int .i64) (.pr (.int .i64) .nil)) x1 x2)), .x (.c (.i .i64 (Int.ofNat x1))), .x (.c (.i .i64 0)), .undef, .undef, .undef, .undef, .undef, .undef, .undef, .undef, .undef, .undef, .undef, .undef, .undef, .undef, .undef, .undef, .undef, .undef, .undef, .undef, .undef, .undef, .undef, .undef, .undef, .undef, .undef, .undef, .undef, .undef, .undef, .undef, .undef],
    []⟩

theorem walk58b (fuel : Nat) (x1 : Nat) (x2 : Nat → Nat → CV) (x3 : Nat) (x4 : Nat → Nat → CV) (x5 : Nat → CV) :
    evalF (C60 fuel) fuel A58 [.v (.ro false (.pr (.int .i64) (.pr (.int .i64) .nil)) x1 x2), .v (.ro false (.pr (.int .i64) (.pr (.int .i64) .nil)) x3 x4), .v (.fn 55 1 (listF [(.rp (.pr (.int .i64) .nil) x5)]))] =
    (loopN (B58bv3 (C60 fuel) fuel) N58bv3 fuel (s58bv7 x1 x2 x3 x4 x5) (kBlk 0 (kSeq (C60 fuel) fuel [6, 7, 8, 9, 10, 11, 12, 13, 14, 15, 16, 17, 18, 19, 20, 21, 22, 23, 24, 25, 26, 27, 28, 29, 30, 31, 32, 33, 34, 35, 36, 37, 38, 39, 40, 41, 42, 43, 44, 45, 46] A58v7 (finish A58)))) := by kernel_rfl

theorem t58bv4 (fuel : Nat) {ρ : Type} (k : Ex → St → Option ρ) (x1 : Nat) (x2 : Nat → Nat → CV) (x3 : Nat) (x4 : Nat → Nat → CV) (x5 : Nat → CV) :
    loopN (B58bv3 (C60 fuel) fuel) N58bv3 fuel (s58bv7 x1 x2 x3 x4 x5) k =
    L58bv3 fuel x1 x2 x3 x4 x5 (Int.ofNat x1) fuel 0 (fun x71 x72 x73 x74 => k .ret (s58bv4 x71 x72 x73 x74)) (k (.exit 0) s58bv5) :=
  (loopN_at (st' := (s58bv3 x1 x2 x3 x4 x5 (Int.ofNat x1) 0)) (by kernel_rfl)).trans (q58bv3 fuel x1 x2 x3 x4 x5 (Int.ofNat x1) k fuel 0)

theorem g58bv5 (fuel : Nat) (x75 : Int) (x76 : Int) (x77 : Int) (x78 : Int) :
    (kBlk 0 (kSeq (C60 fuel) fuel [6, 7, 8, 9, 10, 11, 12, 13, 14, 15, 16, 17, 18, 19, 20, 21, 22, 23, 24, 25, 26, 27, 28, 29, 30, 31, 32, 33, 34, 35, 36, 37, 38, 39, 40, 41, 42, 43, 44, 45, 46] A58v7 (finish A58))) .ret (s58bv4 x75 x76 x77 x78) =
    (some [.v (.b true)]) := by kernel_rfl

theorem g58bv6 (fuel : Nat) :
    (kBlk 0 (kSeq (C60 fuel) fuel [6, 7, 8, 9, 10, 11, 12, 13, 14, 15, 16, 17, 18, 19, 20, 21, 22, 23, 24, 25, 26, 27, 28, 29, 30, 31, 32, 33, 34, 35, 36, 37, 38, 39, 40, 41, 42, 43, 44, 45, 46] A58v7 (finish A58))) (.exit 0) s58bv5 =
    (some [.v (.b false)]) := by kernel_rfl

theorem e58b (fuel : Nat) (x1 : Nat) (x2 : Nat → Nat → CV) (x3 : Nat) (x4 : Nat → Nat → CV) (x5 : Nat → CV) : evalF (C60 fuel) fuel A58 [.v (.ro false (.pr (.int .i64) (.pr (.int .i64) .nil)) x1 x2), .v (.ro false (.pr (.int .i64) (.pr (.int .i64) .nil)) x3 x4), .v (.fn 55 1 (listF [(.rp (.pr (.int .i64) .nil) x5)]))] = ob (F58b fuel x1 x2 x3 x4 x5) fun t => some [.v (.b t)] := by
  rw [walk58b, ← f58b]
  simp only [D58b, t58bv4, g58bv5, g58bv6]

def O58b (fuel : Nat) : Ora where
  o := fun args {ρ} K =>
    wc args fun a1 l2 =>
    wv a1 fun c3 =>
    wL (.pr (.int .i64) (.pr (.int .i64) .nil)) c3 fun y4 y5 =>
    wc l2 fun a7 l8 =>
    wv a7 fun c9 =>
    wL (.pr (.int .i64) (.pr (.int .i64) .nil)) c9 fun y10 y11 =>
    wc l8 fun a13 l14 =>
    wv a13 fun c15 =>
    wFn 55 1 c15 fun y16 =>
    wP (.pr (.int .i64) .nil) (y16 0) fun y18 =>
    wn l14 <|
    (ob (F58b fuel y4 y5 y10 y11 y18) fun t => K [.v (.b t)])
  nat := fun args {ρ} K => by
    simp only [bind_wc, bind_wn, bind_wv, bind_wagg, bind_wI, bind_wB, bind_wS, bind_wL, bind_wP, bind_wFn, bind_ob, Option.bind_some]

theorem d58b {P : Program} (fuel : Nat) (hmix : P.follows .mixedOrders = true) (hC : Sound P (C60 fuel)) (hF : FFits P 58 A58) (args res : List A) (h : (O58b fuel).o args some = some res) : Den P 58 args res := by
  obtain ⟨a1, l2, rfl, z0⟩ := inv_wc h
  obtain ⟨c3, rfl, z1⟩ := inv_wv z0
  obtain ⟨y4, y5, h6, z2⟩ := inv_wL z1
  obtain ⟨a7, l8, rfl, z3⟩ := inv_wc z2
  obtain ⟨c9, rfl, z4⟩ := inv_wv z3
  obtain ⟨y10, y11, h12, z5⟩ := inv_wL z4
  obtain ⟨a13, l14, rfl, z6⟩ := inv_wc z5
  obtain ⟨c15, rfl, z7⟩ := inv_wv z6
  obtain ⟨y16, h17, z8⟩ := inv_wFn z7
  obtain ⟨y18, h19, z9⟩ := inv_wP z8
  obtain ⟨hn, z10⟩ := inv_wn z9
  cases hn
  exact Den.weaken (.cons (WkA.v h6) (.cons (WkA.v h12) (.cons (WkA.v (wk_fn1 h17 (wk_rp h19))) .nil))) (evalF_sound hmix hC hF ((e58b fuel y4 y5 y10 y11 y18).trans z10))

def C61 (fuel : Nat) : Oracle := (C60 fuel).add 58 (fun l => isFn 55 l 2) (O58b fuel)

/-- shipyard/region.Clear -/
def A27v1 : AC := (.region 14 [
  ⟨(some 63), .binOp .add 3 (.tmp 55) (.const (.int .i64 1)) 3, none⟩,
  ⟨(some 55), .move (.tmp 63), none⟩] 0 none)
def A27v2 : AC := (.seq (.block 3
  (.seq (.region 11 [
    ⟨(some 57), .indexAddr 23 22 1 (.tmp 53) (.tmp 55), none⟩,
    ⟨(some 58), .load 22 none (.tmp 57), none⟩,
    ⟨(some 11), .assign (.tmp 58), none⟩] 0 none) []
    (.seq (.region 12 [
    ⟨(some 59), .move (.tmp 9), none⟩,
    ⟨(some 60), .move (.tmp 11), none⟩,
    ⟨(some 61), .move (.tmp 7), none⟩,
    ⟨(some 62), .call 58 [(.tmp 59), (.tmp 60), (.tmp 61)] [22, 22, 67] .snap, none⟩] 0 none) []
    (.cond (.tmp 62)
    (.seq (.region 13 [
      ⟨(some 6), .assign (.const (.bool false)), none⟩] 0 none) []
      (.ret [0, 1, 2, 3, 4, 5, 7, 8, 9, 10, 11, 12, 13, 14, 15, 16, 17, 18, 19, 20, 21, 22, 23, 24, 25, 26, 27, 28, 29, 30, 31, 32, 33, 34, 35, 36, 37, 38, 39, 40, 41, 42, 43, 44, 45, 46, 47, 48, 49, 50, 51, 52, 53, 54, 55, 56, 57, 58, 59, 60, 61, 62, 63, 64]))
    .skip)))) [6, 11, 57, 58, 59, 60, 61, 62]
  A27v1)
def A27v3 : AC := (.seq (.region 10 [
  ⟨(some 56), .binOp .lss 3 (.tmp 55) (.tmp 54) 3, none⟩] 0 none) []
  (.seq (.cond (.tmp 56)
  .skip
  (.exit 2 [0, 1, 2, 3, 5, 6, 8, 9, 10, 11, 12, 13, 14, 15, 16, 17, 18, 19, 20, 21, 22, 23, 24, 25, 26, 27, 28, 29, 30, 31, 32, 33, 34, 35, 36, 37, 38, 39, 40, 41, 42, 43, 44, 45, 49, 50, 51, 52, 53, 54, 55, 56, 57, 58, 59, 60, 61, 62, 63, 64])) []
  A27v2))
def A27v4 : AC := (.region 15 [
  ⟨(some 64), .binOp .add 3 (.tmp 48) (.const (.int .i64 1)) 3, none⟩,
  ⟨(some 48), .move (.tmp 64), none⟩] 0 none)
def A27v5 : AC := (.seq (.block 1
  (.seq (.region 8 [
    ⟨(some 50), .indexAddr 23 22 1 (.tmp 46) (.tmp 48), none⟩,
    ⟨(some 51), .load 22 none (.tmp 50), none⟩,
    ⟨(some 9), .assign (.tmp 51), none⟩] 0 none) []
    (.seq (.region 9 [
    ⟨(some 52), .load 25 (some 2) (.tmp 4), none⟩,
    ⟨(some 53), .call 42 [(.tmp 52)] [25] .freeze, none⟩,
    ⟨(some 54), .len 23 false (.tmp 53), none⟩,
    ⟨(some 55), .move (.const (.int .i64 0)), none⟩] 0 none) []
    (.block 2
    (.loop [] [0, 1, 2, 3, 5, 6, 8, 10, 11, 12, 13, 14, 15, 16, 17, 18, 19, 20, 21, 22, 23, 24, 25, 26, 27, 28, 29, 30, 31, 32, 33, 34, 35, 36, 37, 38, 39, 40, 41, 42, 43, 44, 45, 49, 50, 51, 52, 56, 57, 58, 59, 60, 61, 62, 63, 64]
      A27v3))))) [6, 9, 11, 50, 51, 52, 53, 54, 55, 56, 57, 58, 59, 60, 61, 62, 63]
  A27v4)
def A27v6 : AC := (.seq (.region 7 [
  ⟨(some 49), .binOp .lss 3 (.tmp 48) (.tmp 47) 3, none⟩] 0 none) []
  (.seq (.cond (.tmp 49)
  .skip
  (.exit 0 [0, 1, 2, 3, 4, 5, 6, 7, 8, 9, 10, 11, 12, 13, 14, 15, 16, 17, 18, 19, 20, 21, 22, 23, 24, 25, 26, 27, 28, 29, 30, 31, 32, 33, 34, 35, 36, 37, 38, 39, 40, 41, 42, 43, 44, 45, 46, 47, 48, 49, 50, 51, 52, 53, 54, 55, 56, 57, 58, 59, 60, 61, 62, 63, 64])) []
  A27v5))
def A27v7 : AC := (.seq (.region 16 [
  ⟨(some 6), .assign (.const (.bool true)), none⟩] 0 none) []
  (.ret [0, 1, 2, 3, 4, 5, 7, 8, 9, 10, 11, 12, 13, 14, 15, 16, 17, 18, 19, 20, 21, 22, 23, 24, 25, 26, 27, 28, 29, 30, 31, 32, 33, 34, 35, 36, 37, 38, 39, 40, 41, 42, 43, 44, 45, 46, 47, 48, 49, 50, 51, 52, 53, 54, 55, 56, 57, 58, 59, 60, 61, 62, 63, 64]))
def A27v8 : AC := (.seq (.region 5 [
  ⟨(some 44), .mkfn 55 [(.tmp 5)], none⟩,
  ⟨(some 7), .assign (.tmp 44), none⟩] 0 none) []
  (.seq (.seq (.region 6 [
  ⟨(some 45), .load 25 (some 2) (.tmp 3), none⟩,
  ⟨(some 46), .call 42 [(.tmp 45)] [25] .freeze, none⟩,
  ⟨(some 47), .len 23 false (.tmp 46), none⟩,
  ⟨(some 48), .move (.const (.int .i64 0)), none⟩] 0 none) []
  (.block 0
  (.loop [] [0, 1, 2, 3, 5, 6, 8, 9, 10, 11, 12, 13, 14, 15, 16, 17, 18, 19, 20, 21, 22, 23, 24, 25, 26, 27, 28, 29, 30, 31, 32, 33, 34, 35, 36, 37, 38, 39, 40, 41, 42, 43, 44, 45, 49, 50, 51, 52, 53, 54, 55, 56, 57, 58, 59, 60, 61, 62, 63, 64]
    A27v6))) [6, 9, 11, 45, 46, 47, 48, 49, 50, 51, 52, 53, 54, 55, 56, 57, 58, 59, 60, 61, 62, 63, 64]
  A27v7))
def A27v9 : AC := (.seq (.seq (.region 3 [
  ⟨(some 28), .load 25 (some 2) (.tmp 3), none⟩,
  ⟨(some 29), .fieldAddr 25 (.tmp 4) 0 0, none⟩,
  ⟨(some 30), .load 22 none (.tmp 29), none⟩,
  ⟨(some 31), .indexAddr 22 34 2 (.tmp 30) (.const (.int .i64 0)), none⟩,
  ⟨(some 32), .load 34 (some 2) (.tmp 31), none⟩,
  ⟨(some 33), .call 47 [(.tmp 28), (.tmp 32)] [25, 34] .snap, none⟩,
  ⟨(some 34), .binOp .geq 3 (.tmp 33) (.const (.int .i64 0)) 3, none⟩,
  ⟨(some 35), .move (.tmp 34), none⟩,
  ⟨(some 36), .load 25 (some 2) (.tmp 4), (some (35, false))⟩,
  ⟨(some 37), .fieldAddr 25 (.tmp 3) 0 0, (some (35, false))⟩,
  ⟨(some 38), .load 22 none (.tmp 37), (some (35, false))⟩,
  ⟨(some 39), .indexAddr 22 34 2 (.tmp 38) (.const (.int .i64 0)), (some (35, false))⟩,
  ⟨(some 40), .load 34 (some 2) (.tmp 39), (some (35, false))⟩,
  ⟨(some 41), .call 47 [(.tmp 36), (.tmp 40)] [25, 34] .snap, (some (35, false))⟩,
  ⟨(some 42), .binOp .geq 3 (.tmp 41) (.const (.int .i64 0)) 3, (some (35, false))⟩,
  ⟨(some 43), .pick (.tmp 35) (.const (.bool true)) (.tmp 42), none⟩] 0 (some [[], [], [1], [1, 2], [1, 2, 3], [0, 1, 2, 3, 4], [0, 1, 2, 3, 4, 5], [0, 1, 2, 3, 4, 5, 6], [0, 1, 2, 3, 4, 5, 6, 7], [0, 1, 2, 3, 4, 5, 6, 7], [0, 1, 2, 3, 4, 5, 6, 7, 9], [0, 1, 2, 3, 4, 5, 6, 7, 9, 10], [0, 1, 2, 3, 4, 5, 6, 7, 9, 10, 11], [0, 1, 2, 3, 4, 5, 6, 7, 8, 9, 10, 11, 12], [0, 1, 2, 3, 4, 5, 6, 7, 8, 9, 10, 11, 12, 13], [0, 1, 2, 3, 4, 5, 6, 7, 8, 9, 10, 11, 12, 13, 14]])) []
  (.cond (.tmp 43)
  (.seq (.region 4 [
    ⟨(some 6), .assign (.const (.bool false)), none⟩] 0 none) []
    (.ret [0, 1, 2, 3, 4, 5, 7, 8, 9, 10, 11, 12, 13, 14, 15, 16, 17, 18, 19, 20, 21, 22, 23, 24, 25, 26, 27, 28, 29, 30, 31, 32, 33, 34, 35, 36, 37, 38, 39, 40, 41, 42, 43, 44, 45, 46, 47, 48, 49, 50, 51, 52, 53, 54, 55, 56, 57, 58, 59, 60, 61, 62, 63, 64]))
  .skip)) [6, 28, 29, 30, 31, 32, 33, 34, 35, 36, 37, 38, 39, 40, 41, 42, 43]
  A27v8)
def A27 : AF := ⟨65, [.tmp 6],
  (.seq (.region 0 [
  ⟨(some 3), .box 0 25 (.tmp 0), none⟩,
  ⟨(some 4), .box 1 25 (.tmp 1), none⟩,
  ⟨(some 5), .box 2 3 (.tmp 2), none⟩,
  ⟨(some 6), .assign (.const (.bool false)), none⟩] 3 none) []
  (.seq (.seq (.region 1 [
  ⟨(some 12), .load 3 none (.tmp 5), none⟩,
  ⟨(some 13), .binOp .lss 3 (.tmp 12) (.const (.int .i64 0)) 3, none⟩,
  ⟨(some 14), .move (.tmp 13), none⟩,
  ⟨(some 15), .load 3 none (.tmp 5), (some (14, false))⟩,
  ⟨(some 16), .binOp .gtr 3 (.tmp 15) (.const (.int .i64 1000)) 3, (some (14, false))⟩,
  ⟨(some 17), .pick (.tmp 14) (.const (.bool true)) (.tmp 16), none⟩,
  ⟨(some 18), .move (.tmp 17), none⟩,
  ⟨(some 19), .load 25 (some 2) (.tmp 3), (some (18, false))⟩,
  ⟨(some 20), .call 13 [(.tmp 19)] [25] .snap, (some (18, false))⟩,
  ⟨(some 21), .binOp .neq 27 (.tmp 20) (.const (.int .i64 0)) 27, (some (18, false))⟩,
  ⟨(some 22), .pick (.tmp 18) (.const (.bool true)) (.tmp 21), none⟩,
  ⟨(some 23), .move (.tmp 22), none⟩,
  ⟨(some 24), .load 25 (some 2) (.tmp 4), (some (23, false))⟩,
  ⟨(some 25), .call 13 [(.tmp 24)] [25] .snap, (some (23, false))⟩,
  ⟨(some 26), .binOp .neq 27 (.tmp 25) (.const (.int .i64 0)) 27, (some (23, false))⟩,
  ⟨(some 27), .pick (.tmp 23) (.const (.bool true)) (.tmp 26), none⟩] 0 none) []
  (.cond (.tmp 27)
  (.seq (.region 2 [
    ⟨(some 6), .assign (.const (.bool false)), none⟩] 0 none) []
    (.ret [0, 1, 2, 3, 4, 5, 7, 8, 9, 10, 11, 12, 13, 14, 15, 16, 17, 18, 19, 20, 21, 22, 23, 24, 25, 26, 27, 28, 29, 30, 31, 32, 33, 34, 35, 36, 37, 38, 39, 40, 41, 42, 43, 44, 45, 46, 47, 48, 49, 50, 51, 52, 53, 54, 55, 56, 57, 58, 59, 60, 61, 62, 63, 64]))
  .skip)) [6, 12, 13, 14, 15, 16, 17, 18, 19, 20, 21, 22, 23, 24, 25, 26, 27]
  A27v9))⟩

def B27v2 (C : Oracle) (fuel : Nat) {ρ : Type} : St → (Ex → St → Option ρ) → Option ρ := fun st k => evalC C fuel A27v3 st k
def N27v2 : St → Option St := fun s => s.norm [0, 1, 2, 3, 5, 6, 8, 10, 11, 12, 13, 14, 15, 16, 17, 18, 19, 20, 21, 22, 23, 24, 25, 26, 27, 28, 29, 30, 31, 32, 33, 34, 35, 36, 37, 38, 39, 40, 41, 42, 43, 44, 45, 49, 50, 51, 52, 56, 57, 58, 59, 60, 61, 62, 63, 64] 3

def s27v0 (x98 : Nat) (x99 : Nat → Nat → CV) (x100 : Nat) (x101 : Nat → Nat → CV) (x102 : Int) (x103 : Int) (x104 : Nat) (x105 : Nat → Nat → CV) (x106 : Int) (x107 : Int) (x108 : Nat) (x109 : Nat → Nat → CV) (x110 : Nat) (x111 : Nat → Nat → CV) (x112 : Nat) (x113 : Nat → Nat → CV) (x114 : Nat) (x115 : Nat → Nat → CV) (x116 : Int) : St := ⟨[.u, .u, .u, .u, .x (.ptr 1 0), .u, .u, .x (.fn 55 [.ptr 2 0]), .u, .x (.c (.ro false (.pr (.int .i64) (.pr (.int .i64) .nil)) x98 x99)), .u, .u, .u, .u, .u, .u, .u, .u, .u, .u, .u, .u, .u, .u, .u, .u, .u, .u, .u, .u, .u, .u, .u, .u, .u, .u, .u, .u, .u, .u, .u, .u, .u, .u, .u, .u, .x (.c (.ro false (.pr (.sl (.pr (.int .i64) (.pr (.int .i64) .nil))) .nil) x100 x101)), .x (.c (.i .i64 x102)), .x (.c (.i .i64 x103)), .u, .u, .u, .u, .x (.c (.ro false (.pr (.sl (.pr (.int .i64) (.pr (.int .i64) .nil))) .nil) x104 x105)), .x (.c (.i .i64 x106)), .x (.c (.i .i64 x107)), .u, .u, .u, .u, .u, .u, .u, .u, .u],
    [.box [(.c (.ro false (.pr (.int .i64) (.pr (.int .i64) .nil)) x108 x109)), (.c (.ro false (.pr (.sl (.pr (.int .i64) (.pr (.int .i64) .nil))) .nil) x110 x111))], .box [(.c (.ro false (.pr (.int .i64) (.pr (.int .i64) .nil)) x112 x113)), (.c (.ro false (.pr (.sl (.pr (.int .i64) (.pr (.int .i64) .nil))) .nil) x114 x115))], .box [(.c (.i .i64 x116))]]⟩

def s27v1 (x108 : Nat) (x109 : Nat → Nat → CV) (x110 : Nat) (x111 : Nat → Nat → CV) (x112 : Nat) (x113 : Nat → Nat → CV) (x114 : Nat) (x115 : Nat → Nat → CV) (x116 : Int) : St := ⟨[.u, .u, .u, .u, .u, .u, .x (.c (.b false)), .u, .u, .u, .u, .u, .u, .u, .u, .u, .u, .u, .u, .u, .u, .u, .u, .u, .u, .u, .u, .u, .u, .u, .u, .u, .u, .u, .u, .u, .u, .u, .u, .u, .u, .u, .u, .u, .u, .u, .u, .u, .u, .u, .u, .u, .u, .u, .u, .u, .u, .u, .u, .u, .u, .u, .u, .u, .u],
    [.box [(.c (.ro false (.pr (.int .i64) (.pr (.int .i64) .nil)) x108 x109)), (.c (.ro false (.pr (.sl (.pr (.int .i64) (.pr (.int .i64) .nil))) .nil) x110 x111))], .box [(.c (.ro false (.pr (.int .i64) (.pr (.int .i64) .nil)) x112 x113)), (.c (.ro false (.pr (.sl (.pr (.int .i64) (.pr (.int .i64) .nil))) .nil) x114 x115))], .box [(.c (.i .i64 x116))]]⟩

def s27v2 (x100 : Nat) (x101 : Nat → Nat → CV) (x102 : Int) (x103 : Int) (x108 : Nat) (x109 : Nat → Nat → CV) (x110 : Nat) (x111 : Nat → Nat → CV) (x112 : Nat) (x113 : Nat → Nat → CV) (x114 : Nat) (x115 : Nat → Nat → CV) (x116 : Int) : St := ⟨[.u, .u, .u, .u, .x (.ptr 1 0), .u, .u, .x (.fn 55 [.ptr 2 0]), .u, .u, .u, .u, .u, .u, .u, .u, .u, .u, .u, .u, .u, .u, .u, .u, .u, .u, .u, .u, .u, .u, .u, .u, .u, .u, .u, .u, .u, .u, .u, .u, .u, .u, .u, .u, .u, .u, .x (.c (.ro false (.pr (.sl (.pr (.int .i64) (.pr (.int .i64) .nil))) .nil) x100 x101)), .x (.c (.i .i64 x102)), .x (.c (.i .i64 x103)), .u, .u, .u, .u, .u, .u, .u, .u, .u, .u, .u, .u, .u, .u, .u, .u],
    [.box [(.c (.ro false (.pr (.int .i64) (.pr (.int .i64) .nil)) x108 x109)), (.c (.ro false (.pr (.sl (.pr (.int .i64) (.pr (.int .i64) .nil))) .nil) x110 x111))], .box [(.c (.ro false (.pr (.int .i64) (.pr (.int .i64) .nil)) x112 x113)), (.c (.ro false (.pr (.sl (.pr (.int .i64) (.pr (.int .i64) .nil))) .nil) x114 x115))], .box [(.c (.i .i64 x116))]]⟩

def L27v2 {ρ : Type} (fuel : Nat) (x98 : Nat) (x99 : Nat → Nat → CV) (x100 : Nat) (x101 : Nat → Nat → CV) (x102 : Int) (x103 : Int) (x104 : Nat) (x105 : Nat → Nat → CV) (x106 : Int) (x108 : Nat) (x109 : Nat → Nat → CV) (x110 : Nat) (x111 : Nat → Nat → CV) (x112 : Nat) (x113 : Nat → Nat → CV) (x114 : Nat) (x115 : Nat → Nat → CV) (x116 : Int) : Nat → Int → (Option ρ) → (Option ρ) → Option ρ
  | 0, _, _, _ => none
  | m + 1, x107, k0, k1 =>
    (bif (decide (x107 < x106)) then (bif (inb x107 x104) then (ob (F58b fuel x98 x99 (CV.len (x105 (Int.toNat x107) 0)) (CV.el (x105 (Int.toNat x107) 0)) (listF [(.i .i64 x116)])) fun x117 => (bif x117 then k0 else (L27v2 fuel x98 x99 x100 x101 x102 x103 x104 x105 x106 x108 x109 x110 x111 x112 x113 x114 x115 x116 m (w64 (x107 + 1)) k0 k1))) else none) else k1)

theorem nl27v2 {ρ σ : Type} (fuel : Nat) (x98 : Nat) (x99 : Nat → Nat → CV) (x100 : Nat) (x101 : Nat → Nat → CV) (x102 : Int) (x103 : Int) (x104 : Nat) (x105 : Nat → Nat → CV) (x106 : Int) (x108 : Nat) (x109 : Nat → Nat → CV) (x110 : Nat) (x111 : Nat → Nat → CV) (x112 : Nat) (x113 : Nat → Nat → CV) (x114 : Nat) (x115 : Nat → Nat → CV) (x116 : Int) (g : ρ → Option σ) : ∀ (m : Nat) (x107 : Int) (k0 : Option ρ) (k1 : Option ρ), ob (L27v2 fuel x98 x99 x100 x101 x102 x103 x104 x105 x106 x108 x109 x110 x111 x112 x113 x114 x115 x116 m x107 k0 k1) g = L27v2 fuel x98 x99 x100 x101 x102 x103 x104 x105 x106 x108 x109 x110 x111 x112 x113 x114 x115 x116 m x107 (ob k0 g) (ob k1 g)
  | 0, _, _, _ => rfl
  | m + 1, x107, k0, k1 => by
    simp only [L27v2, ob_bif, ob_ob, ob_none, nl27v2 fuel x98 x99 x100 x101 x102 x103 x104 x105 x106 x108 x109 x110 x111 x112 x113 x114 x115 x116 g m]

theorem r27v2 (fuel : Nat) (m : Nat) {ρ : Type} (k : Ex → St → Option ρ) (x98 : Nat) (x99 : Nat → Nat → CV) (x100 : Nat) (x101 : Nat → Nat → CV) (x102 : Int) (x103 : Int) (x104 : Nat) (x105 : Nat → Nat → CV) (x106 : Int) (x108 : Nat) (x109 : Nat → Nat → CV) (x110 : Nat) (x111 : Nat → Nat → CV) (x112 : Nat) (x113 : Nat → Nat → CV) (x114 : Nat) (x115 : Nat → Nat → CV) (x116 : Int) (x107 : Int) :
    loopH (B27v2 (C61 fuel) fuel) N27v2 (m + 1) (s27v0 x98 x99 x100 x101 x102 x103 x104 x105 x106 x107 x108 x109 x110 x111 x112 x113 x114 x115 x116) k =
    (bif (decide (x107 < x106)) then (bif (inb x107 x104) then (ob (F58b fuel x98 x99 (CV.len (x105 (Int.toNat x107) 0)) (CV.el (x105 (Int.toNat x107) 0)) (listF [(.i .i64 x116)])) fun x117 => (bif x117 then (k .ret (s27v1 x108 x109 x110 x111 x112 x113 x114 x115 x116)) else (loopH (B27v2 (C61 fuel) fuel) N27v2 m (s27v0 x98 x99 x100 x101 x102 x103 x104 x105 x106 (w64 (x107 + 1)) x108 x109 x110 x111 x112 x113 x114 x115 x116) k))) else none) else (k (.exit 2) (s27v2 x100 x101 x102 x103 x108 x109 x110 x111 x112 x113 x114 x115 x116))) := by kernel_rfl

theorem q27v2 (fuel : Nat) (x98 : Nat) (x99 : Nat → Nat → CV) (x100 : Nat) (x101 : Nat → Nat → CV) (x102 : Int) (x103 : Int) (x104 : Nat) (x105 : Nat → Nat → CV) (x106 : Int) (x108 : Nat) (x109 : Nat → Nat → CV) (x110 : Nat) (x111 : Nat → Nat → CV) (x112 : Nat) (x113 : Nat → Nat → CV) (x114 : Nat) (x115 : Nat → Nat → CV) (x116 : Int) {ρ : Type} (k : Ex → St → Option ρ) : ∀ (m : Nat) (x107 : Int),
    loopH (B27v2 (C61 fuel) fuel) N27v2 m (s27v0 x98 x99 x100 x101 x102 x103 x104 x105 x106 x107 x108 x109 x110 x111 x112 x113 x114 x115 x116) k = L27v2 fuel x98 x99 x100 x101 x102 x103 x104 x105 x106 x108 x109 x110 x111 x112 x113 x114 x115 x116 m x107 (k .ret (s27v1 x108 x109 x110 x111 x112 x113 x114 x115 x116)) (k (.exit 2) (s27v2 x100 x101 x102 x103 x108 x109 x110 x111 x112 x113 x114 x115 x116))
  | 0, _ => rfl
  | m + 1, x107 => by
    rw [r27v2]
    simp only [L27v2, q27v2 fuel x98 x99 x100 x101 x102 x103 x104 x105 x106 x108 x109 x110 x111 x112 x113 x114 x115 x116 k m]

def B27v3 (C : Oracle) (fuel : Nat) {ρ : Type} : St → (Ex → St → Option ρ) → Option ρ := fun st k => evalC C fuel A27v6 st k
def N27v3 : St → Option St := fun s => s.norm [0, 1, 2, 3, 5, 6, 8, 9, 10, 11, 12, 13, 14, 15, 16, 17, 18, 19, 20, 21, 22, 23, 24, 25, 26, 27, 28, 29, 30, 31, 32, 33, 34, 35, 36, 37, 38, 39, 40, 41, 42, 43, 44, 45, 49, 50, 51, 52, 53, 54, 55, 56, 57, 58, 59, 60, 61, 62, 63, 64] 3

def s27v3 (x65 : Nat) (x66 : Nat → Nat → CV) (x67 : Int) (x68 : Int) (x69 : Nat) (x70 : Nat → Nat → CV) (x71 : Nat) (x72 : Nat → Nat → CV) (x73 : Nat) (x74 : Nat → Nat → CV) (x75 : Nat) (x76 : Nat → Nat → CV) (x77 : Int) : St := ⟨[.u, .u, .u, .u, .x (.ptr 1 0), .u, .u, .x (.fn 55 [.ptr 2 0]), .u, .u, .u, .u, .u, .u, .u, .u, .u, .u, .u, .u, .u, .u, .u, .u, .u, .u, .u, .u, .u, .u, .u, .u, .u, .u, .u, .u, .u, .u, .u, .u, .u, .u, .u, .u, .u, .u, .x (.c (.ro false (.pr (.sl (.pr (.int .i64) (.pr (.int .i64) .nil))) .nil) x65 x66)), .x (.c (.i .i64 x67)), .x (.c (.i .i64 x68)), .u, .u, .u, .u, .u, .u, .u, .u, .u, .u, .u, .u, .u, .u, .u, .u],
    [.box [(.c (.ro false (.pr (.int .i64) (.pr (.int .i64) .nil)) x69 x70)), (.c (.ro false (.pr (.sl (.pr (.int .i64) (.pr (.int .i64) .nil))) .nil) x71 x72))], .box [(.c (.ro false (.pr (.int .i64) (.pr (.int .i64) .nil)) x73 x74)), (.c (.ro false (.pr (.sl (.pr (.int .i64) (.pr (.int .i64) .nil))) .nil) x75 x76))], .box [(.c (.i .i64 x77))]]⟩

def s27v4 (x69 : Nat) (x70 : Nat → Nat → CV) (x71 : Nat) (x72 : Nat → Nat → CV) (x73 : Nat) (x74 : Nat → Nat → CV) (x75 : Nat) (x76 : Nat → Nat → CV) (x77 : Int) : St := ⟨[.u, .u, .u, .u, .u, .u, .x (.c (.b false)), .u, .u, .u, .u, .u, .u, .u, .u, .u, .u, .u, .u, .u, .u, .u, .u, .u, .u, .u, .u, .u, .u, .u, .u, .u, .u, .u, .u, .u, .u, .u, .u, .u, .u, .u, .u, .u, .u, .u, .u, .u, .u, .u, .u, .u, .u, .u, .u, .u, .u, .u, .u, .u, .u, .u, .u, .u, .u],
    [.box [(.c (.ro false (.pr (.int .i64) (.pr (.int .i64) .nil)) x69 x70)), (.c (.ro false (.pr (.sl (.pr (.int .i64) (.pr (.int .i64) .nil))) .nil) x71 x72))], .box [(.c (.ro false (.pr (.int .i64) (.pr (.int .i64) .nil)) x73 x74)), (.c (.ro false (.pr (.sl (.pr (.int .i64) (.pr (.int .i64) .nil))) .nil) x75 x76))], .box [(.c (.i .i64 x77))]]⟩

def s27v5 (x69 : Nat) (x70 : Nat → Nat → CV) (x71 : Nat) (x72 : Nat → Nat → CV) (x73 : Nat) (x74 : Nat → Nat → CV) (x75 : Nat) (x76 : Nat → Nat → CV) (x77 : Int) : St := ⟨[.u, .u, .u, .u, .u, .u, .u, .u, .u, .u, .u, .u, .u, .u, .u, .u, .u, .u, .u, .u, .u, .u, .u, .u, .u, .u, .u, .u, .u, .u, .u, .u, .u, .u, .u, .u, .u, .u, .u, .u, .u, .u, .u, .u, .u, .u, .u, .u, .u, .u, .u, .u, .u, .u, .u, .u, .u, .u, .u, .u, .u, .u, .u, .u, .u],
    [.box [(.c (.ro false (.pr (.int .i64) (.pr (.int .i64) .nil)) x69 x70)), (.c (.ro false (.pr (.sl (.pr (.int .i64) (.pr (.int .i64) .nil))) .nil) x71 x72))], .box [(.c (.ro false (.pr (.int .i64) (.pr (.int .i64) .nil)) x73 x74)), (.c (.ro false (.pr (.sl (.pr (.int .i64) (.pr (.int .i64) .nil))) .nil) x75 x76))], .box [(.c (.i .i64 x77))]]⟩

def L27v3 {ρ : Type} (fuel : Nat) (x65 : Nat) (x66 : Nat → Nat → CV) (x67 : Int) (x69 : Nat) (x70 : Nat → Nat → CV) (x71 : Nat) (x72 : Nat → Nat → CV) (x73 : Nat) (x74 : Nat → Nat → CV) (x75 : Nat) (x76 : Nat → Nat → CV) (x77 : Int) : Nat → Int → (Option ρ) → (Option ρ) → Option ρ
  | 0, _, _, _ => none
  | m + 1, x68, k0, k1 =>
    (bif (decide (x68 < x67)) then (bif (inb x68 x65) then (ob (F42 fuel x73 x74 x75 x76) fun x78 => (L27v2 fuel (CV.len (x66 (Int.toNat x68) 0)) (CV.el (x66 (Int.toNat x68) 0)) x65 x66 x67 x68 x78.1 x78.2 (Int.ofNat x78.1) x69 x70 x71 x72 x73 x74 x75 x76 x77 fuel 0
    k0
    (L27v3 fuel x65 x66 x67 x69 x70 x71 x72 x73 x74 x75 x76 x77 m (w64 (x68 + 1)) k0 k1))) else none) else k1)

theorem nl27v3 {ρ σ : Type} (fuel : Nat) (x65 : Nat) (x66 : Nat → Nat → CV) (x67 : Int) (x69 : Nat) (x70 : Nat → Nat → CV) (x71 : Nat) (x72 : Nat → Nat → CV) (x73 : Nat) (x74 : Nat → Nat → CV) (x75 : Nat) (x76 : Nat → Nat → CV) (x77 : Int) (g : ρ → Option σ) : ∀ (m : Nat) (x68 : Int) (k0 : Option ρ) (k1 : Option ρ), ob (L27v3 fuel x65 x66 x67 x69 x70 x71 x72 x73 x74 x75 x76 x77 m x68 k0 k1) g = L27v3 fuel x65 x66 x67 x69 x70 x71 x72 x73 x74 x75 x76 x77 m x68 (ob k0 g) (ob k1 g)
  | 0, _, _, _ => rfl
  | m + 1, x68, k0, k1 => by
    simp only [L27v3, ob_bif, ob_ob, ob_none, nl27v3 fuel x65 x66 x67 x69 x70 x71 x72 x73 x74 x75 x76 x77 g m, nl27v2]

def s27v6 (x66 : Nat → Nat → CV) (x68 : Int) (x65 : Nat) (x67 : Int) (x73 : Nat) (x74 : Nat → Nat → CV) (x75 : Nat) (x76 : Nat → Nat → CV) (x78 : Nat × (Nat → Nat → CV)) (x69 : Nat) (x70 : Nat → Nat → CV) (x71 : Nat) (x72 : Nat → Nat → CV) (x77 : Int) : St := ⟨[.u, .u, .u, .u, .x (.ptr 1 0), .u, .u, .x (.fn 55 [.ptr 2 0]), .u, .x (.c (.ro false (.pr (.int .i64) (.pr (.int .i64) .nil)) (CV.len (x66 (Int.toNat x68) 0)) (CV.el (x66 (Int.toNat x68) 0)))), .u, .u, .u, .u, .u, .u, .u, .u, .u, .u, .u, .u, .u, .u, .u, .u, .u, .u, .u, .u, .u, .u, .u, .u, .u, .u, .u, .u, .u, .u, .u, .u, .u, .u, .u, .u, .x (.c (.ro false (.pr (.sl (.pr (.int .i64) (.pr (.int .i64) .nil))) .nil) x65 x66)), .x (.c (.i .i64 x67)), .x (.c (.i .i64 x68)), .x (.c (.b true)), .x (.c (.rp (.pr (.sl (.pr (.int .i64) (.pr (.int .i64) .nil))) .nil) (x66 (Int.toNat x68)))), .x (.c (.ro false (.pr (.int .i64) (.pr (.int .i64) .nil)) (CV.len (x66 (Int.toNat x68) 0)) (CV.el (x66 (Int.toNat x68) 0)))), .agg [(.c (.ro false (.pr (.int .i64) (.pr (.int .i64) .nil)) x73 x74)), (.c (.ro false (.pr (.sl (.pr (.int .i64) (.pr (.int .i64) .nil))) .nil) x75 x76))], .x (.c (.ro false (.pr (.sl (.pr (.int .i64) (.pr (.int .i64) .nil))) .nil) x78.1 x78.2)), .x (.c (.i .i64 (Int.ofNat x78.1))), .x (.c (.i .i64 0)), .u, .u, .u, .u, .u, .u, .u, .u, .u],
    [.box [(.c (.ro false (.pr (.int .i64) (.pr (.int .i64) .nil)) x69 x70)), (.c (.ro false (.pr (.sl (.pr (.int .i64) (.pr (.int .i64) .nil))) .nil) x71 x72))], .box [(.c (.ro false (.pr (.int .i64) (.pr (.int .i64) .nil)) x73 x74)), (.c (.ro false (.pr (.sl (.pr (.int .i64) (.pr (.int .i64) .nil))) .nil) x75 x76))], .box [(.c (.i .i64 x77))]]⟩

theorem r27v3 (fuel : Nat) (m : Nat) {ρ : Type} (k : Ex → St → Option ρ) (x65 : Nat) (x66 : Nat → Nat → CV) (x67 : Int) (x69 : Nat) (x70 : Nat → Nat → CV) (x71 : Nat) (x72 : Nat → Nat → CV) (x73 : Nat) (x74 : Nat → Nat → CV) (x75 : Nat) (x76 : Nat → Nat → CV) (x77 : Int) (x68 : Int) :
    loopH (B27v3 (C61 fuel) fuel) N27v3 (m + 1) (s27v3 x65 x66 x67 x68 x69 x70 x71 x72 x73 x74 x75 x76 x77) k =
    (bif (decide (x68 < x67)) then (bif (inb x68 x65) then (ob (F42 fuel x73 x74 x75 x76) fun x78 => (loopN (B27v2 (C61 fuel) fuel) N27v2 fuel (s27v6 x66 x68 x65 x67 x73 x74 x75 x76 x78 x69 x70 x71 x72 x77) (kBlk 2 (kBlk 1 (kSeq (C61 fuel) fuel [6, 9, 11, 50, 51, 52, 53, 54, 55, 56, 57, 58, 59, 60, 61, 62, 63] A27v4 (kLoop (B27v3 (C61 fuel) fuel) N27v3 m k)))))) else none) else (k (.exit 0) (s27v5 x69 x70 x71 x72 x73 x74 x75 x76 x77))) := by kernel_rfl

theorem t27v1 (fuel : Nat) {ρ : Type} (k : Ex → St → Option ρ) (x66 : Nat → Nat → CV) (x68 : Int) (x65 : Nat) (x67 : Int) (x73 : Nat) (x74 : Nat → Nat → CV) (x75 : Nat) (x76 : Nat → Nat → CV) (x78 : Nat × (Nat → Nat → CV)) (x69 : Nat) (x70 : Nat → Nat → CV) (x71 : Nat) (x72 : Nat → Nat → CV) (x77 : Int) :
    loopN (B27v2 (C61 fuel) fuel) N27v2 fuel (s27v6 x66 x68 x65 x67 x73 x74 x75 x76 x78 x69 x70 x71 x72 x77) k =
    L27v2 fuel (CV.len (x66 (Int.toNat x68) 0)) (CV.el (x66 (Int.toNat x68) 0)) x65 x66 x67 x68 x78.1 x78.2 (Int.ofNat x78.1) x69 x70 x71 x72 x73 x74 x75 x76 x77 fuel 0 (k .ret (s27v1 x69 x70 x71 x72 x73 x74 x75 x76 x77)) (k (.exit 2) (s27v2 x65 x66 x67 x68 x69 x70 x71 x72 x73 x74 x75 x76 x77)) :=
  (loopN_at (st' := (s27v0 (CV.len (x66 (Int.toNat x68) 0)) (CV.el (x66 (Int.toNat x68) 0)) x65 x66 x67 x68 x78.1 x78.2 (Int.ofNat x78.1) 0 x69 x70 x71 x72 x73 x74 x75 x76 x77)) (by kernel_rfl)).trans (q27v2 fuel (CV.len (x66 (Int.toNat x68) 0)) (CV.el (x66 (Int.toNat x68) 0)) x65 x66 x67 x68 x78.1 x78.2 (Int.ofNat x78.1) x69 x70 x71 x72 x73 x74 x75 x76 x77 k fuel 0)

theorem g27v2 (fuel : Nat) (m : Nat) {ρ : Type} (k : Ex → St → Option ρ) (x69 : Nat) (x70 : Nat → Nat → CV) (x71 : Nat) (x72 : Nat → Nat → CV) (x73 : Nat) (x74 : Nat → Nat → CV) (x75 : Nat) (x76 : Nat → Nat → CV) (x77 : Int) :
    (kBlk 2 (kBlk 1 (kSeq (C61 fuel) fuel [6, 9, 11, 50, 51, 52, 53, 54, 55, 56, 57, 58, 59, 60, 61, 62, 63] A27v4 (kLoop (B27v3 (C61 fuel) fuel) N27v3 m k)))) .ret (s27v1 x69 x70 x71 x72 x73 x74 x75 x76 x77) =
    (k .ret (s27v4 x69 x70 x71 x72 x73 x74 x75 x76 x77)) := by kernel_rfl

theorem g27v3 (fuel : Nat) (m : Nat) {ρ : Type} (k : Ex → St → Option ρ) (x65 : Nat) (x66 : Nat → Nat → CV) (x67 : Int) (x68 : Int) (x69 : Nat) (x70 : Nat → Nat → CV) (x71 : Nat) (x72 : Nat → Nat → CV) (x73 : Nat) (x74 : Nat → Nat → CV) (x75 : Nat) (x76 : Nat → Nat → CV) (x77 : Int) :
    (kBlk 2 (kBlk 1 (kSeq (C61 fuel) fuel [6, 9, 11, 50, 51, 52, 53, 54, 55, 56, 57, 58, 59, 60, 61, 62, 63] A27v4 (kLoop (B27v3 (C61 fuel) fuel) N27v3 m k)))) (.exit 2) (s27v2 x65 x66 x67 x68 x69 x70 x71 x72 x73 x74 x75 x76 x77) =
    (loopH (B27v3 (C61 fuel) fuel) N27v3 m (s27v3 x65 x66 x67 (w64 (x68 + 1)) x69 x70 x71 x72 x73 x74 x75 x76 x77) k) := by kernel_rfl

theorem q27v3 (fuel : Nat) (x65 : Nat) (x66 : Nat → Nat → CV) (x67 : Int) (x69 : Nat) (x70 : Nat → Nat → CV) (x71 : Nat) (x72 : Nat → Nat → CV) (x73 : Nat) (x74 : Nat → Nat → CV) (x75 : Nat) (x76 : Nat → Nat → CV) (x77 : Int) {ρ : Type} (k : Ex → St → Option ρ) : ∀ (m : Nat) (x68 : Int),
    loopH (B27v3 (C61 fuel) fuel) N27v3 m (s27v3 x65 x66 x67 x68 x69 x70 x71 x72 x73 x74 x75 x76 x77) k = L27v3 fuel x65 x66 x67 x69 x70 x71 x72 x73 x74 x75 x76 x77 m x68 (k .ret (s27v4 x69 x70 x71 x72 x73 x74 x75 x76 x77)) (k (.exit 0) (s27v5 x69 x70 x71 x72 x73 x74 x75 x76 x77))
  | 0, _ => rfl
  | m + 1, x68 => by
    rw [r27v3]
    simp only [L27v3, q27v3 fuel x65 x66 x67 x69 x70 x71 x72 x73 x74 x75 x76 x77 k m, t27v1, g27v2, g27v3]

def D27 {ρ : Type} (fuel : Nat) (x1 : Nat) (x2 : Nat → Nat → CV) (x3 : Nat) (x4 : Nat → Nat → CV) (x5 : Nat) (x6 : Nat → Nat → CV) (x7 : Nat) (x8 : Nat → Nat → CV) (x9 : Int) (k : Bool → Option ρ) : Option ρ :=
  (bif ((decide (x9 < 0)) == false) then (bif ((decide (x9 > 1000)) == false) then (ob (F13 fuel x1 x2 x3 x4) fun x10 => (bif ((x10 != 0) == false) then (ob (F13 fuel x5 x6 x7 x8) fun x11 => (bif (x11 != 0) then (k false) else (bif (inb 0 x5) then (ob (F47 fuel x1 x2 x3 x4 (CV.int (x6 0 0)) (CV.int (x6 0 1))) fun x12 => (bif ((decide (x12 ≥ 0)) == false) then (bif (inb 0 x1) then (ob (F47 fuel x5 x6 x7 x8 (CV.int (x2 0 0)) (CV.int (x2 0 1))) fun x13 => (bif (decide (x13 ≥ 0)) then (k false) else (ob (F42 fuel x1 x2 x3 x4) fun x14 => (L27v3 fuel x14.1 x14.2 (Int.ofNat x14.1) x1 x2 x3 x4 x5 x6 x7 x8 x9 fuel 0
    (k false)
    (k true))))) else none) else (k false))) else none))) else (k false))) else (k false)) else (k false))

def F27 (fuel : Nat) (x1 : Nat) (x2 : Nat → Nat → CV) (x3 : Nat) (x4 : Nat → Nat → CV) (x5 : Nat) (x6 : Nat → Nat → CV) (x7 : Nat) (x8 : Nat → Nat → CV) (x9 : Int) : Option (Bool) := D27 fuel x1 x2 x3 x4 x5 x6 x7 x8 x9 some

theorem n27 {ρ σ : Type} (fuel : Nat) (x1 : Nat) (x2 : Nat → Nat → CV) (x3 : Nat) (x4 : Nat → Nat → CV) (x5 : Nat) (x6 : Nat → Nat → CV) (x7 : Nat) (x8 : Nat → Nat → CV) (x9 : Int) (k : (Bool) → Option ρ) (g : ρ → Option σ) : ob (D27 fuel x1 x2 x3 x4 x5 x6 x7 x8 x9 k) g = D27 fuel x1 x2 x3 x4 x5 x6 x7 x8 x9 fun t => ob (k t) g := by
  simp only [D27, ob_bif, ob_ob, ob_none, nl27v3]

theorem f27 {ρ : Type} (fuel : Nat) (x1 : Nat) (x2 : Nat → Nat → CV) (x3 : Nat) (x4 : Nat → Nat → CV) (x5 : Nat) (x6 : Nat → Nat → CV) (x7 : Nat) (x8 : Nat → Nat → CV) (x9 : Int) (k : (Bool) → Option ρ) : D27 fuel x1 x2 x3 x4 x5 x6 x7 x8 x9 k = ob (F27 fuel x1 x2 x3 x4 x5 x6 x7 x8 x9) k := by
  unfold F27
  rw [n27]
  simp only [ob_some]

def s27v7 (x1 : Nat) (x2 : Nat → Nat → CV) (x3 : Nat) (x4 : Nat → Nat → CV) (x5 : Nat) (x6 : Nat → Nat → CV) (x7 : Nat) (x8 : Nat → Nat → CV) (x9 : Int) (x14 : Nat × (Nat → Nat → CV)) : St := ⟨[.agg [(.c (.ro false (.pr (.int .i64) (.pr (.int .i64) .nil)) x1 x2)), (.c (.ro false (.pr (.sl (.pr (.int .i64) (.pr (.int .i64) .nil))) .nil) x3 x4))], .agg [(.c (.ro false (.pr (.int .i64) (.pr (.int .i64) .nil)) x5 x6)), (.c (.ro false (.pr (.sl (.pr (.int .i64) (.pr (.int .i64) .nil))) .nil) x7 x8))], .x (.c (.i .i64 x9)), .x (.ptr 0 0), .x (.ptr 1 0), .x (.ptr 2 0), .u, .x (.fn 55 [.ptr 2 0]), .undef, .undef, .undef, .undef, .u, .u, .u, .u, .u, .u, .u, .u, .u, .u, .u, .u, .u, .u, .u, .u, .u, .u, .u, .u, .u, .u, .u, .u, .u, .u, .u, .u, .u, .u, .u, .u, .x (.fn 55 [.ptr 2 0]), .agg [(.c (.ro false (.pr (.int .i64) (.pr (.int .i64) .nil)) x1 x2)), (.c (.ro false (.pr (.sl (.pr (.int .i64) (.pr (.int .i64) .nil))) .nil) x3 x4))], .x (.c (.ro false (.pr (.sl (.pr (.int .i64) (.pr (.int .i64) .nil))) .nil) x14.1 x14.2)), .x (.c (.i .i64 (Int.ofNat x14.1))), .x (.c (.i .i64 0)), .undef, .undef, .undef, .undef, .undef, .undef, .undef, .undef, .undef, .undef, .undef, .undef, .undef, .undef, .undef, .undef],
    [.box [(.c (.ro false (.pr (.int .i64) (.pr (.int .i64) .nil)) x1 x2)), (.c (.ro false (.pr (.sl (.pr (.int .i64) (.pr (.int .i64) .nil))) .nil) x3 x4))], .box [(.c (.ro false (.pr (.int .i64) (.pr (.int .i64) .nil)) x5 x6)), (.c (.ro false (.pr (.sl (.pr (.int .i64) (.pr (.int .i64) .nil))) .nil) x7 x8))], .box [(.c (.i .i64 x9))]]⟩

theorem walk27 (fuel : Nat) (x1 : Nat) (x2 : Nat → Nat → CV) (x3 : Nat) (x4 : Nat → Nat → CV) (x5 : Nat) (x6 : Nat → Nat → CV) (x7 : Nat) (x8 : Nat → Nat → CV) (x9 : Int) :
    evalF (C61 fuel) fuel A27 [.agg [(.ro false (.pr (.int .i64) (.pr (.int .i64) .nil)) x1 x2), (.ro false (.pr (.sl (.pr (.int .i64) (.pr (.int .i64) .nil))) .nil) x3 x4)], .agg [(.ro false (.pr (.int .i64) (.pr (.int .i64) .nil)) x5 x6), (.ro false (.pr (.sl (.pr (.int .i64) (.pr (.int .i64) .nil))) .nil) x7 x8)], .v (.i .i64 x9)] =
    (bif ((decide (x9 < 0)) == false) then (bif ((decide (x9 > 1000)) == false) then (ob (F13 fuel x1 x2 x3 x4) fun x10 => (bif ((x10 != 0) == false) then (ob (F13 fuel x5 x6 x7 x8) fun x11 => (bif (x11 != 0) then (some [.v (.b false)]) else (bif (inb 0 x5) then (ob (F47 fuel x1 x2 x3 x4 (CV.int (x6 0 0)) (CV.int (x6 0 1))) fun x12 => (bif ((decide (x12 ≥ 0)) == false) then (bif (inb 0 x1) then (ob (F47 fuel x5 x6 x7 x8 (CV.int (x2 0 0)) (CV.int (x2 0 1))) fun x13 => (bif (decide (x13 ≥ 0)) then (some [.v (.b false)]) else (ob (F42 fuel x1 x2 x3 x4) fun x14 => (loopN (B27v3 (C61 fuel) fuel) N27v3 fuel (s27v7 x1 x2 x3 x4 x5 x6 x7 x8 x9 x14) (kBlk 0 (kSeq (C61 fuel) fuel [6, 9, 11, 45, 46, 47, 48, 49, 50, 51, 52, 53, 54, 55, 56, 57, 58, 59, 60, 61, 62, 63, 64] A27v7 (finish A27))))))) else none) else (some [.v (.b false)]))) else none))) else (some [.v (.b false)]))) else (some [.v (.b false)])) else (some [.v (.b false)])) := by kernel_rfl

theorem t27v4 (fuel : Nat) {ρ : Type} (k : Ex → St → Option ρ) (x1 : Nat) (x2 : Nat → Nat → CV) (x3 : Nat) (x4 : Nat → Nat → CV) (x5 : Nat) (x6 : Nat → Nat → CV) (x7 : Nat) (x8 : Nat → Nat → CV) (x9 : Int) (x14 : Nat × (Nat → Nat → CV)) :
    loopN (B27v3 (C61 fuel) fuel) N27v3 fuel (s27v7 x1 x2 x3 x4 x5 x6 x7 x8 x9 x14) k =
    L27v3 fuel x14.1 x14.2 (Int.ofNat x14.1) x1 x2 x3 x4 x5 x6 x7 x8 x9 fuel 0 (k .ret (s27v4 x1 x2 x3 x4 x5 x6 x7 x8 x9)) (k (.exit 0) (s27v5 x1 x2 x3 x4 x5 x6 x7 x8 x9)) :=
  (loopN_at (st' := (s27v3 x14.1 x14.2 (Int.ofNat x14.1) 0 x1 x2 x3 x4 x5 x6 x7 x8 x9)) (by kernel_rfl)).trans (q27v3 fuel x14.1 x14.2 (Int.ofNat x14.1) x1 x2 x3 x4 x5 x6 x7 x8 x9 k fuel 0)

theorem g27v5 (fuel : Nat) (x1 : Nat) (x2 : Nat → Nat → CV) (x3 : Nat) (x4 : Nat → Nat → CV) (x5 : Nat) (x6 : Nat → Nat → CV) (x7 : Nat) (x8 : Nat → Nat → CV) (x9 : Int) :
    (kBlk 0 (kSeq (C61 fuel) fuel [6, 9, 11, 45, 46, 47, 48, 49, 50, 51, 52, 53, 54, 55, 56, 57, 58, 59, 60, 61, 62, 63, 64] A27v7 (finish A27))) .ret (s27v4 x1 x2 x3 x4 x5 x6 x7 x8 x9) =
    (some [.v (.b false)]) := by kernel_rfl

theorem g27v6 (fuel : Nat) (x1 : Nat) (x2 : Nat → Nat → CV) (x3 : Nat) (x4 : Nat → Nat → CV) (x5 : Nat) (x6 : Nat → Nat → CV) (x7 : Nat) (x8 : Nat → Nat → CV) (x9 : Int) :
    (kBlk 0 (kSeq (C61 fuel) fuel [6, 9, 11, 45, 46, 47, 48, 49, 50, 51, 52, 53, 54, 55, 56, 57, 58, 59, 60, 61, 62, 63, 64] A27v7 (finish A27))) (.exit 0) (s27v5 x1 x2 x3 x4 x5 x6 x7 x8 x9) =
    (some [.v (.b true)]) := by kernel_rfl

theorem e27 (fuel : Nat) (x1 : Nat) (x2 : Nat → Nat → CV) (x3 : Nat) (x4 : Nat → Nat → CV) (x5 : Nat) (x6 : Nat → Nat → CV) (x7 : Nat) (x8 : Nat → Nat → CV) (x9 : Int) : evalF (C61 fuel) fuel A27 [.agg [(.ro false (.pr (.int .i64) (.pr (.int .i64) .nil)) x1 x2), (.ro false (.pr (.sl (.pr (.int .i64) (.pr (.int .i64) .nil))) .nil) x3 x4)], .agg [(.ro false (.pr (.int .i64) (.pr (.int .i64) .nil)) x5 x6), (.ro false (.pr (.sl (.pr (.int .i64) (.pr (.int .i64) .nil))) .nil) x7 x8)], .v (.i .i64 x9)] = ob (F27 fuel x1 x2 x3 x4 x5 x6 x7 x8 x9) fun t => some [.v (.b t)] := by
  rw [walk27, ← f27]
  simp only [D27, t27v4, g27v5, g27v6]

def O27 (fuel : Nat) : Ora where
  o := fun args {ρ} K =>
    wc args fun a1 l2 =>
    wagg a1 fun l3 =>
    wc l3 fun c4 l5 =>
    wL (.pr (.int .i64) (.pr (.int .i64) .nil)) c4 fun y6 y7 =>
    wc l5 fun c9 l10 =>
    wL (.pr (.sl (.pr (.int .i64) (.pr (.int .i64) .nil))) .nil) c9 fun y11 y12 =>
    wn l10 <|
    wc l2 fun a14 l15 =>
    wagg a14 fun l16 =>
    wc l16 fun c17 l18 =>
    wL (.pr (.int .i64) (.pr (.int .i64) .nil)) c17 fun y19 y20 =>
    wc l18 fun c22 l23 =>
    wL (.pr (.sl (.pr (.int .i64) (.pr (.int .i64) .nil))) .nil) c22 fun y24 y25 =>
    wn l23 <|
    wc l15 fun a27 l28 =>
    wv a27 fun c29 =>
    wI .i64 c29 fun y30 =>
    wn l28 <|
    (ob (F27 fuel y6 y7 y11 y12 y19 y20 y24 y25 y30) fun t => K [.v (.b t)])
  nat := fun args {ρ} K => by
    simp only [bind_wc, bind_wn, bind_wv, bind_wagg, bind_wI, bind_wB, bind_wS, bind_wL, bind_wP, bind_wFn, bind_ob, Option.bind_some]

theorem d27 {P : Program} (fuel : Nat) (hmix : P.follows .mixedOrders = true) (hC : Sound P (C61 fuel)) (hF : FFits P 27 A27) (args res : List A) (h : (O27 fuel).o args some = some res) : Den P 27 args res := by
  obtain ⟨a1, l2, rfl, z0⟩ := inv_wc h
  obtain ⟨l3, rfl, z1⟩ := inv_wagg z0
  obtain ⟨c4, l5, rfl, z2⟩ := inv_wc z1
  obtain ⟨y6, y7, h8, z3⟩ := inv_wL z2
  obtain ⟨c9, l10, rfl, z4⟩ := inv_wc z3
  obtain ⟨y11, y12, h13, z5⟩ := inv_wL z4
  obtain ⟨hn, z6⟩ := inv_wn z5
  cases hn
  obtain ⟨a14, l15, rfl, z7⟩ := inv_wc z6
  obtain ⟨l16, rfl, z8⟩ := inv_wagg z7
  obtain ⟨c17, l18, rfl, z9⟩ := inv_wc z8
  obtain ⟨y19, y20, h21, z10⟩ := inv_wL z9
  obtain ⟨c22, l23, rfl, z11⟩ := inv_wc z10
  obtain ⟨y24, y25, h26, z12⟩ := inv_wL z11
  obtain ⟨hn, z13⟩ := inv_wn z12
  cases hn
  obtain ⟨a27, l28, rfl, z14⟩ := inv_wc z13
  obtain ⟨c29, rfl, z15⟩ := inv_wv z14
  obtain ⟨y30, h31, z16⟩ := inv_wI z15
  obtain ⟨hn, z17⟩ := inv_wn z16
  cases hn
  exact Den.weaken (.cons (WkA.agg (.cons h8 (.cons h13 .nil))) (.cons (WkA.agg (.cons h21 (.cons h26 .nil))) (.cons (WkA.v (Wk.i h31)) .nil))) (evalF_sound hmix hC hF ((e27 fuel y6 y7 y11 y12 y19 y20 y24 y25 y30).trans z17))

def C62 (fuel : Nat) : Oracle := (C61 fuel).add 27 (fun _ => true) (O27 fuel)

/-- shipyard/region.Within.1 -/
def A60 : AF := ⟨15, [.tmp 6],
  (.seq (.region 0 [
  ⟨(some 6), .assign (.const (.bool false)), none⟩] 0 none) []
  (.seq (.region 1 [
  ⟨(some 7), .move (.tmp 0), none⟩,
  ⟨(some 8), .move (.tmp 1), none⟩,
  ⟨(some 9), .binOp .geq 3 (.tmp 7) (.tmp 8) 3, none⟩,
  ⟨(some 10), .move (.tmp 9), none⟩,
  ⟨(some 11), .move (.tmp 0), (some (10, true))⟩,
  ⟨(some 12), .move (.tmp 2), (some (10, true))⟩,
  ⟨(some 13), .binOp .leq 3 (.tmp 11) (.tmp 12) 3, (some (10, true))⟩,
  ⟨(some 14), .pick (.tmp 10) (.tmp 13) (.const (.bool false)), none⟩,
  ⟨(some 6), .assign (.tmp 14), none⟩] 0 none) []
  (.ret [0, 1, 2, 3, 4, 5, 7, 8, 9, 10, 11, 12, 13, 14])))⟩

def D60 {ρ : Type} (fuel : Nat) (x1 : Int) (x2 : Int) (x3 : Int) (k : Bool → Option ρ) : Option ρ :=
  (bif ((decide (x1 ≥ x2)) == true) then (k (decide (x1 ≤ x3))) else (k false))

def F60 (fuel : Nat) (x1 : Int) (x2 : Int) (x3 : Int) : Option (Bool) := D60 fuel x1 x2 x3 some

theorem n60 {ρ σ : Type} (fuel : Nat) (x1 : Int) (x2 : Int) (x3 : Int) (k : (Bool) → Option ρ) (g : ρ → Option σ) : ob (D60 fuel x1 x2 x3 k) g = D60 fuel x1 x2 x3 fun t => ob (k t) g := by
  simp only [D60, ob_bif, ob_ob, ob_none]

theorem f60 {ρ : Type} (fuel : Nat) (x1 : Int) (x2 : Int) (x3 : Int) (k : (Bool) → Option ρ) : D60 fuel x1 x2 x3 k = ob (F60 fuel x1 x2 x3) k := by
  unfold F60
  rw [n60]
  simp only [ob_some]

theorem walk60 (fuel : Nat) (x1 : Int) (x2 : Int) (x3 : Int) :
    evalF (C62 fuel) fuel A60 [.v (.i .i64 x1), .v (.i .i64 x2), .v (.i .i64 x3)] =
    (bif ((decide (x1 ≥ x2)) == true) then (some [.v (.b (decide (x1 ≤ x3)))]) else (some [.v (.b false)])) := by kernel_rfl

theorem e60 (fuel : Nat) (x1 : Int) (x2 : Int) (x3 : Int) : evalF (C62 fuel) fuel A60 [.v (.i .i64 x1), .v (.i .i64 x2), .v (.i .i64 x3)] = ob (F60 fuel x1 x2 x3) fun t => some [.v (.b t)] := by
  rw [walk60, ← f60]
  simp only [D60]

def O60 (fuel : Nat) : Ora where
  o := fun args {ρ} K =>
    wc args fun a1 l2 =>
    wv a1 fun c3 =>
    wI .i64 c3 fun y4 =>
    wc l2 fun a6 l7 =>
    wv a6 fun c8 =>
    wI .i64 c8 fun y9 =>
    wc l7 fun a11 l12 =>
    wv a11 fun c13 =>
    wI .i64 c13 fun y14 =>
    wn l12 <|
    (ob (F60 fuel y4 y9 y14) fun t => K [.v (.b t)])
  nat := fun args {ρ} K => by
    simp only [bind_wc, bind_wn, bind_wv, bind_wagg, bind_wI, bind_wB, bind_wS, bind_wL, bind_wP, bind_wFn, bind_ob, Option.bind_some]

theorem d60 {P : Program} (fuel : Nat) (hmix : P.follows .mixedOrders = true) (hC : Sound P (C62 fuel)) (hF : FFits P 60 A60) (args res : List A) (h : (O60 fuel).o args some = some res) : Den P 60 args res := by
  obtain ⟨a1, l2, rfl, z0⟩ := inv_wc h
  obtain ⟨c3, rfl, z1⟩ := inv_wv z0
  obtain ⟨y4, h5, z2⟩ := inv_wI z1
  obtain ⟨a6, l7, rfl, z3⟩ := inv_wc z2
  obtain ⟨c8, rfl, z4⟩ := inv_wv z3
  obtain ⟨y9, h10, z5⟩ := inv_wI z4
  obtain ⟨a11, l12, rfl, z6⟩ := inv_wc z5
  obtain ⟨c13, rfl, z7⟩ := inv_wv z6
  obtain ⟨y14, h15, z8⟩ := inv_wI z7
  obtain ⟨hn, z9⟩ := inv_wn z8
  cases hn
  exact Den.weaken (.cons (WkA.v (Wk.i h5)) (.cons (WkA.v (Wk.i h10)) (.cons (WkA.v (Wk.i h15)) .nil))) (evalF_sound hmix hC hF ((e60 fuel y4 y9 y14).trans z9))

def C63 (fuel : Nat) : Oracle := (C62 fuel).add 60 (fun _ => true) (O60 fuel)

/-- shipyard/region.Within -/
def A29v1 : AC := (.region 9 [
  ⟨(some 61), .binOp .add 3 (.tmp 37) (.const (.int .i64 1)) 3, none⟩,
  ⟨(some 37), .move (.tmp 61), none⟩] 0 none)
def A29v2 : AC := (.seq (.block 1
  (.seq (.region 6 [
    ⟨(some 39), .indexAddr 22 34 2 (.tmp 35) (.tmp 37), none⟩,
    ⟨(some 40), .load 34 (some 2) (.tmp 39), none⟩,
    ⟨(some 11), .alloc 0 34 [.c (.i .i64 0), .c (.i .i64 0)], none⟩,
    ⟨none, .store 34 2 (.tmp 11) (.tmp 40), none⟩] 1 none) []
    (.seq (.region 7 [
    ⟨(some 41), .move (.tmp 9), none⟩,
    ⟨(some 42), .fieldAddr 34 (.tmp 11) 0 0, none⟩,
    ⟨(some 43), .load 3 none (.tmp 42), none⟩,
    ⟨(some 44), .move (.tmp 3), none⟩,
    ⟨(some 45), .move (.tmp 1), none⟩,
    ⟨(some 46), .move (.tmp 3), none⟩,
    ⟨(some 47), .binOp .sub 3 (.tmp 45) (.tmp 46) 3, none⟩,
    ⟨(some 48), .callv (.tmp 41) [(.tmp 43), (.tmp 44), (.tmp 47)] [3, 3, 3] .snap, none⟩,
    ⟨(some 49), .unOp .not 4 (.tmp 48), none⟩,
    ⟨(some 50), .move (.tmp 49), none⟩,
    ⟨(some 51), .move (.tmp 9), (some (50, false))⟩,
    ⟨(some 52), .fieldAddr 34 (.tmp 11) 1 1, (some (50, false))⟩,
    ⟨(some 53), .load 3 none (.tmp 52), (some (50, false))⟩,
    ⟨(some 54), .move (.tmp 3), (some (50, false))⟩,
    ⟨(some 55), .move (.tmp 2), (some (50, false))⟩,
    ⟨(some 56), .move (.tmp 3), (some (50, false))⟩,
    ⟨(some 57), .binOp .sub 3 (.tmp 55) (.tmp 56) 3, (some (50, false))⟩,
    ⟨(some 58), .callv (.tmp 51) [(.tmp 53), (.tmp 54), (.tmp 57)] [3, 3, 3] .snap, (some (50, false))⟩,
    ⟨(some 59), .unOp .not 4 (.tmp 58), (some (50, false))⟩,
    ⟨(some 60), .pick (.tmp 50) (.const (.bool true)) (.tmp 59), none⟩] 0 none) []
    (.cond (.tmp 60)
    (.seq (.region 8 [
      ⟨(some 8), .assign (.const (.bool false)), none⟩] 0 none) []
      (.ret [0, 1, 2, 3, 4, 5, 6, 7, 9, 10, 11, 12, 13, 14, 15, 16, 17, 18, 19, 20, 21, 22, 23, 24, 25, 26, 27, 28, 29, 30, 31, 32, 33, 34, 35, 36, 37, 38, 39, 40, 41, 42, 43, 44, 45, 46, 47, 48, 49, 50, 51, 52, 53, 54, 55, 56, 57, 58, 59, 60, 61]))
    .skip)))) [8, 11, 39, 40, 41, 42, 43, 44, 45, 46, 47, 48, 49, 50, 51, 52, 53, 54, 55, 56, 57, 58, 59, 60]
  A29v1)
def A29v3 : AC := (.seq (.region 5 [
  ⟨(some 38), .binOp .lss 3 (.tmp 37) (.tmp 36) 3, none⟩] 0 none) []
  (.seq (.cond (.tmp 38)
  .skip
  (.exit 0 [0, 1, 2, 3, 4, 5, 6, 7, 8, 9, 10, 11, 12, 13, 14, 15, 16, 17, 18, 19, 20, 21, 22, 23, 24, 25, 26, 27, 28, 29, 30, 31, 32, 33, 34, 35, 36, 37, 38, 39, 40, 41, 42, 43, 44, 45, 46, 47, 48, 49, 50, 51, 52, 53, 54, 55, 56, 57, 58, 59, 60, 61])) []
  A29v2))
def A29v4 : AC := (.seq (.region 10 [
  ⟨(some 8), .assign (.const (.bool true)), none⟩] 0 none) []
  (.ret [0, 1, 2, 3, 4, 5, 6, 7, 9, 10, 11, 12, 13, 14, 15, 16, 17, 18, 19, 20, 21, 22, 23, 24, 25, 26, 27, 28, 29, 30, 31, 32, 33, 34, 35, 36, 37, 38, 39, 40, 41, 42, 43, 44, 45, 46, 47, 48, 49, 50, 51, 52, 53, 54, 55, 56, 57, 58, 59, 60, 61]))
def A29v5 : AC := (.seq (.seq (.region 4 [
  ⟨(some 34), .fieldAddr 25 (.tmp 4) 0 0, none⟩,
  ⟨(some 35), .load 22 none (.tmp 34), none⟩,
  ⟨(some 36), .len 22 false (.tmp 35), none⟩,
  ⟨(some 37), .move (.const (.int .i64 0)), none⟩] 0 none) []
  (.block 0
  (.loop [] [0, 4, 5, 6, 7, 8, 10, 11, 12, 13, 14, 15, 16, 17, 18, 19, 20, 21, 22, 23, 24, 25, 26, 27, 28, 29, 30, 31, 32, 33, 34, 38, 39, 40, 41, 42, 43, 44, 45, 46, 47, 48, 49, 50, 51, 52, 53, 54, 55, 56, 57, 58, 59, 60, 61]
    A29v3))) [8, 11, 34, 35, 36, 37, 38, 39, 40, 41, 42, 43, 44, 45, 46, 47, 48, 49, 50, 51, 52, 53, 54, 55, 56, 57, 58, 59, 60, 61]
  A29v4)
def A29 : AF := ⟨62, [.tmp 8],
  (.seq (.region 0 [
  ⟨(some 4), .box 0 25 (.tmp 0), none⟩,
  ⟨(some 8), .assign (.const (.bool false)), none⟩] 1 none) []
  (.seq (.region 1 [
  ⟨(some 9), .assign (.func 60), none⟩] 0 none) []
  (.seq (.seq (.region 2 [
  ⟨(some 12), .fieldAddr 25 (.tmp 4) 0 0, none⟩,
  ⟨(some 13), .load 22 none (.tmp 12), none⟩,
  ⟨(some 14), .len 22 false (.tmp 13), none⟩,
  ⟨(some 15), .binOp .eql 3 (.tmp 14) (.const (.int .i64 0)) 3, none⟩,
  ⟨(some 16), .move (.tmp 15), none⟩,
  ⟨(some 17), .move (.tmp 9), (some (16, false))⟩,
  ⟨(some 18), .move (.tmp 1), (some (16, false))⟩,
  ⟨(some 19), .callv (.tmp 17) [(.tmp 18), (.const (.int .i64 0)), (.const (.int .i64 32768))] [3, 3, 3] .snap, (some (16, false))⟩,
  ⟨(some 20), .unOp .not 4 (.tmp 19), (some (16, false))⟩,
  ⟨(some 21), .pick (.tmp 16) (.const (.bool true)) (.tmp 20), none⟩,
  ⟨(some 22), .move (.tmp 21), none⟩,
  ⟨(some 23), .move (.tmp 9), (some (22, false))⟩,
  ⟨(some 24), .move (.tmp 2), (some (22, false))⟩,
  ⟨(some 25), .callv (.tmp 23) [(.tmp 24), (.const (.int .i64 0)), (.const (.int .i64 32768))] [3, 3, 3] .snap, (some (22, false))⟩,
  ⟨(some 26), .unOp .not 4 (.tmp 25), (some (22, false))⟩,
  ⟨(some 27), .pick (.tmp 22) (.const (.bool true)) (.tmp 26), none⟩,
  ⟨(some 28), .move (.tmp 27), none⟩,
  ⟨(some 29), .move (.tmp 9), (some (28, false))⟩,
  ⟨(some 30), .move (.tmp 3), (some (28, false))⟩,
  ⟨(some 31), .callv (.tmp 29) [(.tmp 30), (.const (.int .i64 0)), (.const (.int .i64 1000))] [3, 3, 3] .snap, (some (28, false))⟩,
  ⟨(some 32), .unOp .not 4 (.tmp 31), (some (28, false))⟩,
  ⟨(some 33), .pick (.tmp 28) (.const (.bool true)) (.tmp 32), none⟩] 0 none) []
  (.cond (.tmp 33)
  (.seq (.region 3 [
    ⟨(some 8), .assign (.const (.bool false)), none⟩] 0 none) []
    (.ret [0, 1, 2, 3, 4, 5, 6, 7, 9, 10, 11, 12, 13, 14, 15, 16, 17, 18, 19, 20, 21, 22, 23, 24, 25, 26, 27, 28, 29, 30, 31, 32, 33, 34, 35, 36, 37, 38, 39, 40, 41, 42, 43, 44, 45, 46, 47, 48, 49, 50, 51, 52, 53, 54, 55, 56, 57, 58, 59, 60, 61]))
  .skip)) [8, 12, 13, 14, 15, 16, 17, 18, 19, 20, 21, 22, 23, 24, 25, 26, 27, 28, 29, 30, 31, 32, 33]
  A29v5)))⟩

def B29v1 (C : Oracle) (fuel : Nat) {ρ : Type} : St → (Ex → St → Option ρ) → Option ρ := fun st k => evalC C fuel A29v3 st k
def N29v1 : St → Option St := fun s => s.norm [0, 4, 5, 6, 7, 8, 10, 11, 12, 13, 14, 15, 16, 17, 18, 19, 20, 21, 22, 23, 24, 25, 26, 27, 28, 29, 30, 31, 32, 33, 34, 38, 39, 40, 41, 42, 43, 44, 45, 46, 47, 48, 49, 50, 51, 52, 53, 54, 55, 56, 57, 58, 59, 60, 61] 1

def s29v0 (x21 : Int) (x22 : Int) (x23 : Int) (x24 : Nat) (x25 : Nat → Nat → CV) (x26 : Int) (x27 : Int) (x28 : Nat) (x29 : Nat → Nat → CV) : St := ⟨[.u, .x (.c (.i .i64 x21)), .x (.c (.i .i64 x22)), .x (.c (.i .i64 x23)), .u, .u, .u, .u, .u, .x (.fn 60 []), .u, .u, .u, .u, .u, .u, .u, .u, .u, .u, .u, .u, .u, .u, .u, .u, .u, .u, .u, .u, .u, .u, .u, .u, .u, .x (.c (.ro false (.pr (.int .i64) (.pr (.int .i64) .nil)) x24 x25)), .x (.c (.i .i64 x26)), .x (.c (.i .i64 x27)), .u, .u, .u, .u, .u, .u, .u, .u, .u, .u, .u, .u, .u, .u, .u, .u, .u, .u, .u, .u, .u, .u, .u, .u],
    [.box [(.c (.ro false (.pr (.int .i64) (.pr (.int .i64) .nil)) x24 x25)), (.c (.ro false (.pr (.sl (.pr (.int .i64) (.pr (.int .i64) .nil))) .nil) x28 x29))]]⟩

def s29v1 (x24 : Nat) (x25 : Nat → Nat → CV) (x28 : Nat) (x29 : Nat → Nat → CV) (x32 : Int) (x33 : Int) : St := ⟨[.u, .u, .u, .u, .u, .u, .u, .u, .x (.c (.b false)), .u, .u, .u, .u, .u, .u, .u, .u, .u, .u, .u, .u, .u, .u, .u, .u, .u, .u, .u, .u, .u, .u, .u, .u, .u, .u, .u, .u, .u, .u, .u, .u, .u, .u, .u, .u, .u, .u, .u, .u, .u, .u, .u, .u, .u, .u, .u, .u, .u, .u, .u, .u, .u],
    [.box [(.c (.ro false (.pr (.int .i64) (.pr (.int .i64) .nil)) x24 x25)), (.c (.ro false (.pr (.sl (.pr (.int .i64) (.pr (.int .i64) .nil))) .nil) x28 x29))], .box [(.c (.i .i64 x32)), (.c (.i .i64 x33))]]⟩

def s29v2 (x24 : Nat) (x25 : Nat → Nat → CV) (x28 : Nat) (x29 : Nat → Nat → CV) : St := ⟨[.u, .u, .u, .u, .u, .u, .u, .u, .u, .u, .u, .u, .u, .u, .u, .u, .u, .u, .u, .u, .u, .u, .u, .u, .u, .u, .u, .u, .u, .u, .u, .u, .u, .u, .u, .u, .u, .u, .u, .u, .u, .u, .u, .u, .u, .u, .u, .u, .u, .u, .u, .u, .u, .u, .u, .u, .u, .u, .u, .u, .u, .u],
    [.box [(.c (.ro false (.pr (.int .i64) (.pr (.int .i64) .nil)) x24 x25)), (.c (.ro false (.pr (.sl (.pr (.int .i64) (.pr (.int .i64) .nil))) .nil) x28 x29))]]⟩

def L29v1 {ρ : Type} (fuel : Nat) (x21 : Int) (x22 : Int) (x23 : Int) (x24 : Nat) (x25 : Nat → Nat → CV) (x26 : Int) (x28 : Nat) (x29 : Nat → Nat → CV) : Nat → Int → (Int → Int → Option ρ) → (Option ρ) → Option ρ
  | 0, _, _, _ => none
  | m + 1, x27, k0, k1 =>
    (bif (decide (x27 < x26)) then (bif (inb x27 x24) then (ob (F60 fuel (CV.int (x25 (Int.toNat x27) 0)) x23 (w64 (x21 - x23))) fun x30 => (bif ((!x30) == false) then (ob (F60 fuel (CV.int (x25 (Int.toNat x27) 1)) x23 (w64 (x22 - x23))) fun x31 => (bif (!x31) then (k0 (CV.int (x25 (Int.toNat x27) 0)) (CV.int (x25 (Int.toNat x27) 1))) else (L29v1 fuel x21 x22 x23 x24 x25 x26 x28 x29 m (w64 (x27 + 1)) k0 k1))) else (k0 (CV.int (x25 (Int.toNat x27) 0)) (CV.int (x25 (Int.toNat x27) 1))))) else none) else k1)

theorem nl29v1 {ρ σ : Type} (fuel : Nat) (x21 : Int) (x22 : Int) (x23 : Int) (x24 : Nat) (x25 : Nat → Nat → CV) (x26 : Int) (x28 : Nat) (x29 : Nat → Nat → CV) (g : ρ → Option σ) : ∀ (m : Nat) (x27 : Int) (k0 : Int → Int → Option ρ) (k1 : Option ρ), ob (L29v1 fuel x21 x22 x23 x24 x25 x26 x28 x29 m x27 k0 k1) g = L29v1 fuel x21 x22 x23 x24 x25 x26 x28 x29 m x27 (fun x32 x33 => ob (k0 x32 x33) g) (ob k1 g)
  | 0, _, _, _ => rfl
  | m + 1, x27, k0, k1 => by
    simp only [L29v1, ob_bif, ob_ob, ob_none, nl29v1 fuel x21 x22 x23 x24 x25 x26 x28 x29 g m]

theorem r29v1 (fuel : Nat) (m : Nat) {ρ : Type} (k : Ex → St → Option ρ) (x21 : Int) (x22 : Int) (x23 : Int) (x24 : Nat) (x25 : Nat → Nat → CV) (x26 : Int) (x28 : Nat) (x29 : Nat → Nat → CV) (x27 : Int) :
    loopH (B29v1 (C63 fuel) fuel) N29v1 (m + 1) (s29v0 x21 x22 x23 x24 x25 x26 x27 x28 x29) k =
    (bif (decide (x27 < x26)) then (bif (inb x27 x24) then (ob (F60 fuel (CV.int (x25 (Int.toNat x27) 0)) x23 (w64 (x21 - x23))) fun x30 => (bif ((!x30) == false) then (ob (F60 fuel (CV.int (x25 (Int.toNat x27) 1)) x23 (w64 (x22 - x23))) fun x31 => (bif (!x31) then (k .ret (s29v1 x24 x25 x28 x29 (CV.int (x25 (Int.toNat x27) 0)) (CV.int (x25 (Int.toNat x27) 1)))) else (loopH (B29v1 (C63 fuel) fuel) N29v1 m (s29v0 x21 x22 x23 x24 x25 x26 (w64 (x27 + 1)) x28 x29) k))) else (k .ret (s29v1 x24 x25 x28 x29 (CV.int (x25 (Int.toNat x27) 0)) (CV.int (x25 (Int.toNat x27) 1)))))) else none) else (k (.exit 0) (s29v2 x24 x25 x28 x29))) := by kernel_rfl

theorem q29v1 (fuel : Nat) (x21 : Int) (x22 : Int) (x23 : Int) (x24 : Nat) (x25 : Nat → Nat → CV) (x26 : Int) (x28 : Nat) (x29 : Nat → Nat → CV) {ρ : Type} (k : Ex → St → Option ρ) : ∀ (m : Nat) (x27 : Int),
    loopH (B29v1 (C63 fuel) fuel) N29v1 m (s29v0 x21 x22 x23 x24 x25 x26 x27 x28 x29) k = L29v1 fuel x21 x22 x23 x24 x25 x26 x28 x29 m x27 (fun x32 x33 => k .ret (s29v1 x24 x25 x28 x29 x32 x33)) (k (.exit 0) (s29v2 x24 x25 x28 x29))
  | 0, _ => rfl
  | m + 1, x27 => by
    rw [r29v1]
    simp only [L29v1, q29v1 fuel x21 x22 x23 x24 x25 x26 x28 x29 k m]

def D29 {ρ : Type} (fuel : Nat) (x1 : Nat) (x2 : Nat → Nat → CV) (x3 : Nat) (x4 : Nat → Nat → CV) (x5 : Int) (x6 : Int) (x7 : Int) (k : Bool → Option ρ) : Option ρ :=
  (bif (((Int.ofNat x1) == 0) == false) then (ob (F60 fuel x5 0 32768) fun x8 => (bif ((!x8) == false) then (ob (F60 fuel x6 0 32768) fun x9 => (bif ((!x9) == false) then (ob (F60 fuel x7 0 1000) fun x10 => (bif (!x10) then (k false) else (L29v1 fuel x5 x6 x7 x1 x2 (Int.ofNat x1) x3 x4 fuel 0
    (fun x34 x35 => (k false))
    (k true)))) else (k false))) else (k false))) else (k false))

def F29 (fuel : Nat) (x1 : Nat) (x2 : Nat → Nat → CV) (x3 : Nat) (x4 : Nat → Nat → CV) (x5 : Int) (x6 : Int) (x7 : Int) : Option (Bool) := D29 fuel x1 x2 x3 x4 x5 x6 x7 some

theorem n29 {ρ σ : Type} (fuel : Nat) (x1 : Nat) (x2 : Nat → Nat → CV) (x3 : Nat) (x4 : Nat → Nat → CV) (x5 : Int) (x6 : Int) (x7 : Int) (k : (Bool) → Option ρ) (g : ρ → Option σ) : ob (D29 fuel x1 x2 x3 x4 x5 x6 x7 k) g = D29 fuel x1 x2 x3 x4 x5 x6 x7 fun t => ob (k t) g := by
  simp only [D29, ob_bif, ob_ob, ob_none, nl29v1]

theorem f29 {ρ : Type} (fuel : Nat) (x1 : Nat) (x2 : Nat → Nat → CV) (x3 : Nat) (x4 : Nat → Nat → CV) (x5 : Int) (x6 : Int) (x7 : Int) (k : (Bool) → Option ρ) : D29 fuel x1 x2 x3 x4 x5 x6 x7 k = ob (F29 fuel x1 x2 x3 x4 x5 x6 x7) k := by
  unfold F29
  rw [n29]
  simp only [ob_some]

def s29v3 (x1 : Nat) (x2 : Nat → Nat → CV) (x3 : Nat) (x4 : Nat → Nat → CV) (x5 : Int) (x6 : Int) (x7 : Int) : St := ⟨[.agg [(.c (.ro false (.pr (.int .i64) (.pr (.int .i64) .nil)) x1 x2)), (.c (.ro false (.pr (.sl (.pr (.int .i64) (.pr (.int .i64) .nil))) .nil) x3 x4))], .x (.c (.i .i64 x5)), .x (.c (.i .i64 x6)), .x (.c (.i .i64 x7)), .x (.ptr 0 0), .undef, .undef, .undef, .u, .x (.fn 60 []), .undef, .undef, .u, .u, .u, .u, .u, .u, .u, .u, .u, .u, .u, .u, .u, .u, .u, .u, .u, .u, .u, .u, .u, .u, .x (.ptr 0 0), .x (.c (.ro false (.pr (.int .i64) (.pr (.int .i64) .nil)) x1 x2)), .x (.c (.i .i64 (Int.ofNat x1))), .x (.c (.i .i64 0)), .undef, .undef, .undef, .undef, .undef, .undef, .undef, .undef, .undef, .undef, .undef, .undef, .undef, .undef, .undef, .undef, .undef, .undef, .undef, .undef, .undef, .undef, .undef, .undef],
    [.box [(.c (.ro false (.pr (.int .i64) (.pr (.int .i64) .nil)) x1 x2)), (.c (.ro false (.pr (.sl (.pr (.int .i64) (.pr (.int .i64) .nil))) .nil) x3 x4))]]⟩

theorem walk29 (fuel : Nat) (x1 : Nat) (x2 : Nat → Nat → CV) (x3 : Nat) (x4 : Nat → Nat → CV) (x5 : Int) (x6 : Int) (x7 : Int) :
    evalF (C63 fuel) fuel A29 [.agg [(.ro false (.pr (.int .i64) (.pr (.int .i64) .nil)) x1 x2), (.ro false (.pr (.sl (.pr (.int .i64) (.pr (.int .i64) .nil))) .nil) x3 x4)], .v (.i .i64 x5), .v (.i .i64 x6), .v (.i .i64 x7)] =
    (bif (((Int.ofNat x1) == 0) == false) then (ob (F60 fuel x5 0 32768) fun x8 => (bif ((!x8) == false) then (ob (F60 fuel x6 0 32768) fun x9 => (bif ((!x9) == false) then (ob (F60 fuel x7 0 1000) fun x10 => (bif (!x10) then (some [.v (.b false)]) else (loopN (B29v1 (C63 fuel) fuel) N29v1 fuel (s29v3 x1 x2 x3 x4 x5 x6 x7) (kBlk 0 (kSeq (C63 fuel) fuel [8, 11, 34, 35, 36, 37, 38, 39, 40, 41, 42, 43, 44, 45, 46, 47, 48, 49, 50, 51, 52, 53, 54, 55, 56, 57, 58, 59, 60, 61] A29v4 (finish A29)))))) else (some [.v (.b false)]))) else (some [.v (.b false)]))) else (some [.v (.b false)])) := by kernel_rfl

theorem t29v1 (fuel : Nat) {ρ : Type} (k : Ex → St → Option ρ) (x1 : Nat) (x2 : Nat → Nat → CV) (x3 : Nat) (x4 : Nat → Nat → CV) (x5 : Int) (x6 : Int) (x7 : Int) :
    loopN (B29v1 (C63 fuel) fuel) N29v1 fuel (s29v3 x1 x2 x3 x4 x5 x6 x7) k =
    L29v1 fuel x5 x6 x7 x1 x2 (Int.ofNat x1) x3 x4 fuel 0 (fun x32 x33 => k .ret (s29v1 x1 x2 x3 x4 x32 x33)) (k (.exit 0) (s29v2 x1 x2 x3 x4)) :=
  (loopN_at (st' := (s29v0 x5 x6 x7 x1 x2 (Int.ofNat x1) 0 x3 x4)) (by kernel_rfl)).trans (q29v1 fuel x5 x6 x7 x1 x2 (Int.ofNat x1) x3 x4 k fuel 0)

theorem g29v2 (fuel : Nat) (x1 : Nat) (x2 : Nat → Nat → CV) (x3 : Nat) (x4 : Nat → Nat → CV) (x34 : Int) (x35 : Int) :
    (kBlk 0 (kSeq (C63 fuel) fuel [8, 11, 34, 35, 36, 37, 38, 39, 40, 41, 42, 43, 44, 45, 46, 47, 48, 49, 50, 51, 52, 53, 54, 55, 56, 57, 58, 59, 60, 61] A29v4 (finish A29))) .ret (s29v1 x1 x2 x3 x4 x34 x35) =
    (some [.v (.b false)]) := by kernel_rfl

theorem g29v3 (fuel : Nat) (x1 : Nat) (x2 : Nat → Nat → CV) (x3 : Nat) (x4 : Nat → Nat → CV) :
    (kBlk 0 (kSeq (C63 fuel) fuel [8, 11, 34, 35, 36, 37, 38, 39, 40, 41, 42, 43, 44, 45, 46, 47, 48, 49, 50, 51, 52, 53, 54, 55, 56, 57, 58, 59, 60, 61] A29v4 (finish A29))) (.exit 0) (s29v2 x1 x2 x3 x4) =
    (some [.v (.b true)]) := by kernel_rfl

theorem e29 (fuel : Nat) (x1 : Nat) (x2 : Nat → Nat → CV) (x3 : Nat) (x4 : Nat → Nat → CV) (x5 : Int) (x6 : Int) (x7 : Int) : evalF (C63 fuel) fuel A29 [.agg [(.ro false (.pr (.int .i64) (.pr (.int .i64) .nil)) x1 x2), (.ro false (.pr (.sl (.pr (.int .i64) (.pr (.int .i64) .nil))) .nil) x3 x4)], .v (.i .i64 x5), .v (.i .i64 x6), .v (.i .i64 x7)] = ob (F29 fuel x1 x2 x3 x4 x5 x6 x7) fun t => some [.v (.b t)] := by
  rw [walk29, ← f29]
  simp only [D29, t29v1, g29v2, g29v3]

def O29 (fuel : Nat) : Ora where
  o := fun args {ρ} K =>
    wc args fun a1 l2 =>
    wagg a1 fun l3 =>
    wc l3 fun c4 l5 =>
    wL (.pr (.int .i64) (.pr (.int .i64) .nil)) c4 fun y6 y7 =>
    wc l5 fun c9 l10 =>
    wL (.pr (.sl (.pr (.int .i64) (.pr (.int .i64) .nil))) .nil) c9 fun y11 y12 =>
    wn l10 <|
    wc l2 fun a14 l15 =>
    wv a14 fun c16 =>
    wI .i64 c16 fun y17 =>
    wc l15 fun a19 l20 =>
    wv a19 fun c21 =>
    wI .i64 c21 fun y22 =>
    wc l20 fun a24 l25 =>
    wv a24 fun c26 =>
    wI .i64 c26 fun y27 =>
    wn l25 <|
    (ob (F29 fuel y6 y7 y11 y12 y17 y22 y27) fun t => K [.v (.b t)])
  nat := fun args {ρ} K => by
    simp only [bind_wc, bind_wn, bind_wv, bind_wagg, bind_wI, bind_wB, bind_wS, bind_wL, bind_wP, bind_wFn, bind_ob, Option.bind_some]

theorem d29 {P : Program} (fuel : Nat) (hmix : P.follows .mixedOrders = true) (hC : Sound P (C63 fuel)) (hF : FFits P 29 A29) (args res : List A) (h : (O29 fuel).o args some = some res) : Den P 29 args res := by
  obtain ⟨a1, l2, rfl, z0⟩ := inv_wc h
  obtain ⟨l3, rfl, z1⟩ := inv_wagg z0
  obtain ⟨c4, l5, rfl, z2⟩ := inv_wc z1
  obtain ⟨y6, y7, h8, z3⟩ := inv_wL z2
  obtain ⟨c9, l10, rfl, z4⟩ := inv_wc z3
  obtain ⟨y11, y12, h13, z5⟩ := inv_wL z4
  obtain ⟨hn, z6⟩ := inv_wn z5
  cases hn
  obtain ⟨a14, l15, rfl, z7⟩ := inv_wc z6
  obtain ⟨c16, rfl, z8⟩ := inv_wv z7
  obtain ⟨y17, h18, z9⟩ := inv_wI z8
  obtain ⟨a19, l20, rfl, z10⟩ := inv_wc z9
  obtain ⟨c21, rfl, z11⟩ := inv_wv z10
  obtain ⟨y22, h23, z12⟩ := inv_wI z11
  obtain ⟨a24, l25, rfl, z13⟩ := inv_wc z12
  obtain ⟨c26, rfl, z14⟩ := inv_wv z13
  obtain ⟨y27, h28, z15⟩ := inv_wI z14
  obtain ⟨hn, z16⟩ := inv_wn z15
  cases hn
  exact Den.weaken (.cons (WkA.agg (.cons h8 (.cons h13 .nil))) (.cons (WkA.v (Wk.i h18)) (.cons (WkA.v (Wk.i h23)) (.cons (WkA.v (Wk.i h28)) .nil)))) (evalF_sound hmix hC hF ((e29 fuel y6 y7 y11 y12 y17 y22 y27).trans z16))

def C64 (fuel : Nat) : Oracle := (C63 fuel).add 29 (fun _ => true) (O29 fuel)

/-- shipyard/poly.extremes -/
def A72v1 : AC := (.seq (.block 1
  (.seq (.region 4 [
    ⟨(some 14), .indexAddr 75 3 1 (.tmp 10) (.tmp 12), none⟩,
    ⟨(some 15), .load 3 none (.tmp 14), none⟩,
    ⟨(some 7), .assign (.tmp 15), none⟩] 0 none) []
    (.region 5 [
    ⟨(some 16), .move (.tmp 4), none⟩,
    ⟨(some 17), .move (.tmp 7), none⟩,
    ⟨(some 18), .mm false [(.tmp 16), (.tmp 17)] [3, 3], none⟩,
    ⟨(some 19), .move (.tmp 5), none⟩,
    ⟨(some 20), .move (.tmp 7), none⟩,
    ⟨(some 21), .mm true [(.tmp 19), (.tmp 20)] [3, 3], none⟩,
    ⟨(some 4), .assign (.tmp 18), none⟩,
    ⟨(some 5), .assign (.tmp 21), none⟩] 0 none))) []
  (.region 6 [
  ⟨(some 22), .binOp .add 3 (.tmp 12) (.const (.int .i64 1)) 3, none⟩,
  ⟨(some 12), .move (.tmp 22), none⟩] 0 none))
def A72v2 : AC := (.seq (.region 3 [
  ⟨(some 13), .binOp .lss 3 (.tmp 12) (.tmp 11) 3, none⟩] 0 none) []
  (.seq (.cond (.tmp 13)
  .skip
  (.exit 0 [0, 1, 2, 3, 6, 7, 8, 9, 10, 11, 12, 13, 14, 15, 16, 17, 18, 19, 20, 21, 22, 23, 24])) []
  A72v1))
def A72v3 : AC := (.seq (.region 7 [
  ⟨(some 23), .move (.tmp 4), none⟩,
  ⟨(some 24), .move (.tmp 5), none⟩,
  ⟨(some 4), .assign (.tmp 23), none⟩,
  ⟨(some 5), .assign (.tmp 24), none⟩] 0 none) []
  (.ret [0, 1, 2, 3, 6, 7, 8, 9, 10, 11, 12, 13, 14, 15, 16, 17, 18, 19, 20, 21, 22, 23, 24]))
def A72 : AF := ⟨25, [.tmp 4, .tmp 5],
  (.seq (.region 0 [
  ⟨(some 4), .assign (.const (.int .i64 0)), none⟩,
  ⟨(some 5), .assign (.const (.int .i64 0)), none⟩] 0 none) []
  (.seq (.region 1 [
  ⟨(some 8), .move (.tmp 0), none⟩,
  ⟨(some 9), .move (.tmp 0), none⟩,
  ⟨(some 4), .assign (.tmp 8), none⟩,
  ⟨(some 5), .assign (.tmp 9), none⟩] 0 none) []
  (.seq (.seq (.region 2 [
  ⟨(some 10), .move (.tmp 1), none⟩,
  ⟨(some 11), .len 75 false (.tmp 10), none⟩,
  ⟨(some 12), .move (.const (.int .i64 0)), none⟩] 0 none) []
  (.block 0
  (.loop [] [0, 1, 2, 3, 6, 7, 8, 9, 13, 14, 15, 16, 17, 18, 19, 20, 21, 22, 23, 24]
    A72v2))) [7, 10, 11, 12, 13, 14, 15, 16, 17, 18, 19, 20, 21, 22]
  A72v3)))⟩

def B72v1 (C : Oracle) (fuel : Nat) {ρ : Type} : St → (Ex → St → Option ρ) → Option ρ := fun st k => evalC C fuel A72v2 st k
def N72v1 : St → Option St := fun s => s.norm [0, 1, 2, 3, 6, 7, 8, 9, 13, 14, 15, 16, 17, 18, 19, 20, 21, 22, 23, 24] 0

def s72v0 (x8 : Int) (x9 : Int) (x10 : Nat) (x11 : Nat → Nat → CV) (x12 : Int) (x13 : Int) : St := ⟨[.u, .u, .u, .u, .x (.c (.i .i64 x8)), .x (.c (.i .i64 x9)), .u, .u, .u, .u, .x (.c (.ro false (.pr (.int .i64) .nil) x10 x11)), .x (.c (.i .i64 x12)), .x (.c (.i .i64 x13)), .u, .u, .u, .u, .u, .u, .u, .u, .u, .u, .u, .u],
    []⟩

def s72v1 (x14 : Int) (x15 : Int) : St := ⟨[.u, .u, .u, .u, .x (.c (.i .i64 x14)), .x (.c (.i .i64 x15)), .u, .u, .u, .u, .u, .u, .u, .u, .u, .u, .u, .u, .u, .u, .u, .u, .u, .u, .u],
    []⟩

def L72v1 {ρ : Type} (fuel : Nat) (x10 : Nat) (x11 : Nat → Nat → CV) (x12 : Int) : Nat → Int → Int → Int → (Int → Int → Option ρ) → Option ρ
  | 0, _, _, _, _ => none
  | m + 1, x8, x9, x13, k0 =>
    (bif (decide (x13 < x12)) then (bif (inb x13 x10) then (L72v1 fuel x10 x11 x12 m (if (CV.int (x11 (Int.toNat x13) 0)) < x8 then (CV.int (x11 (Int.toNat x13) 0)) else x8) (if (CV.int (x11 (Int.toNat x13) 0)) > x9 then (CV.int (x11 (Int.toNat x13) 0)) else x9) (w64 (x13 + 1)) k0) else none) else (k0 x8 x9))

theorem nl72v1 {ρ σ : Type} (fuel : Nat) (x10 : Nat) (x11 : Nat → Nat → CV) (x12 : Int) (g : ρ → Option σ) : ∀ (m : Nat) (x8 : Int) (x9 : Int) (x13 : Int) (k0 : Int → Int → Option ρ), ob (L72v1 fuel x10 x11 x12 m x8 x9 x13 k0) g = L72v1 fuel x10 x11 x12 m x8 x9 x13 (fun x14 x15 => ob (k0 x14 x15) g)
  | 0, _, _, _, _ => rfl
  | m + 1, x8, x9, x13, k0 => by
    simp only [L72v1, ob_bif, ob_ob, ob_none, nl72v1 fuel x10 x11 x12 g m]

theorem r72v1 (fuel : Nat) (m : Nat) {ρ : Type} (k : Ex → St → Option ρ) (x10 : Nat) (x11 : Nat → Nat → CV) (x12 : Int) (x8 : Int) (x9 : Int) (x13 : Int) :
    loopH (B72v1 (C64 fuel) fuel) N72v1 (m + 1) (s72v0 x8 x9 x10 x11 x12 x13) k =
    (bif (decide (x13 < x12)) then (bif (inb x13 x10) then (loopH (B72v1 (C64 fuel) fuel) N72v1 m (s72v0 (if (CV.int (x11 (Int.toNat x13) 0)) < x8 then (CV.int (x11 (Int.toNat x13) 0)) else x8) (if (CV.int (x11 (Int.toNat x13) 0)) > x9 then (CV.int (x11 (Int.toNat x13) 0)) else x9) x10 x11 x12 (w64 (x13 + 1))) k) else none) else (k (.exit 0) (s72v1 x8 x9))) := by kernel_rfl

theorem q72v1 (fuel : Nat) (x10 : Nat) (x11 : Nat → Nat → CV) (x12 : Int) {ρ : Type} (k : Ex → St → Option ρ) : ∀ (m : Nat) (x8 : Int) (x9 : Int) (x13 : Int),
    loopH (B72v1 (C64 fuel) fuel) N72v1 m (s72v0 x8 x9 x10 x11 x12 x13) k = L72v1 fuel x10 x11 x12 m x8 x9 x13 (fun x14 x15 => k (.exit 0) (s72v1 x14 x15))
  | 0, _, _, _ => rfl
  | m + 1, x8, x9, x13 => by
    rw [r72v1]
    simp only [L72v1, q72v1 fuel x10 x11 x12 k m]

def D72 {ρ : Type} (fuel : Nat) (x1 : Int) (x2 : Nat) (x3 : Nat → Nat → CV) (k : (Int × Int) → Option ρ) : Option ρ :=
  (L72v1 fuel x2 x3 (Int.ofNat x2) fuel x1 x1 0
    (fun x16 x17 => (k (x16, x17))))

def F72 (fuel : Nat) (x1 : Int) (x2 : Nat) (x3 : Nat → Nat → CV) : Option (Int × Int) := D72 fuel x1 x2 x3 some

theorem n72 {ρ σ : Type} (fuel : Nat) (x1 : Int) (x2 : Nat) (x3 : Nat → Nat → CV) (k : (Int × Int) → Option ρ) (g : ρ → Option σ) : ob (D72 fuel x1 x2 x3 k) g = D72 fuel x1 x2 x3 fun t => ob (k t) g := by
  simp only [D72, ob_bif, ob_ob, ob_none, nl72v1]

theorem f72 {ρ : Type} (fuel : Nat) (x1 : Int) (x2 : Nat) (x3 : Nat → Nat → CV) (k : (Int × Int) → Option ρ) : D72 fuel x1 x2 x3 k = ob (F72 fuel x1 x2 x3) k := by
  unfold F72
  rw [n72]
  simp only [ob_some]

def s72v2 (x1 : Int) (x2 : Nat) (x3 : Nat → Nat → CV) : St := ⟨[.x (.c (.i .i64 x1)), .x (.c (.ro false (.pr (.int .i64) .nil) x2 x3)), .undef, .undef, .x (.c (.i .i64 x1)), .x (.c (.i .i64 x1)), .undef, .undef, .x (.c (.i .i64 x1)), .x (.c (.i .i64 x1)), .x (.c (.ro false (.pr (.int .i64) .nil) x2 x3)), .x (.c (.i .i64 (Int.ofNat x2))), .x (.c (.i .i64 0)), .undef, .undef, .undef, .undef, .undef, .undef, .undef, .undef, .undef, .undef, .undef, .undef],
    []⟩

theorem walk72 (fuel : Nat) (x1 : Int) (x2 : Nat) (x3 : Nat → Nat → CV) :
    evalF (C64 fuel) fuel A72 [.v (.i .i64 x1), .v (.ro false (.pr (.int .i64) .nil) x2 x3)] =
    (loopN (B72v1 (C64 fuel) fuel) N72v1 fuel (s72v2 x1 x2 x3) (kBlk 0 (kSeq (C64 fuel) fuel [7, 10, 11, 12, 13, 14, 15, 16, 17, 18, 19, 20, 21, 22] A72v3 (finish A72)))) := by kernel_rfl

theorem t72v1 (fuel : Nat) {ρ : Type} (k : Ex → St → Option ρ) (x1 : Int) (x2 : Nat) (x3 : Nat → Nat → CV) :
    loopN (B72v1 (C64 fuel) fuel) N72v1 fuel (s72v2 x1 x2 x3) k =
    L72v1 fuel x2 x3 (Int.ofNat x2) fuel x1 x1 0 (fun x14 x15 => k (.exit 0) (s72v1 x14 x15)) :=
  (loopN_at (st' := (s72v0 x1 x1 x2 x3 (Int.ofNat x2) 0)) (by kernel_rfl)).trans (q72v1 fuel x2 x3 (Int.ofNat x2) k fuel x1 x1 0)

theorem g72v2 (fuel : Nat) (x16 : Int) (x17 : Int) :
    (kBlk 0 (kSeq (C64 fuel) fuel [7, 10, 11, 12, 13, 14, 15, 16, 17, 18, 19, 20, 21, 22] A72v3 (finish A72))) (.exit 0) (s72v1 x16 x17) =
    (some [.v (.i .i64 x16), .v (.i .i64 x17)]) := by kernel_rfl

theorem e72 (fuel : Nat) (x1 : Int) (x2 : Nat) (x3 : Nat → Nat → CV) : evalF (C64 fuel) fuel A72 [.v (.i .i64 x1), .v (.ro false (.pr (.int .i64) .nil) x2 x3)] = ob (F72 fuel x1 x2 x3) fun t => some [.v (.i .i64 t.1), .v (.i .i64 t.2)] := by
  rw [walk72, ← f72]
  simp only [D72, t72v1, g72v2]

def O72 (fuel : Nat) : Ora where
  o := fun args {ρ} K =>
    wc args fun a1 l2 =>
    wv a1 fun c3 =>
    wI .i64 c3 fun y4 =>
    wc l2 fun a6 l7 =>
    wv a6 fun c8 =>
    wL (.pr (.int .i64) .nil) c8 fun y9 y10 =>
    wn l7 <|
    (ob (F72 fuel y4 y9 y10) fun t => K [.v (.i .i64 t.1), .v (.i .i64 t.2)])
  nat := fun args {ρ} K => by
    simp only [bind_wc, bind_wn, bind_wv, bind_wagg, bind_wI, bind_wB, bind_wS, bind_wL, bind_wP, bind_wFn, bind_ob, Option.bind_some]

theorem d72 {P : Program} (fuel : Nat) (hmix : P.follows .mixedOrders = true) (hC : Sound P (C64 fuel)) (hF : FFits P 72 A72) (args res : List A) (h : (O72 fuel).o args some = some res) : Den P 72 args res := by
  obtain ⟨a1, l2, rfl, z0⟩ := inv_wc h
  obtain ⟨c3, rfl, z1⟩ := inv_wv z0
  obtain ⟨y4, h5, z2⟩ := inv_wI z1
  obtain ⟨a6, l7, rfl, z3⟩ := inv_wc z2
  obtain ⟨c8, rfl, z4⟩ := inv_wv z3
  obtain ⟨y9, y10, h11, z5⟩ := inv_wL z4
  obtain ⟨hn, z6⟩ := inv_wn z5
  cases hn
  exact Den.weaken (.cons (WkA.v (Wk.i h5)) (.cons (WkA.v h11) .nil)) (evalF_sound hmix hC hF ((e72 fuel y4 y9 y10).trans z6))

def C65 (fuel : Nat) : Oracle := (C64 fuel).add 72 (fun _ => true) (O72 fuel)

/-- shipyard/poly.Bounds -/
def A46v1 : AC := (.seq (.block 1
  (.seq (.region 6 [
    ⟨(some 15), .indexAddr 22 34 2 (.tmp 11) (.tmp 13), none⟩,
    ⟨(some 16), .load 34 (some 2) (.tmp 15), none⟩,
    ⟨(some 6), .alloc 0 34 [.c (.i .i64 0), .c (.i .i64 0)], none⟩,
    ⟨none, .store 34 2 (.tmp 6) (.tmp 16), none⟩] 1 none) []
    (.region 7 [
    ⟨(some 17), .move (.tmp 3), none⟩,
    ⟨(some 18), .fieldAddr 34 (.tmp 6) 0 0, none⟩,
    ⟨(some 19), .load 3 none (.tmp 18), none⟩,
    ⟨(some 20), .buildSlice 0 75 3 (.pr (.int .i64) .nil) 1 [.c (.i .i64 0)] [(0, (.tmp 19))], none⟩,
    ⟨(some 21), .append 1 75 3 (.pr (.int .i64) .nil) 8 (.tmp 17) (.tmp 20), none⟩,
    ⟨(some 22), .move (.tmp 4), none⟩,
    ⟨(some 23), .fieldAddr 34 (.tmp 6) 1 1, none⟩,
    ⟨(some 24), .load 3 none (.tmp 23), none⟩,
    ⟨(some 25), .buildSlice 2 75 3 (.pr (.int .i64) .nil) 1 [.c (.i .i64 0)] [(0, (.tmp 24))], none⟩,
    ⟨(some 26), .append 3 75 3 (.pr (.int .i64) .nil) 8 (.tmp 22) (.tmp 25), none⟩,
    ⟨(some 3), .assign (.tmp 21), none⟩,
    ⟨(some 4), .assign (.tmp 26), none⟩] 4 (some [[], [], [1], [1, 2], [0, 1, 2, 3], [], [], [6], [6, 7], [0, 1, 2, 3, 4, 5, 6, 7, 8], [0, 1, 2, 3, 4, 5, 6, 7, 8, 9], [0, 1, 2, 3, 4, 5, 6, 7, 8, 9, 10]])))) []
  (.region 8 [
  ⟨(some 27), .binOp .add 3 (.tmp 13) (.const (.int .i64 1)) 3, none⟩,
  ⟨(some 13), .move (.tmp 27), none⟩] 0 none))
def A46v2 : AC := (.seq (.region 5 [
  ⟨(some 14), .binOp .lss 3 (.tmp 13) (.tmp 12) 3, none⟩] 0 none) []
  (.seq (.cond (.tmp 14)
  .skip
  (.exit 0 [0, 1, 5, 6, 7, 8, 9, 10, 11, 12, 13, 14, 15, 16, 17, 18, 19, 20, 21, 22, 23, 24, 25, 26, 27, 28, 29, 30, 31, 32, 33, 34, 35, 36, 37, 38, 39, 40, 41, 42, 43, 44, 45, 46, 47, 48, 49, 50, 51, 52])) []
  A46v1))
def A46v3 : AC := (.seq (.region 9 [
  ⟨(some 29), .move (.tmp 3), none⟩,
  ⟨(some 30), .indexAddr 75 3 1 (.tmp 29) (.const (.int .i64 0)), none⟩,
  ⟨(some 31), .load 3 none (.tmp 30), none⟩,
  ⟨(some 32), .move (.tmp 3), none⟩,
  ⟨(some 33), .call 72 [(.tmp 31), (.tmp 32)] [3, 75] .snap, none⟩,
  ⟨(some 28), .move (.tmp 33), none⟩,
  ⟨(some 34), .extract (.tmp 28) 0, none⟩,
  ⟨(some 35), .extract (.tmp 28) 1, none⟩,
  ⟨(some 36), .fieldAddr 36 (.tmp 2) 0 0, none⟩,
  ⟨(some 37), .fieldAddr 34 (.tmp 36) 0 0, none⟩,
  ⟨none, .store 3 1 (.tmp 37) (.tmp 34), none⟩,
  ⟨(some 38), .fieldAddr 36 (.tmp 2) 1 2, none⟩,
  ⟨(some 39), .fieldAddr 34 (.tmp 38) 0 0, none⟩,
  ⟨none, .store 3 1 (.tmp 39) (.tmp 35), none⟩] 0 none) []
  (.seq (.region 10 [
  ⟨(some 41), .move (.tmp 4), none⟩,
  ⟨(some 42), .indexAddr 75 3 1 (.tmp 41) (.const (.int .i64 0)), none⟩,
  ⟨(some 43), .load 3 none (.tmp 42), none⟩,
  ⟨(some 44), .move (.tmp 4), none⟩,
  ⟨(some 45), .call 72 [(.tmp 43), (.tmp 44)] [3, 75] .snap, none⟩,
  ⟨(some 40), .move (.tmp 45), none⟩,
  ⟨(some 46), .extract (.tmp 40) 0, none⟩,
  ⟨(some 47), .extract (.tmp 40) 1, none⟩,
  ⟨(some 48), .fieldAddr 36 (.tmp 2) 0 0, none⟩,
  ⟨(some 49), .fieldAddr 34 (.tmp 48) 1 1, none⟩,
  ⟨none, .store 3 1 (.tmp 49) (.tmp 46), none⟩,
  ⟨(some 50), .fieldAddr 36 (.tmp 2) 1 2, none⟩,
  ⟨(some 51), .fieldAddr 34 (.tmp 50) 1 1, none⟩,
  ⟨none, .store 3 1 (.tmp 51) (.tmp 47), none⟩] 0 none) []
  (.seq (.region 11 [
  ⟨(some 52), .load 36 (some 4) (.tmp 2), none⟩,
  ⟨none, .store 36 4 (.tmp 2) (.tmp 52), none⟩] 0 none) []
  (.ret [0, 1, 3, 4, 5, 6, 7, 8, 9, 10, 11, 12, 13, 14, 15, 16, 17, 18, 19, 20, 21, 22, 23, 24, 25, 26, 27, 28, 29, 30, 31, 32, 33, 34, 35, 36, 37, 38, 39, 40, 41, 42, 43, 44, 45, 46, 47, 48, 49, 50, 51, 52]))))
def A46v4 : AC := (.seq (.region 3 [
  ⟨(some 3), .assign (.const (.slice none 0 0)), none⟩,
  ⟨(some 4), .assign (.const (.slice none 0 0)), none⟩] 0 none) []
  (.seq (.seq (.region 4 [
  ⟨(some 11), .move (.tmp 0), none⟩,
  ⟨(some 12), .len 22 false (.tmp 11), none⟩,
  ⟨(some 13), .move (.const (.int .i64 0)), none⟩] 0 none) []
  (.block 0
  (.loop [.slot 3 (.pr (.int .i64) .nil), .slot 4 (.pr (.int .i64) .nil)] [0, 1, 5, 6, 7, 8, 9, 10, 14, 15, 16, 17, 18, 19, 20, 21, 22, 23, 24, 25, 26, 27, 28, 29, 30, 31, 32, 33, 34, 35, 36, 37, 38, 39, 40, 41, 42, 43, 44, 45, 46, 47, 48, 49, 50, 51, 52]
    A46v2))) [6, 11, 12, 13, 14, 15, 16, 17, 18, 19, 20, 21, 22, 23, 24, 25, 26, 27]
  A46v3))
def A46 : AF := ⟨53, [.cell 2 36 (some 4)],
  (.seq (.region 0 [
  ⟨(some 2), .alloc 0 36 [.c (.i .i64 0), .c (.i .i64 0), .c (.i .i64 0), .c (.i .i64 0)], none⟩] 1 none) []
  (.seq (.seq (.region 1 [
  ⟨(some 7), .move (.tmp 0), none⟩,
  ⟨(some 8), .len 22 false (.tmp 7), none⟩,
  ⟨(some 9), .binOp .eql 3 (.tmp 8) (.const (.int .i64 0)) 3, none⟩] 0 none) []
  (.cond (.tmp 9)
  (.seq (.region 2 [
    ⟨(some 10), .load 36 (some 4) (.tmp 2), none⟩,
    ⟨none, .store 36 4 (.tmp 2) (.tmp 10), none⟩] 0 none) []
    (.ret [0, 1, 3, 4, 5, 6, 7, 8, 9, 10, 11, 12, 13, 14, 15, 16, 17, 18, 19, 20, 21, 22, 23, 24, 25, 26, 27, 28, 29, 30, 31, 32, 33, 34, 35, 36, 37, 38, 39, 40, 41, 42, 43, 44, 45, 46, 47, 48, 49, 50, 51, 52]))
  .skip)) [7, 8, 9, 10]
  A46v4))⟩

def B46v1 (C : Oracle) (fuel : Nat) {ρ : Type} : St → (Ex → St → Option ρ) → Option ρ := fun st k => evalC C fuel A46v2 st k
def N46v1 : St → Option St := fun s => s.norm [0, 1, 5, 6, 7, 8, 9, 10, 14, 15, 16, 17, 18, 19, 20, 21, 22, 23, 24, 25, 26, 27, 28, 29, 30, 31, 32, 33, 34, 35, 36, 37, 38, 39, 40, 41, 42, 43, 44, 45, 46, 47, 48, 49, 50, 51, 52] 3

def s46v0 (x6 : Nat) (x7 : Nat) (x8 : Nat → Nat → CV) (x9 : Int) (x10 : Int) (x11 : Nat → Nat → CV) (x12 : Nat → Nat → CV) : St := ⟨[.u, .u, .x (.ptr 0 0), .x (.own 1 0 x6), .x (.own 2 0 x6), .u, .u, .u, .u, .u, .u, .x (.c (.ro false (.pr (.int .i64) (.pr (.int .i64) .nil)) x7 x8)), .x (.c (.i .i64 x9)), .x (.c (.i .i64 x10)), .u, .u, .u, .u, .u, .u, .u, .u, .u, .u, .u, .u, .u, .u, .u, .u, .u, .u, .u, .u, .u, .u, .u, .u, .u, .u, .u, .u, .u, .u, .u, .u, .u, .u, .u, .u, .u, .u, .u],
    [.box [(.c (.i .i64 0)), (.c (.i .i64 0)), (.c (.i .i64 0)), (.c (.i .i64 0))], .arr (.pr (.int .i64) .nil) x6 x11, .arr (.pr (.int .i64) .nil) x6 x12]⟩

def s46v1 (x13 : Nat) (x14 : Nat → Nat → CV) (x15 : Nat → Nat → CV) : St := ⟨[.u, .u, .x (.ptr 0 0), .x (.own 1 0 x13), .x (.own 2 0 x13), .u, .u, .u, .u, .u, .u, .u, .u, .u, .u, .u, .u, .u, .u, .u, .u, .u, .u, .u, .u, .u, .u, .u, .u, .u, .u, .u, .u, .u, .u, .u, .u, .u, .u, .u, .u, .u, .u, .u, .u, .u, .u, .u, .u, .u, .u, .u, .u],
    [.box [(.c (.i .i64 0)), (.c (.i .i64 0)), (.c (.i .i64 0)), (.c (.i .i64 0))], .arr (.pr (.int .i64) .nil) x13 x14, .arr (.pr (.int .i64) .nil) x13 x15]⟩

def L46v1 {ρ : Type} (fuel : Nat) (x7 : Nat) (x8 : Nat → Nat → CV) (x9 : Int) : Nat → Nat → Int → (Nat → Nat → CV) → (Nat → Nat → CV) → (Nat → (Nat → Nat → CV) → (Nat → Nat → CV) → Option ρ) → Option ρ
  | 0, _, _, _, _, _ => none
  | m + 1, x6, x10, x11, x12, k0 =>
    (bif (decide (x10 < x9)) then (bif (inb x10 x7) then (bif (Nat.ble (x6 + 1) 1073741824) then (bif (Nat.ble (x6 + 1) 1073741824) then (L46v1 fuel x7 x8 x9 m (x6 + 1) (w64 (x10 + 1)) (joinF x6 x11 (rowsF 1 [(.i .i64 (CV.int (x8 (Int.toNat x10) 0)))])) (joinF x6 x12 (rowsF 1 [(.i .i64 (CV.int (x8 (Int.toNat x10) 1)))])) k0) else none) else none) else none) else (k0 x6 x11 x12))

theorem nl46v1 {ρ σ : Type} (fuel : Nat) (x7 : Nat) (x8 : Nat → Nat → CV) (x9 : Int) (g : ρ → Option σ) : ∀ (m : Nat) (x6 : Nat) (x10 : Int) (x11 : Nat → Nat → CV) (x12 : Nat → Nat → CV) (k0 : Nat → (Nat → Nat → CV) → (Nat → Nat → CV) → Option ρ), ob (L46v1 fuel x7 x8 x9 m x6 x10 x11 x12 k0) g = L46v1 fuel x7 x8 x9 m x6 x10 x11 x12 (fun x13 x14 x15 => ob (k0 x13 x14 x15) g)
  | 0, _, _, _, _, _ => rfl
  | m + 1, x6, x10, x11, x12, k0 => by
    simp only [L46v1, ob_bif, ob_ob, ob_none, nl46v1 fuel x7 x8 x9 g m]

theorem r46v1 (fuel : Nat) (m : Nat) {ρ : Type} (k : Ex → St → Option ρ) (x7 : Nat) (x8 : Nat → Nat → CV) (x9 : Int) (x6 : Nat) (x10 : Int) (x11 : Nat → Nat → CV) (x12 : Nat → Nat → CV) :
    loopH (B46v1 (C65 fuel) fuel) N46v1 (m + 1) (s46v0 x6 x7 x8 x9 x10 x11 x12) k =
    (bif (decide (x10 < x9)) then (bif (inb x10 x7) then (bif (Nat.ble (x6 + 1) 1073741824) then (bif (Nat.ble (x6 + 1) 1073741824) then (loopH (B46v1 (C65 fuel) fuel) N46v1 m (s46v0 (x6 + 1) x7 x8 x9 (w64 (x10 + 1)) (joinF x6 x11 (rowsF 1 [(.i .i64 (CV.int (x8 (Int.toNat x10) 0)))])) (joinF x6 x12 (rowsF 1 [(.i .i64 (CV.int (x8 (Int.toNat x10) 1)))]))) k) else none) else none) else none) else (k (.exit 0) (s46v1 x6 x11 x12))) := by kernel_rfl

theorem q46v1 (fuel : Nat) (x7 : Nat) (x8 : Nat → Nat → CV) (x9 : Int) {ρ : Type} (k : Ex → St → Option ρ) : ∀ (m : Nat) (x6 : Nat) (x10 : Int) (x11 : Nat → Nat → CV) (x12 : Nat → Nat → CV),
    loopH (B46v1 (C65 fuel) fuel) N46v1 m (s46v0 x6 x7 x8 x9 x10 x11 x12) k = L46v1 fuel x7 x8 x9 m x6 x10 x11 x12 (fun x13 x14 x15 => k (.exit 0) (s46v1 x13 x14 x15))
  | 0, _, _, _, _ => rfl
  | m + 1, x6, x10, x11, x12 => by
    rw [r46v1]
    simp only [L46v1, q46v1 fuel x7 x8 x9 k m]

def D46 {ρ : Type} (fuel : Nat) (x1 : Nat) (x2 : Nat → Nat → CV) (k : (Int × Int × Int × Int) → Option ρ) : Option ρ :=
  (bif ((Int.ofNat x1) == 0) then (k (0, 0, 0, 0)) else (L46v1 fuel x1 x2 (Int.ofNat x1) fuel 0 0 (fun _ _ => .any) (fun _ _ => .any)
    (fun x16 x17 x18 => (bif (inb 0 x16) then (ob (F72 fuel (CV.int (x17 0 0)) x16 x17) fun x19 => (bif (inb 0 x16) then (ob (F72 fuel (CV.int (x18 0 0)) x16 x18) fun x20 => (k (x19.1, x20.1, x19.2, x20.2))) else none)) else none))))

def F46 (fuel : Nat) (x1 : Nat) (x2 : Nat → Nat → CV) : Option (Int × Int × Int × Int) := D46 fuel x1 x2 some

theorem n46 {ρ σ : Type} (fuel : Nat) (x1 : Nat) (x2 : Nat → Nat → CV) (k : (Int × Int × Int × Int) → Option ρ) (g : ρ → Option σ) : ob (D46 fuel x1 x2 k) g = D46 fuel x1 x2 fun t => ob (k t) g := by
  simp only [D46, ob_bif, ob_ob, ob_none, nl46v1]

theorem f46 {ρ : Type} (fuel : Nat) (x1 : Nat) (x2 : Nat → Nat → CV) (k : (Int × Int × Int × Int) → Option ρ) : D46 fuel x1 x2 k = ob (F46 fuel x1 x2) k := by
  unfold F46
  rw [n46]
  simp only [ob_some]

def s46v2 (x1 : Nat) (x2 : Nat → Nat → CV) : St := ⟨[.x (.c (.ro false (.pr (.int .i64) (.pr (.int .i64) .nil)) x1 x2)), .undef, .x (.ptr 0 0), .x (.own 1 0 0), .x (.own 2 0 0), .undef, .undef, .u, .u, .u, .u, .x (.c (.ro false (.pr (.int .i64) (.pr (.int .i64) .nil)) x1 x2)), .x (.c (.i .i64 (Int.ofNat x1))), .x (.c (.i .i64 0)), .undef, .undef, .undef, .undef, .undef, .undef, .undef, .undef, .undef, .undef, .undef, .undef, .undef, .undef, .undef, .undef, .undef, .undef, .undef, .undef, .undef, .undef, .undef, .undef, .undef, .undef, .undef, .undef, .undef, .undef, .undef, .undef, .undef, .undef, .undef, .undef, .undef, .undef, .undef],
    [.box [(.c (.i .i64 0)), (.c (.i .i64 0)), (.c (.i .i64 0)), (.c (.i .i64 0))], .arr (.pr (.int .i64) .nil) 0 (fun _ _ => .any), .arr (.pr (.int .i64) .nil) 0 (fun _ _ => .any)]⟩

theorem walk46 (fuel : Nat) (x1 : Nat) (x2 : Nat → Nat → CV) :
    evalF (C65 fuel) fuel A46 [.v (.ro false (.pr (.int .i64) (.pr (.int .i64) .nil)) x1 x2)] =
    (bif ((Int.ofNat x1) == 0) then (some [.agg [(.i .i64 0), (.i .i64 0), (.i .i64 0), (.i .i64 0)]]) else (loopN (B46v1 (C65 fuel) fuel) N46v1 fuel (s46v2 x1 x2) (kBlk 0 (kSeq (C65 fuel) fuel [6, 11, 12, 13, 14, 15, 16, 17, 18, 19, 20, 21, 22, 23, 24, 25, 26, 27] A46v3 (finish A46))))) := by kernel_rfl

theorem t46v1 (fuel : Nat) {ρ : Type} (k : Ex → St → Option ρ) (x1 : Nat) (x2 : Nat → Nat → CV) :
    loopN (B46v1 (C65 fuel) fuel) N46v1 fuel (s46v2 x1 x2) k =
    L46v1 fuel x1 x2 (Int.ofNat x1) fuel 0 0 (fun _ _ => .any) (fun _ _ => .any) (fun x13 x14 x15 => k (.exit 0) (s46v1 x13 x14 x15)) :=
  (loopN_at (st' := (s46v0 0 x1 x2 (Int.ofNat x1) 0 (fun _ _ => .any) (fun _ _ => .any))) (by kernel_rfl)).trans (q46v1 fuel x1 x2 (Int.ofNat x1) k fuel 0 0 (fun _ _ => .any) (fun _ _ => .any))

theorem g46v2 (fuel : Nat) (x16 : Nat) (x17 : Nat → Nat → CV) (x18 : Nat → Nat → CV) :
    (kBlk 0 (kSeq (C65 fuel) fuel [6, 11, 12, 13, 14, 15, 16, 17, 18, 19, 20, 21, 22, 23, 24, 25, 26, 27] A46v3 (finish A46))) (.exit 0) (s46v1 x16 x17 x18) =
    (bif (inb 0 x16) then (ob (F72 fuel (CV.int (x17 0 0)) x16 x17) fun x19 => (bif (inb 0 x16) then (ob (F72 fuel (CV.int (x18 0 0)) x16 x18) fun x20 => (some [.agg [(.i .i64 x19.1), (.i .i64 x20.1), (.i .i64 x19.2), (.i .i64 x20.2)]])) else none)) else none) := by kernel_rfl

theorem e46 (fuel : Nat) (x1 : Nat) (x2 : Nat → Nat → CV) : evalF (C65 fuel) fuel A46 [.v (.ro false (.pr (.int .i64) (.pr (.int .i64) .nil)) x1 x2)] = ob (F46 fuel x1 x2) fun t => some [.agg [(.i .i64 t.1), (.i .i64 t.2.1), (.i .i64 t.2.2.1), (.i .i64 t.2.2.2)]] := by
  rw [walk46, ← f46]
  simp only [D46, t46v1, g46v2]

def O46 (fuel : Nat) : Ora where
  o := fun args {ρ} K =>
    wc args fun a1 l2 =>
    wv a1 fun c3 =>
    wL (.pr (.int .i64) (.pr (.int .i64) .nil)) c3 fun y4 y5 =>
    wn l2 <|
    (ob (F46 fuel y4 y5) fun t => K [.agg [(.i .i64 t.1), (.i .i64 t.2.1), (.i .i64 t.2.2.1), (.i .i64 t.2.2.2)]])
  nat := fun args {ρ} K => by
    simp only [bind_wc, bind_wn, bind_wv, bind_wagg, bind_wI, bind_wB, bind_wS, bind_wL, bind_wP, bind_wFn, bind_ob, Option.bind_some]

theorem d46 {P : Program} (fuel : Nat) (hmix : P.follows .mixedOrders = true) (hC : Sound P (C65 fuel)) (hF : FFits P 46 A46) (args res : List A) (h : (O46 fuel).o args some = some res) : Den P 46 args res := by
  obtain ⟨a1, l2, rfl, z0⟩ := inv_wc h
  obtain ⟨c3, rfl, z1⟩ := inv_wv z0
  obtain ⟨y4, y5, h6, z2⟩ := inv_wL z1
  obtain ⟨hn, z3⟩ := inv_wn z2
  cases hn
  exact Den.weaken (.cons (WkA.v h6) .nil) (evalF_sound hmix hC hF ((e46 fuel y4 y5).trans z3))

def C66 (fuel : Nat) : Oracle := (C65 fuel).add 46 (fun _ => true) (O46 fuel)

/-- shipyard/region.Bounds -/
def A20 : AF := ⟨6, [.cell 2 36 (some 4)],
  (.seq (.region 0 [
  ⟨(some 1), .box 0 25 (.tmp 0), none⟩,
  ⟨(some 2), .alloc 1 36 [.c (.i .i64 0), .c (.i .i64 0), .c (.i .i64 0), .c (.i .i64 0)], none⟩] 2 none) []
  (.seq (.region 1 [
  ⟨(some 3), .fieldAddr 25 (.tmp 1) 0 0, none⟩,
  ⟨(some 4), .load 22 none (.tmp 3), none⟩,
  ⟨(some 5), .call 46 [(.tmp 4)] [22] .snap, none⟩,
  ⟨none, .store 36 4 (.tmp 2) (.tmp 5), none⟩] 0 none) []
  (.ret [0, 1, 3, 4, 5])))⟩

def D20 {ρ : Type} (fuel : Nat) (x1 : Nat) (x2 : Nat → Nat → CV) (x3 : Nat) (x4 : Nat → Nat → CV) (k : (Int × Int × Int × Int) → Option ρ) : Option ρ :=
  (ob (F46 fuel x1 x2) fun x5 => (k (x5.1, x5.2.1, x5.2.2.1, x5.2.2.2)))

def F20 (fuel : Nat) (x1 : Nat) (x2 : Nat → Nat → CV) (x3 : Nat) (x4 : Nat → Nat → CV) : Option (Int × Int × Int × Int) := D20 fuel x1 x2 x3 x4 some

theorem n20 {ρ σ : Type} (fuel : Nat) (x1 : Nat) (x2 : Nat → Nat → CV) (x3 : Nat) (x4 : Nat → Nat → CV) (k : (Int × Int × Int × Int) → Option ρ) (g : ρ → Option σ) : ob (D20 fuel x1 x2 x3 x4 k) g = D20 fuel x1 x2 x3 x4 fun t => ob (k t) g := by
  simp only [D20, ob_bif, ob_ob, ob_none]

theorem f20 {ρ : Type} (fuel : Nat) (x1 : Nat) (x2 : Nat → Nat → CV) (x3 : Nat) (x4 : Nat → Nat → CV) (k : (Int × Int × Int × Int) → Option ρ) : D20 fuel x1 x2 x3 x4 k = ob (F20 fuel x1 x2 x3 x4) k := by
  unfold F20
  rw [n20]
  simp only [ob_some]

theorem walk20 (fuel : Nat) (x1 : Nat) (x2 : Nat → Nat → CV) (x3 : Nat) (x4 : Nat → Nat → CV) :
    evalF (C66 fuel) fuel A20 [.agg [(.ro false (.pr (.int .i64) (.pr (.int .i64) .nil)) x1 x2), (.ro false (.pr (.sl (.pr (.int .i64) (.pr (.int .i64) .nil))) .nil) x3 x4)]] =
    (ob (F46 fuel x1 x2) fun x5 => (some [.agg [(.i .i64 x5.1), (.i .i64 x5.2.1), (.i .i64 x5.2.2.1), (.i .i64 x5.2.2.2)]])) := by kernel_rfl

theorem e20 (fuel : Nat) (x1 : Nat) (x2 : Nat → Nat → CV) (x3 : Nat) (x4 : Nat → Nat → CV) : evalF (C66 fuel) fuel A20 [.agg [(.ro false (.pr (.int .i64) (.pr (.int .i64) .nil)) x1 x2), (.ro false (.pr (.sl (.pr (.int .i64) (.pr (.int .i64) .nil))) .nil) x3 x4)]] = ob (F20 fuel x1 x2 x3 x4) fun t => some [.agg [(.i .i64 t.1), (.i .i64 t.2.1), (.i .i64 t.2.2.1), (.i .i64 t.2.2.2)]] := by
  rw [walk20, ← f20]
  simp only [D20]

def O20 (fuel : Nat) : Ora where
  o := fun args {ρ} K =>
    wc args fun a1 l2 =>
    wagg a1 fun l3 =>
    wc l3 fun c4 l5 =>
    wL (.pr (.int .i64) (.pr (.int .i64) .nil)) c4 fun y6 y7 =>
    wc l5 fun c9 l10 =>
    wL (.pr (.sl (.pr (.int .i64) (.pr (.int .i64) .nil))) .nil) c9 fun y11 y12 =>
    wn l10 <|
    wn l2 <|
    (ob (F20 fuel y6 y7 y11 y12) fun t => K [.agg [(.i .i64 t.1), (.i .i64 t.2.1), (.i .i64 t.2.2.1), (.i .i64 t.2.2.2)]])
  nat := fun args {ρ} K => by
    simp only [bind_wc, bind_wn, bind_wv, bind_wagg, bind_wI, bind_wB, bind_wS, bind_wL, bind_wP, bind_wFn, bind_ob, Option.bind_some]

theorem d20 {P : Program} (fuel : Nat) (hmix : P.follows .mixedOrders = true) (hC : Sound P (C66 fuel)) (hF : FFits P 20 A20) (args res : List A) (h : (O20 fuel).o args some = some res) : Den P 20 args res := by
  obtain ⟨a1, l2, rfl, z0⟩ := inv_wc h
  obtain ⟨l3, rfl, z1⟩ := inv_wagg z0
  obtain ⟨c4, l5, rfl, z2⟩ := inv_wc z1
  obtain ⟨y6, y7, h8, z3⟩ := inv_wL z2
  obtain ⟨c9, l10, rfl, z4⟩ := inv_wc z3
  obtain ⟨y11, y12, h13, z5⟩ := inv_wL z4
  obtain ⟨hn, z6⟩ := inv_wn z5
  cases hn
  obtain ⟨hn, z7⟩ := inv_wn z6
  cases hn
  exact Den.weaken (.cons (WkA.agg (.cons h8 (.cons h13 .nil))) .nil) (evalF_sound hmix hC hF ((e20 fuel y6 y7 y11 y12).trans z7))

def C67 (fuel : Nat) : Oracle := (C66 fuel).add 20 (fun _ => true) (O20 fuel)

/-- shipyard/shipyardlaw13.alive -/
def A15v1 : AC := (.seq (.region 7 [
  ⟨(some 54), .load 25 (some 2) (.tmp 1), none⟩,
  ⟨(some 55), .build 34 [.c (.i .i64 0), .c (.i .i64 0)] [(0, 1), (1, 1)] 0 [(0, (.const (.int .i64 3))), (1, (.const (.int .i64 3)))], none⟩,
  ⟨(some 56), .call 22 [(.tmp 54), (.tmp 55)] [25, 34] .snap, none⟩,
  ⟨(some 57), .binOp .eql 3 (.tmp 56) (.const (.int .i64 (-1))) 3, none⟩,
  ⟨(some 58), .move (.tmp 57), none⟩,
  ⟨(some 59), .load 25 (some 2) (.tmp 1), (some (58, true))⟩,
  ⟨(some 60), .build 34 [.c (.i .i64 0), .c (.i .i64 0)] [(0, 1), (1, 1)] 0 [(0, (.const (.int .i64 2))), (1, (.const (.int .i64 3)))], (some (58, true))⟩,
  ⟨(some 61), .call 22 [(.tmp 59), (.tmp 60)] [25, 34] .snap, (some (58, true))⟩,
  ⟨(some 62), .binOp .eql 3 (.tmp 61) (.const (.int .i64 0)) 3, (some (58, true))⟩,
  ⟨(some 63), .pick (.tmp 58) (.tmp 62) (.const (.bool false)), none⟩,
  ⟨(some 64), .move (.tmp 63), none⟩,
  ⟨(some 65), .load 25 (some 2) (.tmp 1), (some (64, true))⟩,
  ⟨(some 66), .build 34 [.c (.i .i64 0), .c (.i .i64 0)] [(0, 1), (1, 1)] 0 [(0, (.const (.int .i64 1))), (1, (.const (.int .i64 1)))], (some (64, true))⟩,
  ⟨(some 67), .call 22 [(.tmp 65), (.tmp 66)] [25, 34] .snap, (some (64, true))⟩,
  ⟨(some 68), .binOp .eql 3 (.tmp 67) (.const (.int .i64 1)) 3, (some (64, true))⟩,
  ⟨(some 69), .pick (.tmp 64) (.tmp 68) (.const (.bool false)), none⟩,
  ⟨(some 70), .move (.tmp 69), none⟩,
  ⟨(some 71), .load 25 (some 2) (.tmp 2), (some (70, true))⟩,
  ⟨(some 72), .load 25 (some 2) (.tmp 3), (some (70, true))⟩,
  ⟨(some 73), .call 27 [(.tmp 71), (.tmp 72), (.const (.int .i64 5))] [25, 25, 3] .snap, (some (70, true))⟩,
  ⟨(some 74), .pick (.tmp 70) (.tmp 73) (.const (.bool false)), none⟩,
  ⟨(some 75), .move (.tmp 74), none⟩,
  ⟨(some 76), .load 25 (some 2) (.tmp 2), (some (75, true))⟩,
  ⟨(some 77), .load 25 (some 2) (.tmp 3), (some (75, true))⟩,
  ⟨(some 78), .call 27 [(.tmp 76), (.tmp 77), (.const (.int .i64 6))] [25, 25, 3] .snap, (some (75, true))⟩,
  ⟨(some 79), .unOp .not 4 (.tmp 78), (some (75, true))⟩,
  ⟨(some 80), .pick (.tmp 75) (.tmp 79) (.const (.bool false)), none⟩,
  ⟨(some 81), .move (.tmp 80), none⟩,
  ⟨(some 82), .load 25 (some 2) (.tmp 2), (some (81, true))⟩,
  ⟨(some 83), .call 29 [(.tmp 82), (.const (.int .i64 12)), (.const (.int .i64 13)), (.const (.int .i64 0))] [25, 3, 3, 3] .snap, (some (81, true))⟩,
  ⟨(some 84), .pick (.tmp 81) (.tmp 83) (.const (.bool false)), none⟩,
  ⟨(some 85), .move (.tmp 84), none⟩,
  ⟨(some 86), .load 25 (some 2) (.tmp 2), (some (85, true))⟩,
  ⟨(some 87), .call 29 [(.tmp 86), (.const (.int .i64 12)), (.const (.int .i64 13)), (.const (.int .i64 1))] [25, 3, 3, 3] .snap, (some (85, true))⟩,
  ⟨(some 88), .unOp .not 4 (.tmp 87), (some (85, true))⟩,
  ⟨(some 89), .pick (.tmp 85) (.tmp 88) (.const (.bool false)), none⟩,
  ⟨(some 90), .move (.tmp 89), none⟩,
  ⟨(some 91), .load 25 (some 2) (.tmp 3), (some (90, true))⟩,
  ⟨(some 92), .call 20 [(.tmp 91)] [25] .snap, (some (90, true))⟩,
  ⟨(some 93), .build 34 [.c (.i .i64 0), .c (.i .i64 0)] [(0, 1), (1, 1)] 0 [(0, (.const (.int .i64 15)))], (some (90, true))⟩,
  ⟨(some 94), .build 34 [.c (.i .i64 0), .c (.i .i64 0)] [(0, 1), (1, 1)] 0 [(0, (.const (.int .i64 20))), (1, (.const (.int .i64 5)))], (some (90, true))⟩,
  ⟨(some 95), .build 36 [.c (.i .i64 0), .c (.i .i64 0), .c (.i .i64 0), .c (.i .i64 0)] [(0, 2), (2, 2)] 0 [(0, (.tmp 93)), (1, (.tmp 94))], (some (90, true))⟩,
  ⟨(some 96), .eqA false (.pr (.int .i64) (.pr (.int .i64) (.pr (.int .i64) (.pr (.int .i64) .nil)))) 36 (.tmp 92) (.tmp 95) 36, (some (90, true))⟩,
  ⟨(some 97), .pick (.tmp 90) (.tmp 96) (.const (.bool false)), none⟩,
  ⟨(some 0), .assign (.tmp 97), none⟩] 0 none) []
  (.ret [1, 2, 3, 4, 5, 6, 7, 8, 9, 10, 11, 12, 13, 14, 15, 16, 17, 18, 19, 20, 21, 22, 23, 24, 25, 26, 27, 28, 29, 30, 31, 32, 33, 34, 35, 36, 37, 38, 39, 40, 41, 42, 43, 44, 45, 46, 47, 48, 49, 50, 51, 52, 53, 54, 55, 56, 57, 58, 59, 60, 61, 62, 63, 64, 65, 66, 67, 68, 69, 70, 71, 72, 73, 74, 75, 76, 77, 78, 79, 80, 81, 82, 83, 84, 85, 86, 87, 88, 89, 90, 91, 92, 93, 94, 95, 96, 97]))
def A15 : AF := ⟨98, [.tmp 0],
  (.seq (.region 0 [
  ⟨(some 0), .assign (.const (.bool false)), none⟩] 0 none) []
  (.seq (.region 1 [
  ⟨(some 7), .call 41 [(.const (.int .i64 0)), (.const (.int .i64 0)), (.const (.int .i64 10))] [3, 3, 3] .freeze, none⟩,
  ⟨(some 8), .build 34 [.c (.i .i64 0), .c (.i .i64 0)] [(0, 1), (1, 1)] 0 [(0, (.const (.int .i64 2))), (1, (.const (.int .i64 2)))], none⟩,
  ⟨(some 9), .build 34 [.c (.i .i64 0), .c (.i .i64 0)] [(0, 1), (1, 1)] 0 [(0, (.const (.int .i64 2))), (1, (.const (.int .i64 4)))], none⟩,
  ⟨(some 10), .build 34 [.c (.i .i64 0), .c (.i .i64 0)] [(0, 1), (1, 1)] 0 [(0, (.const (.int .i64 4))), (1, (.const (.int .i64 4)))], none⟩,
  ⟨(some 11), .build 34 [.c (.i .i64 0), .c (.i .i64 0)] [(0, 1), (1, 1)] 0 [(0, (.const (.int .i64 4))), (1, (.const (.int .i64 2)))], none⟩,
  ⟨(some 12), .buildSlice 0 22 34 (.pr (.int .i64) (.pr (.int .i64) .nil)) 4 [.c (.i .i64 0), .c (.i .i64 0)] [(0, (.tmp 8)), (1, (.tmp 9)), (2, (.tmp 10)), (3, (.tmp 11))], none⟩,
  ⟨(some 13), .buildSlice 1 23 22 (.pr (.sl (.pr (.int .i64) (.pr (.int .i64) .nil))) .nil) 1 [.c (.ro true .nil 0 (fun _ _ => .any))] [(0, (.tmp 12))], none⟩,
  ⟨(some 14), .build 25 [.c (.ro true .nil 0 (fun _ _ => .any)), .c (.ro true .nil 0 (fun _ _ => .any))] [(0, 1), (1, 1)] 0 [(0, (.tmp 7)), (1, (.tmp 13))], none⟩,
  ⟨(some 1), .alloc 2 25 [.c (.ro true .nil 0 (fun _ _ => .any)), .c (.ro true .nil 0 (fun _ _ => .any))], none⟩,
  ⟨none, .store 25 2 (.tmp 1) (.tmp 14), none⟩] 3 none) []
  (.seq (.region 2 [
  ⟨(some 15), .call 41 [(.const (.int .i64 0)), (.const (.int .i64 0)), (.const (.int .i64 10))] [3, 3, 3] .freeze, none⟩,
  ⟨(some 16), .build 25 [.c (.ro true .nil 0 (fun _ _ => .any)), .c (.ro true .nil 0 (fun _ _ => .any))] [(0, 1), (1, 1)] 0 [(0, (.tmp 15))], none⟩,
  ⟨(some 17), .call 41 [(.const (.int .i64 15)), (.const (.int .i64 0)), (.const (.int .i64 5))] [3, 3, 3] .freeze, none⟩,
  ⟨(some 18), .build 25 [.c (.ro true .nil 0 (fun _ _ => .any)), .c (.ro true .nil 0 (fun _ _ => .any))] [(0, 1), (1, 1)] 0 [(0, (.tmp 17))], none⟩,
  ⟨(some 2), .alloc 0 25 [.c (.ro true .nil 0 (fun _ _ => .any)), .c (.ro true .nil 0 (fun _ _ => .any))], none⟩,
  ⟨(some 3), .alloc 1 25 [.c (.ro true .nil 0 (fun _ _ => .any)), .c (.ro true .nil 0 (fun _ _ => .any))], none⟩,
  ⟨none, .store 25 2 (.tmp 2) (.tmp 16), none⟩,
  ⟨none, .store 25 2 (.tmp 3) (.tmp 18), none⟩] 2 none) []
  (.seq (.region 3 [
  ⟨(some 19), .build 34 [.c (.i .i64 0), .c (.i .i64 0)] [(0, 1), (1, 1)] 0 [(0, (.const (.int .i64 3))), (1, (.const (.int .i64 1)))], none⟩,
  ⟨(some 20), .buildSlice 0 22 34 (.pr (.int .i64) (.pr (.int .i64) .nil)) 1 [.c (.i .i64 0), .c (.i .i64 0)] [(0, (.tmp 19))], none⟩,
  ⟨(some 21), .build 25 [.c (.ro true .nil 0 (fun _ _ => .any)), .c (.ro true .nil 0 (fun _ _ => .any))] [(0, 1), (1, 1)] 0 [(0, (.tmp 20))], none⟩,
  ⟨(some 22), .build 34 [.c (.i .i64 0), .c (.i .i64 0)] [(0, 1), (1, 1)] 0 [(0, (.const (.int .i64 10)))], none⟩,
  ⟨(some 23), .build 41 [.c (.s ByteArray.empty), .c (.i .i64 0), .c (.i .i64 0), .c (.i .i64 0), .c (.b false)] [(0, 1), (1, 2), (3, 1), (4, 1)] 0 [(1, (.tmp 22)), (2, (.const (.int .i64 1))), (3, (.const (.bool true)))], none⟩,
  ⟨(some 24), .call 25 [(.tmp 21), (.tmp 23)] [25, 41] .freeze, none⟩,
  ⟨(some 4), .alloc 1 25 [.c (.ro true .nil 0 (fun _ _ => .any)), .c (.ro true .nil 0 (fun _ _ => .any))], none⟩,
  ⟨none, .store 25 2 (.tmp 4) (.tmp 24), none⟩] 2 none) []
  (.seq (.region 4 [
  ⟨(some 26), .load 25 (some 2) (.tmp 2), none⟩,
  ⟨(some 27), .call 16 [(.tmp 26)] [25] .snap, none⟩,
  ⟨(some 25), .move (.tmp 27), none⟩,
  ⟨(some 28), .extract (.tmp 25) 0, none⟩,
  ⟨(some 29), .extract (.tmp 25) 1, none⟩,
  ⟨(some 5), .assign (.tmp 28), none⟩,
  ⟨(some 6), .assign (.tmp 29), none⟩] 0 none) []
  (.seq (.seq (.region 5 [
  ⟨(some 30), .load 25 (some 2) (.tmp 1), none⟩,
  ⟨(some 31), .call 13 [(.tmp 30)] [25] .snap, none⟩,
  ⟨(some 32), .binOp .neq 27 (.tmp 31) (.const (.int .i64 0)) 27, none⟩,
  ⟨(some 33), .move (.tmp 32), none⟩,
  ⟨(some 34), .load 25 (some 2) (.tmp 1), (some (33, false))⟩,
  ⟨(some 35), .call 18 [(.tmp 34)] [25] .snap, (some (33, false))⟩,
  ⟨(some 36), .binOp .neq 3 (.tmp 35) (.const (.int .i64 192)) 3, (some (33, false))⟩,
  ⟨(some 37), .pick (.tmp 33) (.const (.bool true)) (.tmp 36), none⟩,
  ⟨(some 38), .move (.tmp 37), none⟩,
  ⟨(some 39), .move (.tmp 5), (some (38, false))⟩,
  ⟨(some 40), .binOp .neq 3 (.tmp 39) (.const (.int .i64 3000)) 3, (some (38, false))⟩,
  ⟨(some 41), .pick (.tmp 38) (.const (.bool true)) (.tmp 40), none⟩,
  ⟨(some 42), .move (.tmp 41), none⟩,
  ⟨(some 43), .move (.tmp 6), (some (42, false))⟩,
  ⟨(some 44), .binOp .neq 3 (.tmp 43) (.const (.int .i64 3000)) 3, (some (42, false))⟩,
  ⟨(some 45), .pick (.tmp 42) (.const (.bool true)) (.tmp 44), none⟩,
  ⟨(some 46), .move (.tmp 45), none⟩,
  ⟨(some 47), .load 25 (some 2) (.tmp 4), (some (46, false))⟩,
  ⟨(some 48), .build 34 [.c (.i .i64 0), .c (.i .i64 0)] [(0, 1), (1, 1)] 0 [(0, (.const (.int .i64 9))), (1, (.const (.int .i64 (-3))))], (some (46, false))⟩,
  ⟨(some 49), .buildSlice 0 22 34 (.pr (.int .i64) (.pr (.int .i64) .nil)) 1 [.c (.i .i64 0), .c (.i .i64 0)] [(0, (.tmp 48))], (some (46, false))⟩,
  ⟨(some 50), .build 25 [.c (.ro true .nil 0 (fun _ _ => .any)), .c (.ro true .nil 0 (fun _ _ => .any))] [(0, 1), (1, 1)] 0 [(0, (.tmp 49))], (some (46, false))⟩,
  ⟨(some 51), .call 24 [(.tmp 47), (.tmp 50)] [25, 25] .snap, (some (46, false))⟩,
  ⟨(some 52), .unOp .not 4 (.tmp 51), (some (46, false))⟩,
  ⟨(some 53), .pick (.tmp 46) (.const (.bool true)) (.tmp 52), none⟩] 1 none) []
  (.cond (.tmp 53)
  (.seq (.region 6 [
    ⟨(some 0), .assign (.const (.bool false)), none⟩] 0 none) []
    (.ret [1, 2, 3, 4, 5, 6, 7, 8, 9, 10, 11, 12, 13, 14, 15, 16, 17, 18, 19, 20, 21, 22, 23, 24, 25, 26, 27, 28, 29, 30, 31, 32, 33, 34, 35, 36, 37, 38, 39, 40, 41, 42, 43, 44, 45, 46, 47, 48, 49, 50, 51, 52, 53, 54, 55, 56, 57, 58, 59, 60, 61, 62, 63, 64, 65, 66, 67, 68, 69, 70, 71, 72, 73, 74, 75, 76, 77, 78, 79, 80, 81, 82, 83, 84, 85, 86, 87, 88, 89, 90, 91, 92, 93, 94, 95, 96, 97]))
  .skip)) [0, 30, 31, 32, 33, 34, 35, 36, 37, 38, 39, 40, 41, 42, 43, 44, 45, 46, 47, 48, 49, 50, 51, 52, 53]
  A15v1))))))⟩

def D15 {ρ : Type} (fuel : Nat) (k : Bool → Option ρ) : Option ρ :=
  (ob (F41 fuel 0 0 10) fun x1 => (ob (F41 fuel 0 0 10) fun x2 => (ob (F41 fuel 15 0 5) fun x3 => (ob (F25 fuel 1 (rowsF 2 [(.i .i64 3), (.i .i64 1)]) 0 (fun _ _ => .any) ByteArray.empty 10 0 1 true) fun x4 => (ob (F16 fuel x2.1 x2.2 0 (fun _ _ => .any)) fun x5 => (ob (F13 fuel x1.1 x1.2 1 (rowsF 1 [(.ro false (.pr (.int .i64) (.pr (.int .i64) .nil)) 4 (rowsF 2 [(.i .i64 2), (.i .i64 2), (.i .i64 2), (.i .i64 4), (.i .i64 4), (.i .i64 4), (.i .i64 4), (.i .i64 2)]))])) fun x6 => (bif ((x6 != 0) == false) then (ob (F18 fuel x1.1 x1.2 1 (rowsF 1 [(.ro false (.pr (.int .i64) (.pr (.int .i64) .nil)) 4 (rowsF 2 [(.i .i64 2), (.i .i64 2), (.i .i64 2), (.i .i64 4), (.i .i64 4), (.i .i64 4), (.i .i64 4), (.i .i64 2)]))])) fun x7 => (bif ((x7 != 192) == false) then (bif ((x5.1 != 3000) == false) then (bif ((x5.2 != 3000) == false) then (ob (F24 fuel x4.1 x4.2.1 x4.2.2.1 x4.2.2.2 1 (rowsF 2 [(.i .i64 9), (.i .i64 (-3))]) 0 (fun _ _ => .any)) fun x8 => (bif (!x8) then (k false) else (ob (F22 fuel x1.1 x1.2 1 (rowsF 1 [(.ro false (.pr (.int .i64) (.pr (.int .i64) .nil)) 4 (rowsF 2 [(.i .i64 2), (.i .i64 2), (.i .i64 2), (.i .i64 4), (.i .i64 4), (.i .i64 4), (.i .i64 4), (.i .i64 2)]))]) 3 3) fun x9 => (bif ((x9 == (-1)) == true) then (ob (F22 fuel x1.1 x1.2 1 (rowsF 1 [(.ro false (.pr (.int .i64) (.pr (.int .i64) .nil)) 4 (rowsF 2 [(.i .i64 2), (.i .i64 2), (.i .i64 2), (.i .i64 4), (.i .i64 4), (.i .i64 4), (.i .i64 4), (.i .i64 2)]))]) 2 3) fun x10 => (bif ((x10 == 0) == true) then (ob (F22 fuel x1.1 x1.2 1 (rowsF 1 [(.ro false (.pr (.int .i64) (.pr (.int .i64) .nil)) 4 (rowsF 2 [(.i .i64 2), (.i .i64 2), (.i .i64 2), (.i .i64 4), (.i .i64 4), (.i .i64 4), (.i .i64 4), (.i .i64 2)]))]) 1 1) fun x11 => (bif ((x11 == 1) == true) then (ob (F27 fuel x2.1 x2.2 0 (fun _ _ => .any) x3.1 x3.2 0 (fun _ _ => .any) 5) fun x12 => (bif (x12 == true) then (ob (F27 fuel x2.1 x2.2 0 (fun _ _ => .any) x3.1 x3.2 0 (fun _ _ => .any) 6) fun x13 => (bif ((!x13) == true) then (ob (F29 fuel x2.1 x2.2 0 (fun _ _ => .any) 12 13 0) fun x14 => (bif (x14 == true) then (ob (F29 fuel x2.1 x2.2 0 (fun _ _ => .any) 12 13 1) fun x15 => (bif ((!x15) == true) then (ob (F20 fuel x3.1 x3.2 0 (fun _ _ => .any)) fun x16 => (k ((x16.1 == 15) && ((x16.2.1 == 0) && ((x16.2.2.1 == 20) && ((x16.2.2.2 == 5) && true)))))) else (k false))) else (k false))) else (k false))) else (k false))) else (k false))) else (k false))) else (k false))))) else (k false)) else (k false)) else (k false))) else (k false))))))))

def F15 (fuel : Nat) : Option (Bool) := D15 fuel some

theorem n15 {ρ σ : Type} (fuel : Nat) (k : (Bool) → Option ρ) (g : ρ → Option σ) : ob (D15 fuel k) g = D15 fuel fun t => ob (k t) g := by
  simp only [D15, ob_bif, ob_ob, ob_none]

theorem f15 {ρ : Type} (fuel : Nat) (k : (Bool) → Option ρ) : D15 fuel k = ob (F15 fuel) k := by
  unfold F15
  rw [n15]
  simp only [ob_some]

theorem walk15 (fuel : Nat) :
    evalF (C67 fuel) fuel A15 [] =
    (ob (F41 fuel 0 0 10) fun x1 => (ob (F41 fuel 0 0 10) fun x2 => (ob (F41 fuel 15 0 5) fun x3 => (ob (F25 fuel 1 (rowsF 2 [(.i .i64 3), (.i .i64 1)]) 0 (fun _ _ => .any) ByteArray.empty 10 0 1 true) fun x4 => (ob (F16 fuel x2.1 x2.2 0 (fun _ _ => .any)) fun x5 => (ob (F13 fuel x1.1 x1.2 1 (rowsF 1 [(.ro false (.pr (.int .i64) (.pr (.int .i64) .nil)) 4 (rowsF 2 [(.i .i64 2), (.i .i64 2), (.i .i64 2), (.i .i64 4), (.i .i64 4), (.i .i64 4), (.i .i64 4), (.i .i64 2)]))])) fun x6 => (bif ((x6 != 0) == false) then (ob (F18 fuel x1.1 x1.2 1 (rowsF 1 [(.ro false (.pr (.int .i64) (.pr (.int .i64) .nil)) 4 (rowsF 2 [(.i .i64 2), (.i .i64 2), (.i .i64 2), (.i .i64 4), (.i .i64 4), (.i .i64 4), (.i .i64 4), (.i .i64 2)]))])) fun x7 => (bif ((x7 != 192) == false) then (bif ((x5.1 != 3000) == false) then (bif ((x5.2 != 3000) == false) then (ob (F24 fuel x4.1 x4.2.1 x4.2.2.1 x4.2.2.2 1 (rowsF 2 [(.i .i64 9), (.i .i64 (-3))]) 0 (fun _ _ => .any)) fun x8 => (bif (!x8) then (some [.v (.b false)]) else (ob (F22 fuel x1.1 x1.2 1 (rowsF 1 [(.ro false (.pr (.int .i64) (.pr (.int .i64) .nil)) 4 (rowsF 2 [(.i .i64 2), (.i .i64 2), (.i .i64 2), (.i .i64 4), (.i .i64 4), (.i .i64 4), (.i .i64 4), (.i .i64 2)]))]) 3 3) fun x9 => (bif ((x9 == (-1)) == true) then (ob (F22 fuel x1.1 x1.2 1 (rowsF 1 [(.ro false (.pr (.int .i64) (.pr (.int .i64) .nil)) 4 (rowsF 2 [(.i .i64 2), (.i .i64 2), (.i .i64 2), (.i .i64 4), (.i .i64 4), (.i .i64 4), (.i .i64 4), (.i .i64 2)]))]) 2 3) fun x10 => (bif ((x10 == 0) == true) then (ob (F22 fuel x1.1 x1.2 1 (rowsF 1 [(.ro false (.pr (.int .i64) (.pr (.int .i64) .nil)) 4 (rowsF 2 [(.i .i64 2), (.i .i64 2), (.i .i64 2), (.i .i64 4), (.i .i64 4), (.i .i64 4), (.i .i64 4), (.i .i64 2)]))]) 1 1) fun x11 => (bif ((x11 == 1) == true) then (ob (F27 fuel x2.1 x2.2 0 (fun _ _ => .any) x3.1 x3.2 0 (fun _ _ => .any) 5) fun x12 => (bif (x12 == true) then (ob (F27 fuel x2.1 x2.2 0 (fun _ _ => .any) x3.1 x3.2 0 (fun _ _ => .any) 6) fun x13 => (bif ((!x13) == true) then (ob (F29 fuel x2.1 x2.2 0 (fun _ _ => .any) 12 13 0) fun x14 => (bif (x14 == true) then (ob (F29 fuel x2.1 x2.2 0 (fun _ _ => .any) 12 13 1) fun x15 => (bif ((!x15) == true) then (ob (F20 fuel x3.1 x3.2 0 (fun _ _ => .any)) fun x16 => (some [.v (.b ((x16.1 == 15) && ((x16.2.1 == 0) && ((x16.2.2.1 == 20) && ((x16.2.2.2 == 5) && true)))))])) else (some [.v (.b false)]))) else (some [.v (.b false)]))) else (some [.v (.b false)]))) else (some [.v (.b false)]))) else (some [.v (.b false)]))) else (some [.v (.b false)]))) else (some [.v (.b false)]))))) else (some [.v (.b false)])) else (some [.v (.b false)])) else (some [.v (.b false)]))) else (some [.v (.b false)])))))))) := by kernel_rfl

theorem e15 (fuel : Nat) : evalF (C67 fuel) fuel A15 [] = ob (F15 fuel) fun t => some [.v (.b t)] := by
  rw [walk15, ← f15]
  simp only [D15]

def O15 (fuel : Nat) : Ora where
  o := fun args {ρ} K =>
    wn args <|
    (ob (F15 fuel) fun t => K [.v (.b t)])
  nat := fun args {ρ} K => by
    simp only [bind_wc, bind_wn, bind_wv, bind_wagg, bind_wI, bind_wB, bind_wS, bind_wL, bind_wP, bind_wFn, bind_ob, Option.bind_some]

theorem d15 {P : Program} (fuel : Nat) (hmix : P.follows .mixedOrders = true) (hC : Sound P (C67 fuel)) (hF : FFits P 15 A15) (args res : List A) (h : (O15 fuel).o args some = some res) : Den P 15 args res := by
  obtain ⟨hn, z0⟩ := inv_wn h
  cases hn
  exact Den.weaken .nil (evalF_sound hmix hC hF ((e15 fuel).trans z0))

def C68 (fuel : Nat) : Oracle := (C67 fuel).add 15 (fun _ => true) (O15 fuel)

/-- shipyard/shipyardlaw13.RegionChecks -/
def A3 : AF := ⟨15, [.tmp 2],
  (.seq (.region 0 [
  ⟨(some 1), .box 0 25 (.tmp 0), none⟩,
  ⟨(some 2), .assign (.const (.bool false)), none⟩] 1 none) []
  (.seq (.region 1 [
  ⟨(some 3), .load 25 (some 2) (.tmp 1), none⟩,
  ⟨(some 4), .call 12 [(.tmp 3)] [25] .snap, none⟩,
  ⟨(some 5), .move (.tmp 4), none⟩,
  ⟨(some 6), .load 25 (some 2) (.tmp 1), (some (5, false))⟩,
  ⟨(some 7), .call 13 [(.tmp 6)] [25] .snap, (some (5, false))⟩,
  ⟨(some 8), .load 25 (some 2) (.tmp 1), (some (5, false))⟩,
  ⟨(some 9), .call 14 [(.tmp 8)] [25] .snap, (some (5, false))⟩,
  ⟨(some 10), .binOp .eql 27 (.tmp 7) (.tmp 9) 27, (some (5, false))⟩,
  ⟨(some 11), .pick (.tmp 5) (.const (.bool true)) (.tmp 10), none⟩,
  ⟨(some 12), .move (.tmp 11), none⟩,
  ⟨(some 13), .call 15 [] [] .snap, (some (12, true))⟩,
  ⟨(some 14), .pick (.tmp 12) (.tmp 13) (.const (.bool false)), none⟩,
  ⟨(some 2), .assign (.tmp 14), none⟩] 0 (some [[], [0], [0, 1], [0, 1, 2], [0, 1, 2, 3], [0, 1, 2], [0, 1, 2, 3, 4, 5], [0, 1, 2, 3, 4, 5, 6], [0, 1, 2, 3, 4, 5, 6, 7], [0, 1, 2, 3, 4, 5, 6, 7, 8], [0, 1, 2, 3, 4, 5, 6, 7, 8, 9], [0, 1, 2, 3, 4, 5, 6, 7, 8, 9, 10], [0, 1, 2, 3, 4, 5, 6, 7, 8, 9, 10, 11]])) []
  (.ret [0, 1, 3, 4, 5, 6, 7, 8, 9, 10, 11, 12, 13, 14])))⟩

def D3 {ρ : Type} (fuel : Nat) (x1 : Nat) (x2 : Nat → Nat → CV) (x3 : Nat) (x4 : Nat → Nat → CV) (k : Bool → Option ρ) : Option ρ :=
  (ob (F12 fuel x1 x2 x3 x4) fun x5 => (bif (x5 == false) then (ob (F13 fuel x1 x2 x3 x4) fun x6 => (ob (F14 fuel x1 x2 x3 x4) fun x7 => (bif ((x6 == x7) == true) then (ob (F15 fuel) fun x8 => (k x8)) else (k false)))) else (ob (F15 fuel) fun x9 => (k x9))))

def F3 (fuel : Nat) (x1 : Nat) (x2 : Nat → Nat → CV) (x3 : Nat) (x4 : Nat → Nat → CV) : Option (Bool) := D3 fuel x1 x2 x3 x4 some

theorem n3 {ρ σ : Type} (fuel : Nat) (x1 : Nat) (x2 : Nat → Nat → CV) (x3 : Nat) (x4 : Nat → Nat → CV) (k : (Bool) → Option ρ) (g : ρ → Option σ) : ob (D3 fuel x1 x2 x3 x4 k) g = D3 fuel x1 x2 x3 x4 fun t => ob (k t) g := by
  simp only [D3, ob_bif, ob_ob, ob_none]

theorem f3 {ρ : Type} (fuel : Nat) (x1 : Nat) (x2 : Nat → Nat → CV) (x3 : Nat) (x4 : Nat → Nat → CV) (k : (Bool) → Option ρ) : D3 fuel x1 x2 x3 x4 k = ob (F3 fuel x1 x2 x3 x4) k := by
  unfold F3
  rw [n3]
  simp only [ob_some]

theorem walk3 (fuel : Nat) (x1 : Nat) (x2 : Nat → Nat → CV) (x3 : Nat) (x4 : Nat → Nat → CV) :
    evalF (C68 fuel) fuel A3 [.agg [(.ro false (.pr (.int .i64) (.pr (.int .i64) .nil)) x1 x2), (.ro false (.pr (.sl (.pr (.int .i64) (.pr (.int .i64) .nil))) .nil) x3 x4)]] =
    (ob (F12 fuel x1 x2 x3 x4) fun x5 => (bif (x5 == false) then (ob (F13 fuel x1 x2 x3 x4) fun x6 => (ob (F14 fuel x1 x2 x3 x4) fun x7 => (bif ((x6 == x7) == true) then (ob (F15 fuel) fun x8 => (some [.v (.b x8)])) else (some [.v (.b false)])))) else (ob (F15 fuel) fun x9 => (some [.v (.b x9)])))) := by kernel_rfl

theorem e3 (fuel : Nat) (x1 : Nat) (x2 : Nat → Nat → CV) (x3 : Nat) (x4 : Nat → Nat → CV) : evalF (C68 fuel) fuel A3 [.agg [(.ro false (.pr (.int .i64) (.pr (.int .i64) .nil)) x1 x2), (.ro false (.pr (.sl (.pr (.int .i64) (.pr (.int .i64) .nil))) .nil) x3 x4)]] = ob (F3 fuel x1 x2 x3 x4) fun t => some [.v (.b t)] := by
  rw [walk3, ← f3]
  simp only [D3]

def O3 (fuel : Nat) : Ora where
  o := fun args {ρ} K =>
    wc args fun a1 l2 =>
    wagg a1 fun l3 =>
    wc l3 fun c4 l5 =>
    wL (.pr (.int .i64) (.pr (.int .i64) .nil)) c4 fun y6 y7 =>
    wc l5 fun c9 l10 =>
    wL (.pr (.sl (.pr (.int .i64) (.pr (.int .i64) .nil))) .nil) c9 fun y11 y12 =>
    wn l10 <|
    wn l2 <|
    (ob (F3 fuel y6 y7 y11 y12) fun t => K [.v (.b t)])
  nat := fun args {ρ} K => by
    simp only [bind_wc, bind_wn, bind_wv, bind_wagg, bind_wI, bind_wB, bind_wS, bind_wL, bind_wP, bind_wFn, bind_ob, Option.bind_some]

theorem d3 {P : Program} (fuel : Nat) (hmix : P.follows .mixedOrders = true) (hC : Sound P (C68 fuel)) (hF : FFits P 3 A3) (args res : List A) (h : (O3 fuel).o args some = some res) : Den P 3 args res := by
  obtain ⟨a1, l2, rfl, z0⟩ := inv_wc h
  obtain ⟨l3, rfl, z1⟩ := inv_wagg z0
  obtain ⟨c4, l5, rfl, z2⟩ := inv_wc z1
  obtain ⟨y6, y7, h8, z3⟩ := inv_wL z2
  obtain ⟨c9, l10, rfl, z4⟩ := inv_wc z3
  obtain ⟨y11, y12, h13, z5⟩ := inv_wL z4
  obtain ⟨hn, z6⟩ := inv_wn z5
  cases hn
  obtain ⟨hn, z7⟩ := inv_wn z6
  cases hn
  exact Den.weaken (.cons (WkA.agg (.cons h8 (.cons h13 .nil))) .nil) (evalF_sound hmix hC hF ((e3 fuel y6 y7 y11 y12).trans z7))

def C69 (fuel : Nat) : Oracle := (C68 fuel).add 3 (fun _ => true) (O3 fuel)

end Go.Eng.R13
