/-
  The functions of the program, run on symbols; printed by decomp.py.
-/
import Derived.Test.YtnpgipmbionmgaaDecT1
set_option linter.all false
set_option maxRecDepth 1000000
set_option maxHeartbeats 4000000
namespace Go.Eng.R13
open Go Go.RowKit Go.Eng
/-- shipyard/shipyardref13.Check -/
def A14v1 : AC := (.region 19 [
  ⟨(some 60), .move (.tmp 7), none⟩,
  ⟨(some 61), .binOp .add 3 (.tmp 60) (.const (.int .i64 1)) 3, none⟩,
  ⟨(some 7), .assign (.tmp 61), none⟩] 0 none)
def A14v2 : AC := (.seq (.block 3
  (.seq (.region 20 [
    ⟨(some 62), .move (.tmp 5), none⟩,
    ⟨(some 63), .fieldAddr 25 (.tmp 1) 1 1, none⟩,
    ⟨(some 64), .load 23 none (.tmp 63), none⟩,
    ⟨(some 65), .move (.tmp 7), none⟩,
    ⟨(some 66), .indexAddr 23 22 1 (.tmp 64) (.tmp 65), none⟩,
    ⟨(some 67), .load 22 none (.tmp 66), none⟩,
    ⟨(some 68), .call 39 [(.tmp 62), (.tmp 67)] [22, 22] .snap, none⟩,
    ⟨(some 69), .move (.tmp 68), none⟩,
    ⟨(some 70), .move (.tmp 5), (some (69, false))⟩,
    ⟨(some 71), .fieldAddr 25 (.tmp 1) 1 1, (some (69, false))⟩,
    ⟨(some 72), .load 23 none (.tmp 71), (some (69, false))⟩,
    ⟨(some 73), .move (.tmp 7), (some (69, false))⟩,
    ⟨(some 74), .indexAddr 23 22 1 (.tmp 72) (.tmp 73), (some (69, false))⟩,
    ⟨(some 75), .load 22 none (.tmp 74), (some (69, false))⟩,
    ⟨(some 76), .indexAddr 22 34 2 (.tmp 75) (.const (.int .i64 0)), (some (69, false))⟩,
    ⟨(some 77), .load 34 (some 2) (.tmp 76), (some (69, false))⟩,
    ⟨(some 78), .call 40 [(.tmp 70), (.tmp 77)] [22, 34] .snap, (some (69, false))⟩,
    ⟨(some 79), .binOp .neq 3 (.tmp 78) (.const (.int .i64 (-1))) 3, (some (69, false))⟩,
    ⟨(some 80), .pick (.tmp 69) (.const (.bool true)) (.tmp 79), none⟩,
    ⟨(some 81), .move (.tmp 80), none⟩,
    ⟨(some 82), .fieldAddr 25 (.tmp 1) 1 1, (some (81, false))⟩,
    ⟨(some 83), .load 23 none (.tmp 82), (some (81, false))⟩,
    ⟨(some 84), .move (.tmp 7), (some (81, false))⟩,
    ⟨(some 85), .indexAddr 23 22 1 (.tmp 83) (.tmp 84), (some (81, false))⟩,
    ⟨(some 86), .load 22 none (.tmp 85), (some (81, false))⟩,
    ⟨(some 87), .move (.tmp 5), (some (81, false))⟩,
    ⟨(some 88), .indexAddr 22 34 2 (.tmp 87) (.const (.int .i64 0)), (some (81, false))⟩,
    ⟨(some 89), .load 34 (some 2) (.tmp 88), (some (81, false))⟩,
    ⟨(some 90), .call 40 [(.tmp 86), (.tmp 89)] [22, 34] .snap, (some (81, false))⟩,
    ⟨(some 91), .binOp .neq 3 (.tmp 90) (.const (.int .i64 (-1))) 3, (some (81, false))⟩,
    ⟨(some 92), .pick (.tmp 81) (.const (.bool true)) (.tmp 91), none⟩] 0 (some [[], [], [1], [], [1, 2, 3], [1, 2, 3, 4], [0, 1, 2, 3, 4, 5], [0, 1, 2, 3, 4, 5, 6], [0, 1, 2, 3, 4, 5, 6, 7], [0, 1, 2, 3, 4, 5, 6, 7], [0, 1, 2, 3, 4, 5, 6, 7, 9], [0, 1, 2, 3, 4, 5, 6, 7], [0, 1, 2, 3, 4, 5, 6, 7, 9, 10, 11], [0, 1, 2, 3, 4, 5, 6, 7, 9, 10, 11, 12], [0, 1, 2, 3, 4, 5, 6, 7, 9, 10, 11, 12, 13], [0, 1, 2, 3, 4, 5, 6, 7, 9, 10, 11, 12, 13, 14], [0, 1, 2, 3, 4, 5, 6, 7, 8, 9, 10, 11, 12, 13, 14, 15], [0, 1, 2, 3, 4, 5, 6, 7, 8, 9, 10, 11, 12, 13, 14, 15, 16], [0, 1, 2, 3, 4, 5, 6, 7, 8, 9, 10, 11, 12, 13, 14, 15, 16, 17], [0, 1, 2, 3, 4, 5, 6, 7, 8, 9, 10, 11, 12, 13, 14, 15, 16, 17, 18], [0, 1, 2, 3, 4, 5, 6, 7, 8, 9, 10, 11, 12, 13, 14, 15, 16, 17, 18, 19], [0, 1, 2, 3, 4, 5, 6, 7, 8, 9, 10, 11, 12, 13, 14, 15, 16, 17, 18, 19, 20], [0, 1, 2, 3, 4, 5, 6, 7, 8, 9, 10, 11, 12, 13, 14, 15, 16, 17, 18, 19], [0, 1, 2, 3, 4, 5, 6, 7, 8, 9, 10, 11, 12, 13, 14, 15, 16, 17, 18, 19, 20, 21, 22], [0, 1, 2, 3, 4, 5, 6, 7, 8, 9, 10, 11, 12, 13, 14, 15, 16, 17, 18, 19, 20, 21, 22, 23], [0, 1, 2, 3, 4, 5, 6, 7, 8, 9, 10, 11, 12, 13, 14, 15, 16, 17, 18, 19], [0, 1, 2, 3, 4, 5, 6, 7, 8, 9, 10, 11, 12, 13, 14, 15, 16, 17, 18, 19, 25], [0, 1, 2, 3, 4, 5, 6, 7, 8, 9, 10, 11, 12, 13, 14, 15, 16, 17, 18, 19, 25, 26], [0, 1, 2, 3, 4, 5, 6, 7, 8, 9, 10, 11, 12, 13, 14, 15, 16, 17, 18, 19, 20, 21, 22, 23, 24, 25, 26, 27], [0, 1, 2, 3, 4, 5, 6, 7, 8, 9, 10, 11, 12, 13, 14, 15, 16, 17, 18, 19, 20, 21, 22, 23, 24, 25, 26, 27, 28], [0, 1, 2, 3, 4, 5, 6, 7, 8, 9, 10, 11, 12, 13, 14, 15, 16, 17, 18, 19, 20, 21, 22, 23, 24, 25, 26, 27, 28, 29]])) []
    (.cond (.tmp 92)
    (.seq (.region 21 [
      ⟨(some 2), .assign (.const (.int .i64 17)), none⟩] 0 none) []
      (.ret [0, 1, 3, 4, 5, 6, 7, 8, 9, 10, 11, 12, 13, 14, 15, 16, 17, 18, 19, 20, 21, 22, 23, 24, 25, 26, 27, 28, 29, 30, 31, 32, 33, 34, 35, 36, 37, 38, 39, 40, 41, 42, 43, 44, 45, 46, 47, 48, 49, 50, 51, 52, 53, 54, 55, 56, 57, 58, 59, 60, 61, 62, 63, 64, 65, 66, 67, 68, 69, 70, 71, 72, 73, 74, 75, 76, 77, 78, 79, 80, 81, 82, 83, 84, 85, 86, 87, 88, 89, 90, 91, 92]))
    .skip))) [2, 62, 63, 64, 65, 66, 67, 68, 69, 70, 71, 72, 73, 74, 75, 76, 77, 78, 79, 80, 81, 82, 83, 84, 85, 86, 87, 88, 89, 90, 91, 92]
  A14v1)
def A14v3 : AC := (.seq (.seq (.region 18 [
  ⟨(some 57), .move (.tmp 7), none⟩,
  ⟨(some 58), .move (.tmp 4), none⟩,
  ⟨(some 59), .binOp .lss 3 (.tmp 57) (.tmp 58) 3, none⟩] 0 none) []
  (.cond (.tmp 59)
  .skip
  (.exit 2 [0, 2, 3, 5, 6, 7, 8, 9, 10, 11, 12, 13, 14, 15, 16, 17, 18, 19, 20, 21, 22, 23, 24, 25, 26, 27, 28, 29, 30, 31, 32, 33, 34, 35, 36, 37, 38, 39, 40, 41, 42, 43, 44, 45, 46, 47, 48, 49, 50, 51, 52, 53, 54, 55, 56, 57, 58, 59, 60, 61, 62, 63, 64, 65, 66, 67, 68, 69, 70, 71, 72, 73, 74, 75, 76, 77, 78, 79, 80, 81, 82, 83, 84, 85, 86, 87, 88, 89, 90, 91, 92]))) [57, 58, 59]
  A14v2)
def A14v4 : AC := (.seq (.region 17 [
  ⟨(some 7), .assign (.const (.int .i64 0)), none⟩] 0 none) []
  (.block 2
  (.loop [] [0, 2, 3, 6, 8, 9, 10, 11, 12, 13, 14, 15, 16, 17, 18, 19, 20, 21, 22, 23, 24, 25, 26, 27, 28, 29, 30, 31, 32, 33, 34, 35, 36, 37, 38, 39, 40, 41, 42, 43, 44, 45, 46, 47, 48, 49, 50, 51, 52, 53, 54, 55, 56, 57, 58, 59, 60, 61, 62, 63, 64, 65, 66, 67, 68, 69, 70, 71, 72, 73, 74, 75, 76, 77, 78, 79, 80, 81, 82, 83, 84, 85, 86, 87, 88, 89, 90, 91, 92]
    A14v3)))
def A14v5 : AC := (.seq (.seq (.region 15 [
  ⟨(some 39), .move (.tmp 5), none⟩,
  ⟨(some 40), .call 38 [(.tmp 39)] [22] .snap, none⟩,
  ⟨(some 41), .binOp .geq 3 (.tmp 40) (.const (.int .i64 0)) 3, none⟩,
  ⟨(some 42), .move (.tmp 41), none⟩,
  ⟨(some 43), .fieldAddr 25 (.tmp 1) 0 0, (some (42, false))⟩,
  ⟨(some 44), .load 22 none (.tmp 43), (some (42, false))⟩,
  ⟨(some 45), .move (.tmp 5), (some (42, false))⟩,
  ⟨(some 46), .call 39 [(.tmp 44), (.tmp 45)] [22, 22] .snap, (some (42, false))⟩,
  ⟨(some 47), .pick (.tmp 42) (.const (.bool true)) (.tmp 46), none⟩,
  ⟨(some 48), .move (.tmp 47), none⟩,
  ⟨(some 49), .fieldAddr 25 (.tmp 1) 0 0, (some (48, false))⟩,
  ⟨(some 50), .load 22 none (.tmp 49), (some (48, false))⟩,
  ⟨(some 51), .move (.tmp 5), (some (48, false))⟩,
  ⟨(some 52), .indexAddr 22 34 2 (.tmp 51) (.const (.int .i64 0)), (some (48, false))⟩,
  ⟨(some 53), .load 34 (some 2) (.tmp 52), (some (48, false))⟩,
  ⟨(some 54), .call 40 [(.tmp 50), (.tmp 53)] [22, 34] .snap, (some (48, false))⟩,
  ⟨(some 55), .binOp .neq 3 (.tmp 54) (.const (.int .i64 1)) 3, (some (48, false))⟩,
  ⟨(some 56), .pick (.tmp 48) (.const (.bool true)) (.tmp 55), none⟩] 0 (some [[], [0], [0, 1], [0, 1, 2], [0, 1, 2, 3], [0, 1, 2, 3, 4], [0, 1, 2, 3], [0, 1, 2, 3, 4, 5, 6], [0, 1, 2, 3, 4, 5, 6, 7], [0, 1, 2, 3, 4, 5, 6, 7, 8], [0, 1, 2, 3, 4, 5, 6, 7, 8, 9], [0, 1, 2, 3, 4, 5, 6, 7, 8, 9, 10], [0, 1, 2, 3, 4, 5, 6, 7, 8, 9], [0, 1, 2, 3, 4, 5, 6, 7, 8, 9, 12], [0, 1, 2, 3, 4, 5, 6, 7, 8, 9, 12, 13], [0, 1, 2, 3, 4, 5, 6, 7, 8, 9, 10, 11, 12, 13, 14], [0, 1, 2, 3, 4, 5, 6, 7, 8, 9, 10, 11, 12, 13, 14, 15], [0, 1, 2, 3, 4, 5, 6, 7, 8, 9, 10, 11, 12, 13, 14, 15, 16]])) []
  (.cond (.tmp 56)
  (.seq (.region 16 [
    ⟨(some 2), .assign (.const (.int .i64 17)), none⟩] 0 none) []
    (.ret [0, 1, 3, 4, 5, 6, 7, 8, 9, 10, 11, 12, 13, 14, 15, 16, 17, 18, 19, 20, 21, 22, 23, 24, 25, 26, 27, 28, 29, 30, 31, 32, 33, 34, 35, 36, 37, 38, 39, 40, 41, 42, 43, 44, 45, 46, 47, 48, 49, 50, 51, 52, 53, 54, 55, 56, 57, 58, 59, 60, 61, 62, 63, 64, 65, 66, 67, 68, 69, 70, 71, 72, 73, 74, 75, 76, 77, 78, 79, 80, 81, 82, 83, 84, 85, 86, 87, 88, 89, 90, 91, 92]))
  .skip)) [2, 39, 40, 41, 42, 43, 44, 45, 46, 47, 48, 49, 50, 51, 52, 53, 54, 55, 56]
  A14v4)
def A14v6 : AC := (.region 10 [
  ⟨(some 27), .move (.tmp 4), none⟩,
  ⟨(some 28), .binOp .add 3 (.tmp 27) (.const (.int .i64 1)) 3, none⟩,
  ⟨(some 4), .assign (.tmp 28), none⟩] 0 none)
def A14v7 : AC := (.seq (.block 1
  (.seq (.region 11 [
    ⟨(some 29), .fieldAddr 25 (.tmp 1) 1 1, none⟩,
    ⟨(some 30), .load 23 none (.tmp 29), none⟩,
    ⟨(some 31), .move (.tmp 4), none⟩,
    ⟨(some 32), .indexAddr 23 22 1 (.tmp 30) (.tmp 31), none⟩,
    ⟨(some 33), .load 22 none (.tmp 32), none⟩,
    ⟨(some 5), .assign (.tmp 33), none⟩] 0 none) []
    (.seq (.seq (.region 12 [
    ⟨(some 34), .move (.tmp 5), none⟩,
    ⟨(some 35), .call 37 [(.tmp 34)] [22] .snap, none⟩,
    ⟨(some 6), .assign (.tmp 35), none⟩] 0 none) []
    (.seq (.region 13 [
    ⟨(some 36), .move (.tmp 6), none⟩,
    ⟨(some 37), .binOp .neq 27 (.tmp 36) (.const (.int .i64 0)) 27, none⟩] 0 none) []
    (.cond (.tmp 37)
    (.seq (.region 14 [
      ⟨(some 38), .move (.tmp 6), none⟩,
      ⟨(some 2), .assign (.tmp 38), none⟩] 0 none) []
      (.ret [0, 1, 3, 4, 5, 6, 7, 8, 9, 10, 11, 12, 13, 14, 15, 16, 17, 18, 19, 20, 21, 22, 23, 24, 25, 26, 27, 28, 29, 30, 31, 32, 33, 34, 35, 36, 37, 38, 39, 40, 41, 42, 43, 44, 45, 46, 47, 48, 49, 50, 51, 52, 53, 54, 55, 56, 57, 58, 59, 60, 61, 62, 63, 64, 65, 66, 67, 68, 69, 70, 71, 72, 73, 74, 75, 76, 77, 78, 79, 80, 81, 82, 83, 84, 85, 86, 87, 88, 89, 90, 91, 92]))
    .skip))) [2, 6, 34, 35, 36, 37, 38]
    A14v5))) [2, 5, 6, 7, 29, 30, 31, 32, 33, 34, 35, 36, 37, 38, 39, 40, 41, 42, 43, 44, 45, 46, 47, 48, 49, 50, 51, 52, 53, 54, 55, 56, 57, 58, 59, 60, 61, 62, 63, 64, 65, 66, 67, 68, 69, 70, 71, 72, 73, 74, 75, 76, 77, 78, 79, 80, 81, 82, 83, 84, 85, 86, 87, 88, 89, 90, 91, 92]
  A14v6)
def A14v8 : AC := (.seq (.seq (.region 9 [
  ⟨(some 22), .move (.tmp 4), none⟩,
  ⟨(some 23), .fieldAddr 25 (.tmp 1) 1 1, none⟩,
  ⟨(some 24), .load 23 none (.tmp 23), none⟩,
  ⟨(some 25), .len 23 false (.tmp 24), none⟩,
  ⟨(some 26), .binOp .lss 3 (.tmp 22) (.tmp 25) 3, none⟩] 0 none) []
  (.cond (.tmp 26)
  .skip
  (.exit 0 [0, 1, 2, 3, 4, 5, 6, 7, 8, 9, 10, 11, 12, 13, 14, 15, 16, 17, 18, 19, 20, 21, 22, 23, 24, 25, 26, 27, 28, 29, 30, 31, 32, 33, 34, 35, 36, 37, 38, 39, 40, 41, 42, 43, 44, 45, 46, 47, 48, 49, 50, 51, 52, 53, 54, 55, 56, 57, 58, 59, 60, 61, 62, 63, 64, 65, 66, 67, 68, 69, 70, 71, 72, 73, 74, 75, 76, 77, 78, 79, 80, 81, 82, 83, 84, 85, 86, 87, 88, 89, 90, 91, 92]))) [22, 23, 24, 25, 26]
  A14v7)
def A14v9 : AC := (.seq (.region 22 [
  ⟨(some 2), .assign (.const (.int .i64 0)), none⟩] 0 none) []
  (.ret [0, 1, 3, 4, 5, 6, 7, 8, 9, 10, 11, 12, 13, 14, 15, 16, 17, 18, 19, 20, 21, 22, 23, 24, 25, 26, 27, 28, 29, 30, 31, 32, 33, 34, 35, 36, 37, 38, 39, 40, 41, 42, 43, 44, 45, 46, 47, 48, 49, 50, 51, 52, 53, 54, 55, 56, 57, 58, 59, 60, 61, 62, 63, 64, 65, 66, 67, 68, 69, 70, 71, 72, 73, 74, 75, 76, 77, 78, 79, 80, 81, 82, 83, 84, 85, 86, 87, 88, 89, 90, 91, 92]))
def A14v10 : AC := (.seq (.seq (.region 8 [
  ⟨(some 4), .assign (.const (.int .i64 0)), none⟩] 0 none) []
  (.block 0
  (.loop [] [0, 2, 3, 5, 6, 7, 8, 9, 10, 11, 12, 13, 14, 15, 16, 17, 18, 19, 20, 21, 22, 23, 24, 25, 26, 27, 28, 29, 30, 31, 32, 33, 34, 35, 36, 37, 38, 39, 40, 41, 42, 43, 44, 45, 46, 47, 48, 49, 50, 51, 52, 53, 54, 55, 56, 57, 58, 59, 60, 61, 62, 63, 64, 65, 66, 67, 68, 69, 70, 71, 72, 73, 74, 75, 76, 77, 78, 79, 80, 81, 82, 83, 84, 85, 86, 87, 88, 89, 90, 91, 92]
    A14v8))) [2, 4, 5, 6, 7, 22, 23, 24, 25, 26, 27, 28, 29, 30, 31, 32, 33, 34, 35, 36, 37, 38, 39, 40, 41, 42, 43, 44, 45, 46, 47, 48, 49, 50, 51, 52, 53, 54, 55, 56, 57, 58, 59, 60, 61, 62, 63, 64, 65, 66, 67, 68, 69, 70, 71, 72, 73, 74, 75, 76, 77, 78, 79, 80, 81, 82, 83, 84, 85, 86, 87, 88, 89, 90, 91, 92]
  A14v9)
def A14v11 : AC := (.seq (.seq (.region 6 [
  ⟨(some 18), .fieldAddr 25 (.tmp 1) 0 0, none⟩,
  ⟨(some 19), .load 22 none (.tmp 18), none⟩,
  ⟨(some 20), .call 38 [(.tmp 19)] [22] .snap, none⟩,
  ⟨(some 21), .binOp .leq 3 (.tmp 20) (.const (.int .i64 0)) 3, none⟩] 0 none) []
  (.cond (.tmp 21)
  (.seq (.region 7 [
    ⟨(some 2), .assign (.const (.int .i64 17)), none⟩] 0 none) []
    (.ret [0, 1, 3, 4, 5, 6, 7, 8, 9, 10, 11, 12, 13, 14, 15, 16, 17, 18, 19, 20, 21, 22, 23, 24, 25, 26, 27, 28, 29, 30, 31, 32, 33, 34, 35, 36, 37, 38, 39, 40, 41, 42, 43, 44, 45, 46, 47, 48, 49, 50, 51, 52, 53, 54, 55, 56, 57, 58, 59, 60, 61, 62, 63, 64, 65, 66, 67, 68, 69, 70, 71, 72, 73, 74, 75, 76, 77, 78, 79, 80, 81, 82, 83, 84, 85, 86, 87, 88, 89, 90, 91, 92]))
  .skip)) [2, 18, 19, 20, 21]
  A14v10)
def A14v12 : AC := (.seq (.seq (.region 3 [
  ⟨(some 12), .fieldAddr 25 (.tmp 1) 0 0, none⟩,
  ⟨(some 13), .load 22 none (.tmp 12), none⟩,
  ⟨(some 14), .call 37 [(.tmp 13)] [22] .snap, none⟩,
  ⟨(some 3), .assign (.tmp 14), none⟩] 0 none) []
  (.seq (.region 4 [
  ⟨(some 15), .move (.tmp 3), none⟩,
  ⟨(some 16), .binOp .neq 27 (.tmp 15) (.const (.int .i64 0)) 27, none⟩] 0 none) []
  (.cond (.tmp 16)
  (.seq (.region 5 [
    ⟨(some 17), .move (.tmp 3), none⟩,
    ⟨(some 2), .assign (.tmp 17), none⟩] 0 none) []
    (.ret [0, 1, 3, 4, 5, 6, 7, 8, 9, 10, 11, 12, 13, 14, 15, 16, 17, 18, 19, 20, 21, 22, 23, 24, 25, 26, 27, 28, 29, 30, 31, 32, 33, 34, 35, 36, 37, 38, 39, 40, 41, 42, 43, 44, 45, 46, 47, 48, 49, 50, 51, 52, 53, 54, 55, 56, 57, 58, 59, 60, 61, 62, 63, 64, 65, 66, 67, 68, 69, 70, 71, 72, 73, 74, 75, 76, 77, 78, 79, 80, 81, 82, 83, 84, 85, 86, 87, 88, 89, 90, 91, 92]))
  .skip))) [2, 3, 12, 13, 14, 15, 16, 17]
  A14v11)
def A14 : AF := ⟨93, [.tmp 2],
  (.seq (.region 0 [
  ⟨(some 1), .box 0 25 (.tmp 0), none⟩,
  ⟨(some 2), .assign (.const (.int .i64 0)), none⟩] 1 none) []
  (.seq (.seq (.region 1 [
  ⟨(some 8), .fieldAddr 25 (.tmp 1) 1 1, none⟩,
  ⟨(some 9), .load 23 none (.tmp 8), none⟩,
  ⟨(some 10), .len 23 false (.tmp 9), none⟩,
  ⟨(some 11), .binOp .gtr 3 (.tmp 10) (.const (.int .i64 8)) 3, none⟩] 0 none) []
  (.cond (.tmp 11)
  (.seq (.region 2 [
    ⟨(some 2), .assign (.const (.int .i64 12)), none⟩] 0 none) []
    (.ret [0, 1, 3, 4, 5, 6, 7, 8, 9, 10, 11, 12, 13, 14, 15, 16, 17, 18, 19, 20, 21, 22, 23, 24, 25, 26, 27, 28, 29, 30, 31, 32, 33, 34, 35, 36, 37, 38, 39, 40, 41, 42, 43, 44, 45, 46, 47, 48, 49, 50, 51, 52, 53, 54, 55, 56, 57, 58, 59, 60, 61, 62, 63, 64, 65, 66, 67, 68, 69, 70, 71, 72, 73, 74, 75, 76, 77, 78, 79, 80, 81, 82, 83, 84, 85, 86, 87, 88, 89, 90, 91, 92]))
  .skip)) [2, 8, 9, 10, 11]
  A14v12))⟩

def B14v2 (C : Oracle) (fuel : Nat) {ρ : Type} : St → (Ex → St → Option ρ) → Option ρ := fun st k => evalC C fuel A14v3 st k
def N14v2 : St → Option St := fun s => s.norm [0, 2, 3, 6, 8, 9, 10, 11, 12, 13, 14, 15, 16, 17, 18, 19, 20, 21, 22, 23, 24, 25, 26, 27, 28, 29, 30, 31, 32, 33, 34, 35, 36, 37, 38, 39, 40, 41, 42, 43, 44, 45, 46, 47, 48, 49, 50, 51, 52, 53, 54, 55, 56, 57, 58, 59, 60, 61, 62, 63, 64, 65, 66, 67, 68, 69, 70, 71, 72, 73, 74, 75, 76, 77, 78, 79, 80, 81, 82, 83, 84, 85, 86, 87, 88, 89, 90, 91, 92] 1

def s14v0 (x40 : Int) (x41 : Nat) (x42 : Nat → Nat → CV) (x43 : Int) (x44 : Nat) (x45 : Nat → Nat → CV) (x46 : Nat) (x47 : Nat → Nat → CV) : St := ⟨[.u, .x (.ptr 0 0), .u, .u, .x (.c (.i .i64 x40)), .x (.c (.ro false (.pr (.int .i64) (.pr (.int .i64) .nil)) x41 x42)), .u, .x (.c (.i .i64 x43)), .u, .u, .u, .u, .u, .u, .u, .u, .u, .u, .u, .u, .u, .u, .u, .u, .u, .u, .u, .u, .u, .u, .u, .u, .u, .u, .u, .u, .u, .u, .u, .u, .u, .u, .u, .u, .u, .u, .u, .u, .u, .u, .u, .u, .u, .u, .u, .u, .u, .u, .u, .u, .u, .u, .u, .u, .u, .u, .u, .u, .u, .u, .u, .u, .u, .u, .u, .u, .u, .u, .u, .u, .u, .u, .u, .u, .u, .u, .u, .u, .u, .u, .u, .u, .u],
    [.box [(.c (.ro false (.pr (.int .i64) (.pr (.int .i64) .nil)) x44 x45)), (.c (.ro false (.pr (.sl (.pr (.int .i64) (.pr (.int .i64) .nil))) .nil) x46 x47))]]⟩

def s14v1 (x44 : Nat) (x45 : Nat → Nat → CV) (x46 : Nat) (x47 : Nat → Nat → CV) : St := ⟨[.u, .u, .x (.c (.i .i64 17)), .u, .u, .u, .u, .u, .u, .u, .u, .u, .u, .u, .u, .u, .u, .u, .u, .u, .u, .u, .u, .u, .u, .u, .u, .u, .u, .u, .u, .u, .u, .u, .u, .u, .u, .u, .u, .u, .u, .u, .u, .u, .u, .u, .u, .u, .u, .u, .u, .u, .u, .u, .u, .u, .u, .u, .u, .u, .u, .u, .u, .u, .u, .u, .u, .u, .u, .u, .u, .u, .u, .u, .u, .u, .u, .u, .u, .u, .u, .u, .u, .u, .u, .u, .u, .u, .u, .u, .u, .u, .u],
    [.box [(.c (.ro false (.pr (.int .i64) (.pr (.int .i64) .nil)) x44 x45)), (.c (.ro false (.pr (.sl (.pr (.int .i64) (.pr (.int .i64) .nil))) .nil) x46 x47))]]⟩

def s14v2 (x40 : Int) (x44 : Nat) (x45 : Nat → Nat → CV) (x46 : Nat) (x47 : Nat → Nat → CV) : St := ⟨[.u, .x (.ptr 0 0), .u, .u, .x (.c (.i .i64 x40)), .u, .u, .u, .u, .u, .u, .u, .u, .u, .u, .u, .u, .u, .u, .u, .u, .u, .u, .u, .u, .u, .u, .u, .u, .u, .u, .u, .u, .u, .u, .u, .u, .u, .u, .u, .u, .u, .u, .u, .u, .u, .u, .u, .u, .u, .u, .u, .u, .u, .u, .u, .u, .u, .u, .u, .u, .u, .u, .u, .u, .u, .u, .u, .u, .u, .u, .u, .u, .u, .u, .u, .u, .u, .u, .u, .u, .u, .u, .u, .u, .u, .u, .u, .u, .u, .u, .u, .u],
    [.box [(.c (.ro false (.pr (.int .i64) (.pr (.int .i64) .nil)) x44 x45)), (.c (.ro false (.pr (.sl (.pr (.int .i64) (.pr (.int .i64) .nil))) .nil) x46 x47))]]⟩

def L14v2 {ρ : Type} (fuel : Nat) (x40 : Int) (x41 : Nat) (x42 : Nat → Nat → CV) (x44 : Nat) (x45 : Nat → Nat → CV) (x46 : Nat) (x47 : Nat → Nat → CV) : Nat → Int → (Option ρ) → (Option ρ) → Option ρ
  | 0, _, _, _ => none
  | m + 1, x43, k0, k1 =>
    (bif (decide (x43 < x40)) then (bif (inb x43 x46) then (ob (F39 fuel x41 x42 (CV.len (x47 (Int.toNat x43) 0)) (CV.el (x47 (Int.toNat x43) 0))) fun x48 => (bif (x48 == false) then (bif (inb x43 x46) then (bif (inb 0 (CV.len (x47 (Int.toNat x43) 0))) then (ob (F40 fuel x41 x42 (CV.int ((CV.el (x47 (Int.toNat x43) 0)) 0 0)) (CV.int ((CV.el (x47 (Int.toNat x43) 0)) 0 1))) fun x49 => (bif ((x49 != (-1)) == false) then (bif (inb x43 x46) then (bif (inb 0 x41) then (ob (F40 fuel (CV.len (x47 (Int.toNat x43) 0)) (CV.el (x47 (Int.toNat x43) 0)) (CV.int (x42 0 0)) (CV.int (x42 0 1))) fun x50 => (bif (x50 != (-1)) then k0 else (L14v2 fuel x40 x41 x42 x44 x45 x46 x47 m (w64 (x43 + 1)) k0 k1))) else none) else none) else k0)) else none) else none) else k0)) else none) else k1)

theorem nl14v2 {ρ σ : Type} (fuel : Nat) (x40 : Int) (x41 : Nat) (x42 : Nat → Nat → CV) (x44 : Nat) (x45 : Nat → Nat → CV) (x46 : Nat) (x47 : Nat → Nat → CV) (g : ρ → Option σ) : ∀ (m : Nat) (x43 : Int) (k0 : Option ρ) (k1 : Option ρ), ob (L14v2 fuel x40 x41 x42 x44 x45 x46 x47 m x43 k0 k1) g = L14v2 fuel x40 x41 x42 x44 x45 x46 x47 m x43 (ob k0 g) (ob k1 g)
  | 0, _, _, _ => rfl
  | m + 1, x43, k0, k1 => by
    simp only [L14v2, ob_bif, ob_ob, ob_none, nl14v2 fuel x40 x41 x42 x44 x45 x46 x47 g m]

theorem r14v2 (fuel : Nat) (m : Nat) {ρ : Type} (k : Ex → St → Option ρ) (x40 : Int) (x41 : Nat) (x42 : Nat → Nat → CV) (x44 : Nat) (x45 : Nat → Nat → CV) (x46 : Nat) (x47 : Nat → Nat → CV) (x43 : Int) :
    loopH (B14v2 (C41 fuel) fuel) N14v2 (m + 1) (s14v0 x40 x41 x42 x43 x44 x45 x46 x47) k =
    (bif (decide (x43 < x40)) then (bif (inb x43 x46) then (ob (F39 fuel x41 x42 (CV.len (x47 (Int.toNat x43) 0)) (CV.el (x47 (Int.toNat x43) 0))) fun x48 => (bif (x48 == false) then (bif (inb x43 x46) then (bif (inb 0 (CV.len (x47 (Int.toNat x43) 0))) then (ob (F40 fuel x41 x42 (CV.int ((CV.el (x47 (Int.toNat x43) 0)) 0 0)) (CV.int ((CV.el (x47 (Int.toNat x43) 0)) 0 1))) fun x49 => (bif ((x49 != (-1)) == false) then (bif (inb x43 x46) then (bif (inb 0 x41) then (ob (F40 fuel (CV.len (x47 (Int.toNat x43) 0)) (CV.el (x47 (Int.toNat x43) 0)) (CV.int (x42 0 0)) (CV.int (x42 0 1))) fun x50 => (bif (x50 != (-1)) then (k .ret (s14v1 x44 x45 x46 x47)) else (loopH (B14v2 (C41 fuel) fuel) N14v2 m (s14v0 x40 x41 x42 (w64 (x43 + 1)) x44 x45 x46 x47) k))) else none) else none) else (k .ret (s14v1 x44 x45 x46 x47)))) else none) else none) else (k .ret (s14v1 x44 x45 x46 x47)))) else none) else (k (.exit 2) (s14v2 x40 x44 x45 x46 x47))) := by kernel_rfl

theorem q14v2 (fuel : Nat) (x40 : Int) (x41 : Nat) (x42 : Nat → Nat → CV) (x44 : Nat) (x45 : Nat → Nat → CV) (x46 : Nat) (x47 : Nat → Nat → CV) {ρ : Type} (k : Ex → St → Option ρ) : ∀ (m : Nat) (x43 : Int),
    loopH (B14v2 (C41 fuel) fuel) N14v2 m (s14v0 x40 x41 x42 x43 x44 x45 x46 x47) k = L14v2 fuel x40 x41 x42 x44 x45 x46 x47 m x43 (k .ret (s14v1 x44 x45 x46 x47)) (k (.exit 2) (s14v2 x40 x44 x45 x46 x47))
  | 0, _ => rfl
  | m + 1, x43 => by
    rw [r14v2]
    simp only [L14v2, q14v2 fuel x40 x41 x42 x44 x45 x46 x47 k m]

def B14v3 (C : Oracle) (fuel : Nat) {ρ : Type} : St → (Ex → St → Option ρ) → Option ρ := fun st k => evalC C fuel A14v8 st k
def N14v3 : St → Option St := fun s => s.norm [0, 2, 3, 5, 6, 7, 8, 9, 10, 11, 12, 13, 14, 15, 16, 17, 18, 19, 20, 21, 22, 23, 24, 25, 26, 27, 28, 29, 30, 31, 32, 33, 34, 35, 36, 37, 38, 39, 40, 41, 42, 43, 44, 45, 46, 47, 48, 49, 50, 51, 52, 53, 54, 55, 56, 57, 58, 59, 60, 61, 62, 63, 64, 65, 66, 67, 68, 69, 70, 71, 72, 73, 74, 75, 76, 77, 78, 79, 80, 81, 82, 83, 84, 85, 86, 87, 88, 89, 90, 91, 92] 1

def s14v3 (x21 : Int) (x22 : Nat) (x23 : Nat → Nat → CV) (x24 : Nat) (x25 : Nat → Nat → CV) : St := ⟨[.u, .x (.ptr 0 0), .u, .u, .x (.c (.i .i64 x21)), .u, .u, .u, .u, .u, .u, .u, .u, .u, .u, .u, .u, .u, .u, .u, .u, .u, .u, .u, .u, .u, .u, .u, .u, .u, .u, .u, .u, .u, .u, .u, .u, .u, .u, .u, .u, .u, .u, .u, .u, .u, .u, .u, .u, .u, .u, .u, .u, .u, .u, .u, .u, .u, .u, .u, .u, .u, .u, .u, .u, .u, .u, .u, .u, .u, .u, .u, .u, .u, .u, .u, .u, .u, .u, .u, .u, .u, .u, .u, .u, .u, .u, .u, .u, .u, .u, .u, .u],
    [.box [(.c (.ro false (.pr (.int .i64) (.pr (.int .i64) .nil)) x22 x23)), (.c (.ro false (.pr (.sl (.pr (.int .i64) (.pr (.int .i64) .nil))) .nil) x24 x25))]]⟩

def s14v4 (x51 : Int) (x22 : Nat) (x23 : Nat → Nat → CV) (x24 : Nat) (x25 : Nat → Nat → CV) : St := ⟨[.u, .u, .x (.c (.i .i64 x51)), .u, .u, .u, .u, .u, .u, .u, .u, .u, .u, .u, .u, .u, .u, .u, .u, .u, .u, .u, .u, .u, .u, .u, .u, .u, .u, .u, .u, .u, .u, .u, .u, .u, .u, .u, .u, .u, .u, .u, .u, .u, .u, .u, .u, .u, .u, .u, .u, .u, .u, .u, .u, .u, .u, .u, .u, .u, .u, .u, .u, .u, .u, .u, .u, .u, .u, .u, .u, .u, .u, .u, .u, .u, .u, .u, .u, .u, .u, .u, .u, .u, .u, .u, .u, .u, .u, .u, .u, .u, .u],
    [.box [(.c (.ro false (.pr (.int .i64) (.pr (.int .i64) .nil)) x22 x23)), (.c (.ro false (.pr (.sl (.pr (.int .i64) (.pr (.int .i64) .nil))) .nil) x24 x25))]]⟩

def s14v5 (x22 : Nat) (x23 : Nat → Nat → CV) (x24 : Nat) (x25 : Nat → Nat → CV) : St := ⟨[.u, .u, .u, .u, .u, .u, .u, .u, .u, .u, .u, .u, .u, .u, .u, .u, .u, .u, .u, .u, .u, .u, .u, .u, .u, .u, .u, .u, .u, .u, .u, .u, .u, .u, .u, .u, .u, .u, .u, .u, .u, .u, .u, .u, .u, .u, .u, .u, .u, .u, .u, .u, .u, .u, .u, .u, .u, .u, .u, .u, .u, .u, .u, .u, .u, .u, .u, .u, .u, .u, .u, .u, .u, .u, .u, .u, .u, .u, .u, .u, .u, .u, .u, .u, .u, .u, .u, .u, .u, .u, .u, .u, .u],
    [.box [(.c (.ro false (.pr (.int .i64) (.pr (.int .i64) .nil)) x22 x23)), (.c (.ro false (.pr (.sl (.pr (.int .i64) (.pr (.int .i64) .nil))) .nil) x24 x25))]]⟩

def L14v3 {ρ : Type} (fuel : Nat) (x22 : Nat) (x23 : Nat → Nat → CV) (x24 : Nat) (x25 : Nat → Nat → CV) : Nat → Int → (Int → Option ρ) → (Option ρ) → Option ρ
  | 0, _, _, _ => none
  | m + 1, x21, k0, k1 =>
    (bif (decide (x21 < (Int.ofNat x24))) then (bif (inb x21 x24) then (ob (F37 fuel (CV.len (x25 (Int.toNat x21) 0)) (CV.el (x25 (Int.toNat x21) 0))) fun x26 => (bif (x26 != 0) then (k0 x26) else (ob (F38 fuel (CV.len (x25 (Int.toNat x21) 0)) (CV.el (x25 (Int.toNat x21) 0))) fun x27 => (bif ((decide (x27 ≥ 0)) == false) then (ob (F39 fuel x22 x23 (CV.len (x25 (Int.toNat x21) 0)) (CV.el (x25 (Int.toNat x21) 0))) fun x28 => (bif (x28 == false) then (bif (inb 0 (CV.len (x25 (Int.toNat x21) 0))) then (ob (F40 fuel x22 x23 (CV.int ((CV.el (x25 (Int.toNat x21) 0)) 0 0)) (CV.int ((CV.el (x25 (Int.toNat x21) 0)) 0 1))) fun x29 => (bif (x29 != 1) then (k0 17) else (L14v2 fuel x21 (CV.len (x25 (Int.toNat x21) 0)) (CV.el (x25 (Int.toNat x21) 0)) x22 x23 x24 x25 fuel 0
    (k0 17)
    (L14v3 fuel x22 x23 x24 x25 m (w64 (x21 + 1)) k0 k1)))) else none) else (k0 17))) else (k0 17))))) else none) else k1)

theorem nl14v3 {ρ σ : Type} (fuel : Nat) (x22 : Nat) (x23 : Nat → Nat → CV) (x24 : Nat) (x25 : Nat → Nat → CV) (g : ρ → Option σ) : ∀ (m : Nat) (x21 : Int) (k0 : Int → Option ρ) (k1 : Option ρ), ob (L14v3 fuel x22 x23 x24 x25 m x21 k0 k1) g = L14v3 fuel x22 x23 x24 x25 m x21 (fun x51 => ob (k0 x51) g) (ob k1 g)
  | 0, _, _, _ => rfl
  | m + 1, x21, k0, k1 => by
    simp only [L14v3, ob_bif, ob_ob, ob_none, nl14v3 fuel x22 x23 x24 x25 g m, nl14v2]

def s14v6 (x21 : Int) (x25 : Nat → Nat → CV) (x24 : Nat) (x22 : Nat) (x23 : Nat → Nat → CV) : St := ⟨[.u, .x (.ptr 0 0), .u, .u, .x (.c (.i .i64 x21)), .x (.c (.ro false (.pr (.int .i64) (.pr (.int .i64) .nil)) (CV.len (x25 (Int.toNat x21) 0)) (CV.el (x25 (Int.toNat x21) 0)))), .u, .x (.c (.i .i64 0)), .u, .u, .u, .u, .u, .u, .u, .u, .u, .u, .u, .u, .u, .u, .u, .u, .u, .u, .u, .u, .u, .x (.ptr 0 1), .x (.c (.ro false (.pr (.sl (.pr (.int .i64) (.pr (.int .i64) .nil))) .nil) x24 x25)), .x (.c (.i .i64 x21)), .x (.c (.rp (.pr (.sl (.pr (.int .i64) (.pr (.int .i64) .nil))) .nil) (x25 (Int.toNat x21)))), .x (.c (.ro false (.pr (.int .i64) (.pr (.int .i64) .nil)) (CV.len (x25 (Int.toNat x21) 0)) (CV.el (x25 (Int.toNat x21) 0)))), .u, .u, .u, .u, .u, .u, .u, .u, .u, .u, .u, .u, .u, .u, .u, .u, .u, .u, .u, .u, .u, .u, .u, .u, .u, .u, .u, .u, .u, .u, .u, .u, .u, .u, .u, .u, .u, .u, .u, .u, .u, .u, .u, .u, .u, .u, .u, .u, .u, .u, .u, .u, .u, .u, .u, .u, .u, .u, .u],
    [.box [(.c (.ro false (.pr (.int .i64) (.pr (.int .i64) .nil)) x22 x23)), (.c (.ro false (.pr (.sl (.pr (.int .i64) (.pr (.int .i64) .nil))) .nil) x24 x25))]]⟩

theorem r14v3 (fuel : Nat) (m : Nat) {ρ : Type} (k : Ex → St → Option ρ) (x22 : Nat) (x23 : Nat → Nat → CV) (x24 : Nat) (x25 : Nat → Nat → CV) (x21 : Int) :
    loopH (B14v3 (C41 fuel) fuel) N14v3 (m + 1) (s14v3 x21 x22 x23 x24 x25) k =
    (bif (decide (x21 < (Int.ofNat x24))) then (bif (inb x21 x24) then (ob (F37 fuel (CV.len (x25 (Int.toNat x21) 0)) (CV.el (x25 (Int.toNat x21) 0))) fun x26 => (bif (x26 != 0) then (k .ret (s14v4 x26 x22 x23 x24 x25)) else (ob (F38 fuel (CV.len (x25 (Int.toNat x21) 0)) (CV.el (x25 (Int.toNat x21) 0))) fun x27 => (bif ((decide (x27 ≥ 0)) == false) then (ob (F39 fuel x22 x23 (CV.len (x25 (Int.toNat x21) 0)) (CV.el (x25 (Int.toNat x21) 0))) fun x28 => (bif (x28 == false) then (bif (inb 0 (CV.len (x25 (Int.toNat x21) 0))) then (ob (F40 fuel x22 x23 (CV.int ((CV.el (x25 (Int.toNat x21) 0)) 0 0)) (CV.int ((CV.el (x25 (Int.toNat x21) 0)) 0 1))) fun x29 => (bif (x29 != 1) then (k .ret (s14v4 17 x22 x23 x24 x25)) else (loopN (B14v2 (C41 fuel) fuel) N14v2 fuel (s14v6 x21 x25 x24 x22 x23) (kBlk 2 (kBlk 1 (kSeq (C41 fuel) fuel [2, 5, 6, 7, 29, 30, 31, 32, 33, 34, 35, 36, 37, 38, 39, 40, 41, 42, 43, 44, 45, 46, 47, 48, 49, 50, 51, 52, 53, 54, 55, 56, 57, 58, 59, 60, 61, 62, 63, 64, 65, 66, 67, 68, 69, 70, 71, 72, 73, 74, 75, 76, 77, 78, 79, 80, 81, 82, 83, 84, 85, 86, 87, 88, 89, 90, 91, 92] A14v6 (kLoop (B14v3 (C41 fuel) fuel) N14v3 m k))))))) else none) else (k .ret (s14v4 17 x22 x23 x24 x25)))) else (k .ret (s14v4 17 x22 x23 x24 x25)))))) else none) else (k (.exit 0) (s14v5 x22 x23 x24 x25))) := by kernel_rfl

theorem t14v1 (fuel : Nat) {ρ : Type} (k : Ex → St → Option ρ) (x21 : Int) (x25 : Nat → Nat → CV) (x24 : Nat) (x22 : Nat) (x23 : Nat → Nat → CV) :
    loopN (B14v2 (C41 fuel) fuel) N14v2 fuel (s14v6 x21 x25 x24 x22 x23) k =
    L14v2 fuel x21 (CV.len (x25 (Int.toNat x21) 0)) (CV.el (x25 (Int.toNat x21) 0)) x22 x23 x24 x25 fuel 0 (k .ret (s14v1 x22 x23 x24 x25)) (k (.exit 2) (s14v2 x21 x22 x23 x24 x25)) :=
  (loopN_at (st' := (s14v0 x21 (CV.len (x25 (Int.toNat x21) 0)) (CV.el (x25 (Int.toNat x21) 0)) 0 x22 x23 x24 x25)) (by kernel_rfl)).trans (q14v2 fuel x21 (CV.len (x25 (Int.toNat x21) 0)) (CV.el (x25 (Int.toNat x21) 0)) x22 x23 x24 x25 k fuel 0)

theorem g14v2 (fuel : Nat) (m : Nat) {ρ : Type} (k : Ex → St → Option ρ) (x22 : Nat) (x23 : Nat → Nat → CV) (x24 : Nat) (x25 : Nat → Nat → CV) :
    (kBlk 2 (kBlk 1 (kSeq (C41 fuel) fuel [2, 5, 6, 7, 29, 30, 31, 32, 33, 34, 35, 36, 37, 38, 39, 40, 41, 42, 43, 44, 45, 46, 47, 48, 49, 50, 51, 52, 53, 54, 55, 56, 57, 58, 59, 60, 61, 62, 63, 64, 65, 66, 67, 68, 69, 70, 71, 72, 73, 74, 75, 76, 77, 78, 79, 80, 81, 82, 83, 84, 85, 86, 87, 88, 89, 90, 91, 92] A14v6 (kLoop (B14v3 (C41 fuel) fuel) N14v3 m k)))) .ret (s14v1 x22 x23 x24 x25) =
    (k .ret (s14v4 17 x22 x23 x24 x25)) := by kernel_rfl

theorem g14v3 (fuel : Nat) (m : Nat) {ρ : Type} (k : Ex → St → Option ρ) (x21 : Int) (x22 : Nat) (x23 : Nat → Nat → CV) (x24 : Nat) (x25 : Nat → Nat → CV) :
    (kBlk 2 (kBlk 1 (kSeq (C41 fuel) fuel [2, 5, 6, 7, 29, 30, 31, 32, 33, 34, 35, 36, 37, 38, 39, 40, 41, 42, 43, 44, 45, 46, 47, 48, 49, 50, 51, 52, 53, 54, 55, 56, 57, 58, 59, 60, 61, 62, 63, 64, 65, 66, 67, 68, 69, 70, 71, 72, 73, 74, 75, 76, 77, 78, 79, 80, 81, 82, 83, 84, 85, 86, 87, 88, 89, 90, 91, 92] A14v6 (kLoop (B14v3 (C41 fuel) fuel) N14v3 m k)))) (.exit 2) (s14v2 x21 x22 x23 x24 x25) =
    (loopH (B14v3 (C41 fuel) fuel) N14v3 m (s14v3 (w64 (x21 + 1)) x22 x23 x24 x25) k) := by kernel_rfl

theorem q14v3 (fuel : Nat) (x22 : Nat) (x23 : Nat → Nat → CV) (x24 : Nat) (x25 : Nat → Nat → CV) {ρ : Type} (k : Ex → St → Option ρ) : ∀ (m : Nat) (x21 : Int),
    loopH (B14v3 (C41 fuel) fuel) N14v3 m (s14v3 x21 x22 x23 x24 x25) k = L14v3 fuel x22 x23 x24 x25 m x21 (fun x51 => k .ret (s14v4 x51 x22 x23 x24 x25)) (k (.exit 0) (s14v5 x22 x23 x24 x25))
  | 0, _ => rfl
  | m + 1, x21 => by
    rw [r14v3]
    simp only [L14v3, q14v3 fuel x22 x23 x24 x25 k m, t14v1, g14v2, g14v3]

def D14 {ρ : Type} (fuel : Nat) (x1 : Nat) (x2 : Nat → Nat → CV) (x3 : Nat) (x4 : Nat → Nat → CV) (k : Int → Option ρ) : Option ρ :=
  (bif (decide ((Int.ofNat x3) > 8)) then (k 12) else (ob (F37 fuel x1 x2) fun x5 => (bif (x5 != 0) then (k x5) else (ob (F38 fuel x1 x2) fun x6 => (bif (decide (x6 ≤ 0)) then (k 17) else (L14v3 fuel x1 x2 x3 x4 fuel 0
    (fun x52 => (k x52))
    (k 0)))))))

def F14 (fuel : Nat) (x1 : Nat) (x2 : Nat → Nat → CV) (x3 : Nat) (x4 : Nat → Nat → CV) : Option (Int) := D14 fuel x1 x2 x3 x4 some

theorem n14 {ρ σ : Type} (fuel : Nat) (x1 : Nat) (x2 : Nat → Nat → CV) (x3 : Nat) (x4 : Nat → Nat → CV) (k : (Int) → Option ρ) (g : ρ → Option σ) : ob (D14 fuel x1 x2 x3 x4 k) g = D14 fuel x1 x2 x3 x4 fun t => ob (k t) g := by
  simp only [D14, ob_bif, ob_ob, ob_none, nl14v3]

theorem f14 {ρ : Type} (fuel : Nat) (x1 : Nat) (x2 : Nat → Nat → CV) (x3 : Nat) (x4 : Nat → Nat → CV) (k : (Int) → Option ρ) : D14 fuel x1 x2 x3 x4 k = ob (F14 fuel x1 x2 x3 x4) k := by
  unfold F14
  rw [n14]
  simp only [ob_some]

def s14v7 (x1 : Nat) (x2 : Nat → Nat → CV) (x3 : Nat) (x4 : Nat → Nat → CV) : St := ⟨[.agg [(.c (.ro false (.pr (.int .i64) (.pr (.int .i64) .nil)) x1 x2)), (.c (.ro false (.pr (.sl (.pr (.int .i64) (.pr (.int .i64) .nil))) .nil) x3 x4))], .x (.ptr 0 0), .u, .u, .x (.c (.i .i64 0)), .undef, .undef, .undef, .u, .u, .u, .u, .u, .u, .u, .u, .u, .u, .u, .u, .u, .u, .undef, .undef, .undef, .undef, .undef, .undef, .undef, .undef, .undef, .undef, .undef, .undef, .undef, .undef, .undef, .undef, .undef, .undef, .undef, .undef, .undef, .undef, .undef, .undef, .undef, .undef, .undef, .undef, .undef, .undef, .undef, .undef, .undef, .undef, .undef, .undef, .undef, .undef, .undef, .undef, .undef, .undef, .undef, .undef, .undef, .undef, .undef, .undef, .undef, .undef, .undef, .undef, .undef, .undef, .undef, .undef, .undef, .undef, .undef, .undef, .undef, .undef, .undef, .undef, .undef, .undef, .undef, .undef, .undef, .undef, .undef],
    [.box [(.c (.ro false (.pr (.int .i64) (.pr (.int .i64) .nil)) x1 x2)), (.c (.ro false (.pr (.sl (.pr (.int .i64) (.pr (.int .i64) .nil))) .nil) x3 x4))]]⟩

theorem walk14 (fuel : Nat) (x1 : Nat) (x2 : Nat → Nat → CV) (x3 : Nat) (x4 : Nat → Nat → CV) :
    evalF (C41 fuel) fuel A14 [.agg [(.ro false (.pr (.int .i64) (.pr (.int .i64) .nil)) x1 x2), (.ro false (.pr (.sl (.pr (.int .i64) (.pr (.int .i64) .nil))) .nil) x3 x4)]] =
    (bif (decide ((Int.ofNat x3) > 8)) then (some [.v (.i .i64 12)]) else (ob (F37 fuel x1 x2) fun x5 => (bif (x5 != 0) then (some [.v (.i .i64 x5)]) else (ob (F38 fuel x1 x2) fun x6 => (bif (decide (x6 ≤ 0)) then (some [.v (.i .i64 17)]) else (loopN (B14v3 (C41 fuel) fuel) N14v3 fuel (s14v7 x1 x2 x3 x4) (kBlk 0 (kSeq (C41 fuel) fuel [2, 4, 5, 6, 7, 22, 23, 24, 25, 26, 27, 28, 29, 30, 31, 32, 33, 34, 35, 36, 37, 38, 39, 40, 41, 42, 43, 44, 45, 46, 47, 48, 49, 50, 51, 52, 53, 54, 55, 56, 57, 58, 59, 60, 61, 62, 63, 64, 65, 66, 67, 68, 69, 70, 71, 72, 73, 74, 75, 76, 77, 78, 79, 80, 81, 82, 83, 84, 85, 86, 87, 88, 89, 90, 91, 92] A14v9 (finish A14))))))))) := by kernel_rfl

theorem t14v4 (fuel : Nat) {ρ : Type} (k : Ex → St → Option ρ) (x1 : Nat) (x2 : Nat → Nat → CV) (x3 : Nat) (x4 : Nat → Nat → CV) :
    loopN (B14v3 (C41 fuel) fuel) N14v3 fuel (s14v7 x1 x2 x3 x4) k =
    L14v3 fuel x1 x2 x3 x4 fuel 0 (fun x51 => k .ret (s14v4 x51 x1 x2 x3 x4)) (k (.exit 0) (s14v5 x1 x2 x3 x4)) :=
  (loopN_at (st' := (s14v3 0 x1 x2 x3 x4)) (by kernel_rfl)).trans (q14v3 fuel x1 x2 x3 x4 k fuel 0)

theorem g14v5 (fuel : Nat) (x52 : Int) (x1 : Nat) (x2 : Nat → Nat → CV) (x3 : Nat) (x4 : Nat → Nat → CV) :
    (kBlk 0 (kSeq (C41 fuel) fuel [2, 4, 5, 6, 7, 22, 23, 24, 25, 26, 27, 28, 29, 30, 31, 32, 33, 34, 35, 36, 37, 38, 39, 40, 41, 42, 43, 44, 45, 46, 47, 48, 49, 50, 51, 52, 53, 54, 55, 56, 57, 58, 59, 60, 61, 62, 63, 64, 65, 66, 67, 68, 69, 70, 71, 72, 73, 74, 75, 76, 77, 78, 79, 80, 81, 82, 83, 84, 85, 86, 87, 88, 89, 90, 91, 92] A14v9 (finish A14))) .ret (s14v4 x52 x1 x2 x3 x4) =
    (some [.v (.i .i64 x52)]) := by kernel_rfl

theorem g14v6 (fuel : Nat) (x1 : Nat) (x2 : Nat → Nat → CV) (x3 : Nat) (x4 : Nat → Nat → CV) :
    (kBlk 0 (kSeq (C41 fuel) fuel [2, 4, 5, 6, 7, 22, 23, 24, 25, 26, 27, 28, 29, 30, 31, 32, 33, 34, 35, 36, 37, 38, 39, 40, 41, 42, 43, 44, 45, 46, 47, 48, 49, 50, 51, 52, 53, 54, 55, 56, 57, 58, 59, 60, 61, 62, 63, 64, 65, 66, 67, 68, 69, 70, 71, 72, 73, 74, 75, 76, 77, 78, 79, 80, 81, 82, 83, 84, 85, 86, 87, 88, 89, 90, 91, 92] A14v9 (finish A14))) (.exit 0) (s14v5 x1 x2 x3 x4) =
    (some [.v (.i .i64 0)]) := by kernel_rfl

theorem e14 (fuel : Nat) (x1 : Nat) (x2 : Nat → Nat → CV) (x3 : Nat) (x4 : Nat → Nat → CV) : evalF (C41 fuel) fuel A14 [.agg [(.ro false (.pr (.int .i64) (.pr (.int .i64) .nil)) x1 x2), (.ro false (.pr (.sl (.pr (.int .i64) (.pr (.int .i64) .nil))) .nil) x3 x4)]] = ob (F14 fuel x1 x2 x3 x4) fun t => some [.v (.i .i64 t)] := by
  rw [walk14, ← f14]
  simp only [D14, t14v4, g14v5, g14v6]

def O14 (fuel : Nat) : Ora where
  o := fun args {ρ} K =>
    wc args fun a1 l2 =>
    wagg a1 fun l3 =>
    wc l3 fun c4 l5 =>
    wL (.pr (.int .i64) (.pr (.int .i64) .nil)) c4 fun y6 y7 =>
    wc l5 fun c9 l10 =>
    wL (.pr (.sl (.pr (.int .i64) (.pr (.int .i64) .nil))) .nil) c9 fun y11 y12 =>
    wn l10 <|
    wn l2 <|
    (ob (F14 fuel y6 y7 y11 y12) fun t => K [.v (.i .i64 t)])
  nat := fun args {ρ} K => by
    simp only [bind_wc, bind_wn, bind_wv, bind_wagg, bind_wI, bind_wB, bind_wS, bind_wL, bind_wP, bind_wFn, bind_ob, Option.bind_some]

theorem d14 {P : Program} (fuel : Nat) (hmix : P.follows .mixedOrders = true) (hC : Sound P (C41 fuel)) (hF : FFits P 14 A14) (args res : List A) (h : (O14 fuel).o args some = some res) : Den P 14 args res := by
  obtain ⟨a1, l2, rfl, z0⟩ := inv_wc h
  obtain ⟨l3, rfl, z1⟩ := inv_wagg z0
  obtain ⟨c4, l5, rfl, z2⟩ := inv_wc z1
  obtain ⟨y6, y7, h8, z3⟩ := inv_wL z2
  obtain ⟨c9, l10, rfl, z4⟩ := inv_wc z3
  obtain ⟨y11, y12, h13, z5⟩ := inv_wL z4
  obtain ⟨hn, z6⟩ := inv_wn z5
  cases hn
  obtain ⟨hn, z7⟩ := inv_wn z6
  cases hn
  exact Den.weaken (.cons (WkA.agg (.cons h8 (.cons h13 .nil))) .nil) (evalF_sound hmix hC hF ((e14 fuel y6 y7 y11 y12).trans z7))

def C42 (fuel : Nat) : Oracle := (C41 fuel).add 14 (fun _ => true) (O14 fuel)

/-- shipyard/shipyardlaw13.square -/
def A41 : AF := ⟨28, [.tmp 6],
  (.seq (.region 0 [
  ⟨(some 6), .assign (.const (.slice none 0 0)), none⟩] 0 none) []
  (.seq (.region 1 [
  ⟨(some 7), .move (.tmp 0), none⟩,
  ⟨(some 8), .move (.tmp 1), none⟩,
  ⟨(some 9), .build 34 [.c (.i .i64 0), .c (.i .i64 0)] [(0, 1), (1, 1)] 0 [(0, (.tmp 7)), (1, (.tmp 8))], none⟩,
  ⟨(some 10), .move (.tmp 0), none⟩,
  ⟨(some 11), .move (.tmp 2), none⟩,
  ⟨(some 12), .binOp .add 3 (.tmp 10) (.tmp 11) 3, none⟩,
  ⟨(some 13), .move (.tmp 1), none⟩,
  ⟨(some 14), .build 34 [.c (.i .i64 0), .c (.i .i64 0)] [(0, 1), (1, 1)] 0 [(0, (.tmp 12)), (1, (.tmp 13))], none⟩,
  ⟨(some 15), .move (.tmp 0), none⟩,
  ⟨(some 16), .move (.tmp 2), none⟩,
  ⟨(some 17), .binOp .add 3 (.tmp 15) (.tmp 16) 3, none⟩,
  ⟨(some 18), .move (.tmp 1), none⟩,
  ⟨(some 19), .move (.tmp 2), none⟩,
  ⟨(some 20), .binOp .add 3 (.tmp 18) (.tmp 19) 3, none⟩,
  ⟨(some 21), .build 34 [.c (.i .i64 0), .c (.i .i64 0)] [(0, 1), (1, 1)] 0 [(0, (.tmp 17)), (1, (.tmp 20))], none⟩,
  ⟨(some 22), .move (.tmp 0), none⟩,
  ⟨(some 23), .move (.tmp 1), none⟩,
  ⟨(some 24), .move (.tmp 2), none⟩,
  ⟨(some 25), .binOp .add 3 (.tmp 23) (.tmp 24) 3, none⟩,
  ⟨(some 26), .build 34 [.c (.i .i64 0), .c (.i .i64 0)] [(0, 1), (1, 1)] 0 [(0, (.tmp 22)), (1, (.tmp 25))], none⟩,
  ⟨(some 27), .buildSlice 0 22 34 (.pr (.int .i64) (.pr (.int .i64) .nil)) 4 [.c (.i .i64 0), .c (.i .i64 0)] [(0, (.tmp 9)), (1, (.tmp 14)), (2, (.tmp 21)), (3, (.tmp 26))], none⟩,
  ⟨(some 6), .assign (.tmp 27), none⟩] 1 none) []
  (.ret [0, 1, 2, 3, 4, 5, 7, 8, 9, 10, 11, 12, 13, 14, 15, 16, 17, 18, 19, 20, 21, 22, 23, 24, 25, 26, 27])))⟩

def D41 {ρ : Type} (fuel : Nat) (x1 : Int) (x2 : Int) (x3 : Int) (k : (Nat × (Nat → Nat → CV)) → Option ρ) : Option ρ :=
  (k (4, (rowsF 2 [(.i .i64 x1), (.i .i64 x2), (.i .i64 (w64 (x1 + x3))), (.i .i64 x2), (.i .i64 (w64 (x1 + x3))), (.i .i64 (w64 (x2 + x3))), (.i .i64 x1), (.i .i64 (w64 (x2 + x3)))])))

def F41 (fuel : Nat) (x1 : Int) (x2 : Int) (x3 : Int) : Option (Nat × (Nat → Nat → CV)) := D41 fuel x1 x2 x3 some

theorem n41 {ρ σ : Type} (fuel : Nat) (x1 : Int) (x2 : Int) (x3 : Int) (k : (Nat × (Nat → Nat → CV)) → Option ρ) (g : ρ → Option σ) : ob (D41 fuel x1 x2 x3 k) g = D41 fuel x1 x2 x3 fun t => ob (k t) g := by
  simp only [D41, ob_bif, ob_ob, ob_none]

theorem f41 {ρ : Type} (fuel : Nat) (x1 : Int) (x2 : Int) (x3 : Int) (k : (Nat × (Nat → Nat → CV)) → Option ρ) : D41 fuel x1 x2 x3 k = ob (F41 fuel x1 x2 x3) k := by
  unfold F41
  rw [n41]
  simp only [ob_some]

theorem walk41 (fuel : Nat) (x1 : Int) (x2 : Int) (x3 : Int) :
    evalF (C42 fuel) fuel A41 [.v (.i .i64 x1), .v (.i .i64 x2), .v (.i .i64 x3)] =
    (some [.v (.ro false (.pr (.int .i64) (.pr (.int .i64) .nil)) 4 (rowsF 2 [(.i .i64 x1), (.i .i64 x2), (.i .i64 (w64 (x1 + x3))), (.i .i64 x2), (.i .i64 (w64 (x1 + x3))), (.i .i64 (w64 (x2 + x3))), (.i .i64 x1), (.i .i64 (w64 (x2 + x3)))]))]) := by kernel_rfl

theorem e41 (fuel : Nat) (x1 : Int) (x2 : Int) (x3 : Int) : evalF (C42 fuel) fuel A41 [.v (.i .i64 x1), .v (.i .i64 x2), .v (.i .i64 x3)] = ob (F41 fuel x1 x2 x3) fun t => some [.v (.ro false (.pr (.int .i64) (.pr (.int .i64) .nil)) t.1 t.2)] := by
  rw [walk41, ← f41]
  simp only [D41]

def O41 (fuel : Nat) : Ora where
  o := fun args {ρ} K =>
    wc args fun a1 l2 =>
    wv a1 fun c3 =>
    wI .i64 c3 fun y4 =>
    wc l2 fun a6 l7 =>
    wv a6 fun c8 =>
    wI .i64 c8 fun y9 =>
    wc l7 fun a11 l12 =>
    wv a11 fun c13 =>
    wI .i64 c13 fun y14 =>
    wn l12 <|
    (ob (F41 fuel y4 y9 y14) fun t => K [.v (.ro false (.pr (.int .i64) (.pr (.int .i64) .nil)) t.1 t.2)])
  nat := fun args {ρ} K => by
    simp only [bind_wc, bind_wn, bind_wv, bind_wagg, bind_wI, bind_wB, bind_wS, bind_wL, bind_wP, bind_wFn, bind_ob, Option.bind_some]

theorem d41 {P : Program} (fuel : Nat) (hmix : P.follows .mixedOrders = true) (hC : Sound P (C42 fuel)) (hF : FFits P 41 A41) (args res : List A) (h : (O41 fuel).o args some = some res) : Den P 41 args res := by
  obtain ⟨a1, l2, rfl, z0⟩ := inv_wc h
  obtain ⟨c3, rfl, z1⟩ := inv_wv z0
  obtain ⟨y4, h5, z2⟩ := inv_wI z1
  obtain ⟨a6, l7, rfl, z3⟩ := inv_wc z2
  obtain ⟨c8, rfl, z4⟩ := inv_wv z3
  obtain ⟨y9, h10, z5⟩ := inv_wI z4
  obtain ⟨a11, l12, rfl, z6⟩ := inv_wc z5
  obtain ⟨c13, rfl, z7⟩ := inv_wv z6
  obtain ⟨y14, h15, z8⟩ := inv_wI z7
  obtain ⟨hn, z9⟩ := inv_wn z8
  cases hn
  exact Den.weaken (.cons (WkA.v (Wk.i h5)) (.cons (WkA.v (Wk.i h10)) (.cons (WkA.v (Wk.i h15)) .nil))) (evalF_sound hmix hC hF ((e41 fuel y4 y9 y14).trans z9))

def C43 (fuel : Nat) : Oracle := (C42 fuel).add 41 (fun _ => true) (O41 fuel)

/-- shipyard/region.far -/
def A49 : AF := ⟨21, [.tmp 2],
  (.seq (.region 0 [
  ⟨(some 1), .box 0 34 (.tmp 0), none⟩,
  ⟨(some 2), .assign (.const (.bool false)), none⟩] 1 none) []
  (.seq (.region 1 [
  ⟨(some 3), .fieldAddr 34 (.tmp 1) 0 0, none⟩,
  ⟨(some 4), .load 3 none (.tmp 3), none⟩,
  ⟨(some 5), .binOp .lss 3 (.tmp 4) (.const (.int .i64 (-1099511627776))) 3, none⟩,
  ⟨(some 6), .move (.tmp 5), none⟩,
  ⟨(some 7), .fieldAddr 34 (.tmp 1) 0 0, (some (6, false))⟩,
  ⟨(some 8), .load 3 none (.tmp 7), (some (6, false))⟩,
  ⟨(some 9), .binOp .gtr 3 (.tmp 8) (.const (.int .i64 1099511627776)) 3, (some (6, false))⟩,
  ⟨(some 10), .pick (.tmp 6) (.const (.bool true)) (.tmp 9), none⟩,
  ⟨(some 11), .move (.tmp 10), none⟩,
  ⟨(some 12), .fieldAddr 34 (.tmp 1) 1 1, (some (11, false))⟩,
  ⟨(some 13), .load 3 none (.tmp 12), (some (11, false))⟩,
  ⟨(some 14), .binOp .lss 3 (.tmp 13) (.const (.int .i64 (-1099511627776))) 3, (some (11, false))⟩,
  ⟨(some 15), .pick (.tmp 11) (.const (.bool true)) (.tmp 14), none⟩,
  ⟨(some 16), .move (.tmp 15), none⟩,
  ⟨(some 17), .fieldAddr 34 (.tmp 1) 1 1, (some (16, false))⟩,
  ⟨(some 18), .load 3 none (.tmp 17), (some (16, false))⟩,
  ⟨(some 19), .binOp .gtr 3 (.tmp 18) (.const (.int .i64 1099511627776)) 3, (some (16, false))⟩,
  ⟨(some 20), .pick (.tmp 16) (.const (.bool true)) (.tmp 19), none⟩,
  ⟨(some 2), .assign (.tmp 20), none⟩] 0 none) []
  (.ret [0, 1, 3, 4, 5, 6, 7, 8, 9, 10, 11, 12, 13, 14, 15, 16, 17, 18, 19, 20])))⟩

def D49 {ρ : Type} (fuel : Nat) (x1 : Int) (x2 : Int) (k : Bool → Option ρ) : Option ρ :=
  (bif ((decide (x1 < (-1099511627776))) == false) then (bif ((decide (x1 > 1099511627776)) == false) then (bif ((decide (x2 < (-1099511627776))) == false) then (k (decide (x2 > 1099511627776))) else (k true)) else (k true)) else (k true))

def F49 (fuel : Nat) (x1 : Int) (x2 : Int) : Option (Bool) := D49 fuel x1 x2 some

theorem n49 {ρ σ : Type} (fuel : Nat) (x1 : Int) (x2 : Int) (k : (Bool) → Option ρ) (g : ρ → Option σ) : ob (D49 fuel x1 x2 k) g = D49 fuel x1 x2 fun t => ob (k t) g := by
  simp only [D49, ob_bif, ob_ob, ob_none]

theorem f49 {ρ : Type} (fuel : Nat) (x1 : Int) (x2 : Int) (k : (Bool) → Option ρ) : D49 fuel x1 x2 k = ob (F49 fuel x1 x2) k := by
  unfold F49
  rw [n49]
  simp only [ob_some]

theorem walk49 (fuel : Nat) (x1 : Int) (x2 : Int) :
    evalF (C43 fuel) fuel A49 [.agg [(.i .i64 x1), (.i .i64 x2)]] =
    (bif ((decide (x1 < (-1099511627776))) == false) then (bif ((decide (x1 > 1099511627776)) == false) then (bif ((decide (x2 < (-1099511627776))) == false) then (some [.v (.b (decide (x2 > 1099511627776)))]) else (some [.v (.b true)])) else (some [.v (.b true)])) else (some [.v (.b true)])) := by kernel_rfl

theorem e49 (fuel : Nat) (x1 : Int) (x2 : Int) : evalF (C43 fuel) fuel A49 [.agg [(.i .i64 x1), (.i .i64 x2)]] = ob (F49 fuel x1 x2) fun t => some [.v (.b t)] := by
  rw [walk49, ← f49]
  simp only [D49]

def O49 (fuel : Nat) : Ora where
  o := fun args {ρ} K =>
    wc args fun a1 l2 =>
    wagg a1 fun l3 =>
    wc l3 fun c4 l5 =>
    wI .i64 c4 fun y6 =>
    wc l5 fun c8 l9 =>
    wI .i64 c8 fun y10 =>
    wn l9 <|
    wn l2 <|
    (ob (F49 fuel y6 y10) fun t => K [.v (.b t)])
  nat := fun args {ρ} K => by
    simp only [bind_wc, bind_wn, bind_wv, bind_wagg, bind_wI, bind_wB, bind_wS, bind_wL, bind_wP, bind_wFn, bind_ob, Option.bind_some]

theorem d49 {P : Program} (fuel : Nat) (hmix : P.follows .mixedOrders = true) (hC : Sound P (C43 fuel)) (hF : FFits P 49 A49) (args res : List A) (h : (O49 fuel).o args some = some res) : Den P 49 args res := by
  obtain ⟨a1, l2, rfl, z0⟩ := inv_wc h
  obtain ⟨l3, rfl, z1⟩ := inv_wagg z0
  obtain ⟨c4, l5, rfl, z2⟩ := inv_wc z1
  obtain ⟨y6, h7, z3⟩ := inv_wI z2
  obtain ⟨c8, l9, rfl, z4⟩ := inv_wc z3
  obtain ⟨y10, h11, z5⟩ := inv_wI z4
  obtain ⟨hn, z6⟩ := inv_wn z5
  cases hn
  obtain ⟨hn, z7⟩ := inv_wn z6
  cases hn
  exact Den.weaken (.cons (WkA.agg (.cons (Wk.i h7) (.cons (Wk.i h11) .nil))) .nil) (evalF_sound hmix hC hF ((e49 fuel y6 y10).trans z7))

def C44 (fuel : Nat) : Oracle := (C43 fuel).add 49 (fun _ => true) (O49 fuel)

/-- shipyard/region.contours -/
def A42 : AF := ⟨9, [.tmp 2],
  (.seq (.region 0 [
  ⟨(some 1), .box 0 25 (.tmp 0), none⟩,
  ⟨(some 2), .assign (.const (.slice none 0 0)), none⟩] 1 none) []
  (.seq (.region 1 [
  ⟨(some 3), .fieldAddr 25 (.tmp 1) 0 0, none⟩,
  ⟨(some 4), .load 22 none (.tmp 3), none⟩,
  ⟨(some 5), .buildSlice 0 23 22 (.pr (.sl (.pr (.int .i64) (.pr (.int .i64) .nil))) .nil) 1 [.c (.ro true .nil 0 (fun _ _ => .any))] [(0, (.tmp 4))], none⟩,
  ⟨(some 6), .fieldAddr 25 (.tmp 1) 1 1, none⟩,
  ⟨(some 7), .load 23 none (.tmp 6), none⟩,
  ⟨(some 8), .append 1 23 22 (.pr (.sl (.pr (.int .i64) (.pr (.int .i64) .nil))) .nil) 24 (.tmp 5) (.tmp 7), none⟩,
  ⟨(some 2), .assign (.tmp 8), none⟩] 2 none) []
  (.ret [0, 1, 3, 4, 5, 6, 7, 8])))⟩

def D42 {ρ : Type} (fuel : Nat) (x1 : Nat) (x2 : Nat → Nat → CV) (x3 : Nat) (x4 : Nat → Nat → CV) (k : (Nat × (Nat → Nat → CV)) → Option ρ) : Option ρ :=
  (bif (Nat.ble (1 + x3) 1073741824) then (k ((1 + x3), (joinF 1 (rowsF 1 [(.ro false (.pr (.int .i64) (.pr (.int .i64) .nil)) x1 x2)]) x4))) else none)

def F42 (fuel : Nat) (x1 : Nat) (x2 : Nat → Nat → CV) (x3 : Nat) (x4 : Nat → Nat → CV) : Option (Nat × (Nat → Nat → CV)) := D42 fuel x1 x2 x3 x4 some

theorem n42 {ρ σ : Type} (fuel : Nat) (x1 : Nat) (x2 : Nat → Nat → CV) (x3 : Nat) (x4 : Nat → Nat → CV) (k : (Nat × (Nat → Nat → CV)) → Option ρ) (g : ρ → Option σ) : ob (D42 fuel x1 x2 x3 x4 k) g = D42 fuel x1 x2 x3 x4 fun t => ob (k t) g := by
  simp only [D42, ob_bif, ob_ob, ob_none]

theorem f42 {ρ : Type} (fuel : Nat) (x1 : Nat) (x2 : Nat → Nat → CV) (x3 : Nat) (x4 : Nat → Nat → CV) (k : (Nat × (Nat → Nat → CV)) → Option ρ) : D42 fuel x1 x2 x3 x4 k = ob (F42 fuel x1 x2 x3 x4) k := by
  unfold F42
  rw [n42]
  simp only [ob_some]

theorem walk42 (fuel : Nat) (x1 : Nat) (x2 : Nat → Nat → CV) (x3 : Nat) (x4 : Nat → Nat → CV) :
    evalF (C44 fuel) fuel A42 [.agg [(.ro false (.pr (.int .i64) (.pr (.int .i64) .nil)) x1 x2), (.ro false (.pr (.sl (.pr (.int .i64) (.pr (.int .i64) .nil))) .nil) x3 x4)]] =
    (bif (Nat.ble (1 + x3) 1073741824) then (some [.v (.ro false (.pr (.sl (.pr (.int .i64) (.pr (.int .i64) .nil))) .nil) (1 + x3) (joinF 1 (rowsF 1 [(.ro false (.pr (.int .i64) (.pr (.int .i64) .nil)) x1 x2)]) x4))]) else none) := by kernel_rfl

theorem e42 (fuel : Nat) (x1 : Nat) (x2 : Nat → Nat → CV) (x3 : Nat) (x4 : Nat → Nat → CV) : evalF (C44 fuel) fuel A42 [.agg [(.ro false (.pr (.int .i64) (.pr (.int .i64) .nil)) x1 x2), (.ro false (.pr (.sl (.pr (.int .i64) (.pr (.int .i64) .nil))) .nil) x3 x4)]] = ob (F42 fuel x1 x2 x3 x4) fun t => some [.v (.ro false (.pr (.sl (.pr (.int .i64) (.pr (.int .i64) .nil))) .nil) t.1 t.2)] := by
  rw [walk42, ← f42]
  simp only [D42]

def O42 (fuel : Nat) : Ora where
  o := fun args {ρ} K =>
    wc args fun a1 l2 =>
    wagg a1 fun l3 =>
    wc l3 fun c4 l5 =>
    wL (.pr (.int .i64) (.pr (.int .i64) .nil)) c4 fun y6 y7 =>
    wc l5 fun c9 l10 =>
    wL (.pr (.sl (.pr (.int .i64) (.pr (.int .i64) .nil))) .nil) c9 fun y11 y12 =>
    wn l10 <|
    wn l2 <|
    (ob (F42 fuel y6 y7 y11 y12) fun t => K [.v (.ro false (.pr (.sl (.pr (.int .i64) (.pr (.int .i64) .nil))) .nil) t.1 t.2)])
  nat := fun args {ρ} K => by
    simp only [bind_wc, bind_wn, bind_wv, bind_wagg, bind_wI, bind_wB, bind_wS, bind_wL, bind_wP, bind_wFn, bind_ob, Option.bind_some]

theorem d42 {P : Program} (fuel : Nat) (hmix : P.follows .mixedOrders = true) (hC : Sound P (C44 fuel)) (hF : FFits P 42 A42) (args res : List A) (h : (O42 fuel).o args some = some res) : Den P 42 args res := by
  obtain ⟨a1, l2, rfl, z0⟩ := inv_wc h
  obtain ⟨l3, rfl, z1⟩ := inv_wagg z0
  obtain ⟨c4, l5, rfl, z2⟩ := inv_wc z1
  obtain ⟨y6, y7, h8, z3⟩ := inv_wL z2
  obtain ⟨c9, l10, rfl, z4⟩ := inv_wc z3
  obtain ⟨y11, y12, h13, z5⟩ := inv_wL z4
  obtain ⟨hn, z6⟩ := inv_wn z5
  cases hn
  obtain ⟨hn, z7⟩ := inv_wn z6
  cases hn
  exact Den.weaken (.cons (WkA.agg (.cons h8 (.cons h13 .nil))) .nil) (evalF_sound hmix hC hF ((e42 fuel y6 y7 y11 y12).trans z7))

def C45 (fuel : Nat) : Oracle := (C44 fuel).add 42 (fun _ => true) (O42 fuel)

def B73cv1 (C : Oracle) (fuel : Nat) {ρ : Type} : St → (Ex → St → Option ρ) → Option ρ := fun st k => evalC C fuel A73v3 st k
def N73cv1 : St → Option St := fun s => s.norm [2, 3, 4, 5, 6, 9, 10, 11, 12, 13, 14, 15, 16, 17, 18] 0

def s73cv0 (x7 : Nat) (x8 : Nat → Nat → CV) (x9 : Int) (x10 : Int) : St := ⟨[.x (.c (.ro false (.pr (.int .i64) (.pr (.int .i64) .nil)) x7 x8)), .x (.c (.fn 49 0 (listF []))), .u, .u, .u, .u, .u, .x (.c (.i .i64 x9)), .x (.c (.i .i64 x10)), .u, .u, .u, .u, .u, .u, .u, .u, .u, .u],
    []⟩

def s73cv1 (x12 : Int) : St := ⟨[.u, .u, .u, .u, .x (.c (.i .i64 x12)), .u, .u, .u, .u, .u, .u, .u, .u, .u, .u, .u, .u, .u, .u],
    []⟩

def s73cv2 : St := ⟨[.u, .u, .u, .u, .u, .u, .u, .u, .u, .u, .u, .u, .u, .u, .u, .u, .u, .u, .u],
    []⟩

def L73cv1 {ρ : Type} (fuel : Nat) (x7 : Nat) (x8 : Nat → Nat → CV) (x9 : Int) : Nat → Int → (Int → Option ρ) → (Option ρ) → Option ρ
  | 0, _, _, _ => none
  | m + 1, x10, k0, k1 =>
    (bif (decide (x10 < x9)) then (bif (inb x10 x7) then (ob (F49 fuel (CV.int (x8 (Int.toNat x10) 0)) (CV.int (x8 (Int.toNat x10) 1))) fun x11 => (bif x11 then (k0 x10) else (L73cv1 fuel x7 x8 x9 m (w64 (x10 + 1)) k0 k1))) else none) else k1)

theorem nl73cv1 {ρ σ : Type} (fuel : Nat) (x7 : Nat) (x8 : Nat → Nat → CV) (x9 : Int) (g : ρ → Option σ) : ∀ (m : Nat) (x10 : Int) (k0 : Int → Option ρ) (k1 : Option ρ), ob (L73cv1 fuel x7 x8 x9 m x10 k0 k1) g = L73cv1 fuel x7 x8 x9 m x10 (fun x12 => ob (k0 x12) g) (ob k1 g)
  | 0, _, _, _ => rfl
  | m + 1, x10, k0, k1 => by
    simp only [L73cv1, ob_bif, ob_ob, ob_none, nl73cv1 fuel x7 x8 x9 g m]

theorem r73cv1 (fuel : Nat) (m : Nat) {ρ : Type} (k : Ex → St → Option ρ) (x7 : Nat) (x8 : Nat → Nat → CV) (x9 : Int) (x10 : Int) :
    loopH (B73cv1 (C45 fuel) fuel) N73cv1 (m + 1) (s73cv0 x7 x8 x9 x10) k =
    (bif (decide (x10 < x9)) then (bif (inb x10 x7) then (ob (F49 fuel (CV.int (x8 (Int.toNat x10) 0)) (CV.int (x8 (Int.toNat x10) 1))) fun x11 => (bif x11 then (k .ret (s73cv1 x10)) else (loopH (B73cv1 (C45 fuel) fuel) N73cv1 m (s73cv0 x7 x8 x9 (w64 (x10 + 1))) k))) else none) else (k (.exit 0) s73cv2)) := by kernel_rfl

theorem q73cv1 (fuel : Nat) (x7 : Nat) (x8 : Nat → Nat → CV) (x9 : Int) {ρ : Type} (k : Ex → St → Option ρ) : ∀ (m : Nat) (x10 : Int),
    loopH (B73cv1 (C45 fuel) fuel) N73cv1 m (s73cv0 x7 x8 x9 x10) k = L73cv1 fuel x7 x8 x9 m x10 (fun x12 => k .ret (s73cv1 x12)) (k (.exit 0) s73cv2)
  | 0, _ => rfl
  | m + 1, x10 => by
    rw [r73cv1]
    simp only [L73cv1, q73cv1 fuel x7 x8 x9 k m]

def D73c {ρ : Type} (fuel : Nat) (x1 : Nat) (x2 : Nat → Nat → CV) (k : Int → Option ρ) : Option ρ :=
  (L73cv1 fuel x1 x2 (Int.ofNat x1) fuel 0
    (fun x13 => (k x13))
    (k (-1)))

def F73c (fuel : Nat) (x1 : Nat) (x2 : Nat → Nat → CV) : Option (Int) := D73c fuel x1 x2 some

theorem n73c {ρ σ : Type} (fuel : Nat) (x1 : Nat) (x2 : Nat → Nat → CV) (k : (Int) → Option ρ) (g : ρ → Option σ) : ob (D73c fuel x1 x2 k) g = D73c fuel x1 x2 fun t => ob (k t) g := by
  simp only [D73c, ob_bif, ob_ob, ob_none, nl73cv1]

theorem f73c {ρ : Type} (fuel : Nat) (x1 : Nat) (x2 : Nat → Nat → CV) (k : (Int) → Option ρ) : D73c fuel x1 x2 k = ob (F73c fuel x1 x2) k := by
  unfold F73c
  rw [n73c]
  simp only [ob_some]

def s73cv3 (x1 : Nat) (x2 : Nat → Nat → CV) : St := ⟨[.x (.c (.ro false (.pr (.int .i64) (.pr (.int .i64) .nil)) x1 x2)), .x (.c (.fn 49 0 (listF []))), .undef, .undef, .x (.c (.i .i64 0)), .undef, .x (.c (.ro false (.pr (.int .i64) (.pr (.int .i64) .nil)) x1 x2)), .x (.c (.i .i64 (Int.ofNat x1))), .x (.c (.i .i64 0)), .undef, .undef, .undef, .undef, .undef, .undef, .undef, .undef, .undef, .undef],
    []⟩

theorem walk73c (fuel : Nat) (x1 : Nat) (x2 : Nat → Nat → CV) :
    evalF (C45 fuel) fuel A73 [.v (.ro false (.pr (.int .i64) (.pr (.int .i64) .nil)) x1 x2), .v (.fn 49 0 (listF []))] =
    (loopN (B73cv1 (C45 fuel) fuel) N73cv1 fuel (s73cv3 x1 x2) (kBlk 0 (kSeq (C45 fuel) fuel [4, 5, 6, 7, 8, 9, 10, 11, 12, 13, 14, 15, 16, 17, 18] A73v4 (finish A73)))) := by kernel_rfl

theorem t73cv1 (fuel : Nat) {ρ : Type} (k : Ex → St → Option ρ) (x1 : Nat) (x2 : Nat → Nat → CV) :
    loopN (B73cv1 (C45 fuel) fuel) N73cv1 fuel (s73cv3 x1 x2) k =
    L73cv1 fuel x1 x2 (Int.ofNat x1) fuel 0 (fun x12 => k .ret (s73cv1 x12)) (k (.exit 0) s73cv2) :=
  (loopN_at (st' := (s73cv0 x1 x2 (Int.ofNat x1) 0)) (by kernel_rfl)).trans (q73cv1 fuel x1 x2 (Int.ofNat x1) k fuel 0)

theorem g73cv2 (fuel : Nat) (x13 : Int) :
    (kBlk 0 (kSeq (C45 fuel) fuel [4, 5, 6, 7, 8, 9, 10, 11, 12, 13, 14, 15, 16, 17, 18] A73v4 (finish A73))) .ret (s73cv1 x13) =
    (some [.v (.i .i64 x13)]) := by kernel_rfl

theorem g73cv3 (fuel : Nat) :
    (kBlk 0 (kSeq (C45 fuel) fuel [4, 5, 6, 7, 8, 9, 10, 11, 12, 13, 14, 15, 16, 17, 18] A73v4 (finish A73))) (.exit 0) s73cv2 =
    (some [.v (.i .i64 (-1))]) := by kernel_rfl

theorem e73c (fuel : Nat) (x1 : Nat) (x2 : Nat → Nat → CV) : evalF (C45 fuel) fuel A73 [.v (.ro false (.pr (.int .i64) (.pr (.int .i64) .nil)) x1 x2), .v (.fn 49 0 (listF []))] = ob (F73c fuel x1 x2) fun t => some [.v (.i .i64 t)] := by
  rw [walk73c, ← f73c]
  simp only [D73c, t73cv1, g73cv2, g73cv3]

def O73c (fuel : Nat) : Ora where
  o := fun args {ρ} K =>
    wc args fun a1 l2 =>
    wv a1 fun c3 =>
    wL (.pr (.int .i64) (.pr (.int .i64) .nil)) c3 fun y4 y5 =>
    wc l2 fun a7 l8 =>
    wv a7 fun c9 =>
    wFn 49 0 c9 fun y10 =>
    wn l8 <|
    (ob (F73c fuel y4 y5) fun t => K [.v (.i .i64 t)])
  nat := fun args {ρ} K => by
    simp only [bind_wc, bind_wn, bind_wv, bind_wagg, bind_wI, bind_wB, bind_wS, bind_wL, bind_wP, bind_wFn, bind_ob, Option.bind_some]

theorem d73c {P : Program} (fuel : Nat) (hmix : P.follows .mixedOrders = true) (hC : Sound P (C45 fuel)) (hF : FFits P 73 A73) (args res : List A) (h : (O73c fuel).o args some = some res) : Den P 73 args res := by
  obtain ⟨a1, l2, rfl, z0⟩ := inv_wc h
  obtain ⟨c3, rfl, z1⟩ := inv_wv z0
  obtain ⟨y4, y5, h6, z2⟩ := inv_wL z1
  obtain ⟨a7, l8, rfl, z3⟩ := inv_wc z2
  obtain ⟨c9, rfl, z4⟩ := inv_wv z3
  obtain ⟨y10, h11, z5⟩ := inv_wFn z4
  obtain ⟨hn, z6⟩ := inv_wn z5
  cases hn
  exact Den.weaken (.cons (WkA.v h6) (.cons (WkA.v (wk_fn0 h11)) .nil)) (evalF_sound hmix hC hF ((e73c fuel y4 y5).trans z6))

def C46 (fuel : Nat) : Oracle := (C45 fuel).add 73 (fun l => isFn 49 l 1) (O73c fuel)

def D50c {ρ : Type} (fuel : Nat) (x1 : Nat) (x2 : Nat → Nat → CV) (k : Bool → Option ρ) : Option ρ :=
  (ob (F73c fuel x1 x2) fun x3 => (k (decide (x3 ≥ 0))))

def F50c (fuel : Nat) (x1 : Nat) (x2 : Nat → Nat → CV) : Option (Bool) := D50c fuel x1 x2 some

theorem n50c {ρ σ : Type} (fuel : Nat) (x1 : Nat) (x2 : Nat → Nat → CV) (k : (Bool) → Option ρ) (g : ρ → Option σ) : ob (D50c fuel x1 x2 k) g = D50c fuel x1 x2 fun t => ob (k t) g := by
  simp only [D50c, ob_bif, ob_ob, ob_none]

theorem f50c {ρ : Type} (fuel : Nat) (x1 : Nat) (x2 : Nat → Nat → CV) (k : (Bool) → Option ρ) : D50c fuel x1 x2 k = ob (F50c fuel x1 x2) k := by
  unfold F50c
  rw [n50c]
  simp only [ob_some]

theorem walk50c (fuel : Nat) (x1 : Nat) (x2 : Nat → Nat → CV) :
    evalF (C46 fuel) fuel A50 [.v (.ro false (.pr (.int .i64) (.pr (.int .i64) .nil)) x1 x2), .v (.fn 49 0 (listF []))] =
    (ob (F73c fuel x1 x2) fun x3 => (some [.v (.b (decide (x3 ≥ 0)))])) := by kernel_rfl

theorem e50c (fuel : Nat) (x1 : Nat) (x2 : Nat → Nat → CV) : evalF (C46 fuel) fuel A50 [.v (.ro false (.pr (.int .i64) (.pr (.int .i64) .nil)) x1 x2), .v (.fn 49 0 (listF []))] = ob (F50c fuel x1 x2) fun t => some [.v (.b t)] := by
  rw [walk50c, ← f50c]
  simp only [D50c]

def O50c (fuel : Nat) : Ora where
  o := fun args {ρ} K =>
    wc args fun a1 l2 =>
    wv a1 fun c3 =>
    wL (.pr (.int .i64) (.pr (.int .i64) .nil)) c3 fun y4 y5 =>
    wc l2 fun a7 l8 =>
    wv a7 fun c9 =>
    wFn 49 0 c9 fun y10 =>
    wn l8 <|
    (ob (F50c fuel y4 y5) fun t => K [.v (.b t)])
  nat := fun args {ρ} K => by
    simp only [bind_wc, bind_wn, bind_wv, bind_wagg, bind_wI, bind_wB, bind_wS, bind_wL, bind_wP, bind_wFn, bind_ob, Option.bind_some]

theorem d50c {P : Program} (fuel : Nat) (hmix : P.follows .mixedOrders = true) (hC : Sound P (C46 fuel)) (hF : FFits P 50 A50) (args res : List A) (h : (O50c fuel).o args some = some res) : Den P 50 args res := by
  obtain ⟨a1, l2, rfl, z0⟩ := inv_wc h
  obtain ⟨c3, rfl, z1⟩ := inv_wv z0
  obtain ⟨y4, y5, h6, z2⟩ := inv_wL z1
  obtain ⟨a7, l8, rfl, z3⟩ := inv_wc z2
  obtain ⟨c9, rfl, z4⟩ := inv_wv z3
  obtain ⟨y10, h11, z5⟩ := inv_wFn z4
  obtain ⟨hn, z6⟩ := inv_wn z5
  cases hn
  exact Den.weaken (.cons (WkA.v h6) (.cons (WkA.v (wk_fn0 h11)) .nil)) (evalF_sound hmix hC hF ((e50c fuel y4 y5).trans z6))

def C47 (fuel : Nat) : Oracle := (C46 fuel).add 50 (fun l => isFn 49 l 1) (O50c fuel)

/-- shipyard/region.Move.1 -/
def A51v1 : AC := (.seq (.block 3
  (.region 9 [
    ⟨(some 23), .fieldAddr 34 (.tmp 6) 1 1, none⟩,
    ⟨(some 24), .load 3 none (.tmp 23), none⟩,
    ⟨(some 25), .unOp .neg 3 (.tmp 24), none⟩,
    ⟨(some 26), .fieldAddr 34 (.tmp 6) 0 0, none⟩,
    ⟨(some 27), .load 3 none (.tmp 26), none⟩,
    ⟨(some 28), .build 34 [.c (.i .i64 0), .c (.i .i64 0)] [(0, 1), (1, 1)] 0 [(0, (.tmp 25)), (1, (.tmp 27))], none⟩,
    ⟨none, .store 34 2 (.tmp 6) (.tmp 28), none⟩] 0 none)) []
  (.region 10 [
  ⟨(some 29), .binOp .add 3 (.tmp 21) (.const (.int .i64 1)) 3, none⟩,
  ⟨(some 21), .move (.tmp 29), none⟩] 0 none))
def A51v2 : AC := (.seq (.region 8 [
  ⟨(some 22), .binOp .lss 3 (.tmp 21) (.tmp 20) 3, none⟩] 0 none) []
  (.seq (.cond (.tmp 22)
  .skip
  (.exit 2 [0, 2, 3, 5, 10, 11, 12, 13, 14, 15, 16, 17, 18, 19, 20, 21, 22, 23, 24, 25, 26, 27, 28, 29, 30, 31, 32, 33, 34, 35, 36, 37, 38, 39, 40, 41, 42, 43, 44, 45, 46, 47, 48, 49, 50, 51])) []
  A51v1))
def A51v3 : AC := (.region 11 [
  ⟨(some 30), .move (.tmp 4), none⟩,
  ⟨(some 31), .fieldAddr 34 (.tmp 6) 0 0, none⟩,
  ⟨(some 32), .load 3 none (.tmp 31), none⟩,
  ⟨(some 33), .fieldAddr 41 (.tmp 1) 1 1, none⟩,
  ⟨(some 34), .fieldAddr 34 (.tmp 33) 0 0, none⟩,
  ⟨(some 35), .load 3 none (.tmp 34), none⟩,
  ⟨(some 36), .binOp .add 3 (.tmp 32) (.tmp 35) 3, none⟩,
  ⟨(some 37), .fieldAddr 34 (.tmp 6) 1 1, none⟩,
  ⟨(some 38), .load 3 none (.tmp 37), none⟩,
  ⟨(some 39), .fieldAddr 41 (.tmp 1) 1 1, none⟩,
  ⟨(some 40), .fieldAddr 34 (.tmp 39) 1 1, none⟩,
  ⟨(some 41), .load 3 none (.tmp 40), none⟩,
  ⟨(some 42), .binOp .add 3 (.tmp 38) (.tmp 41) 3, none⟩,
  ⟨(some 43), .build 34 [.c (.i .i64 0), .c (.i .i64 0)] [(0, 1), (1, 1)] 0 [(0, (.tmp 36)), (1, (.tmp 42))], none⟩,
  ⟨(some 44), .buildSlice 0 22 34 (.pr (.int .i64) (.pr (.int .i64) .nil)) 1 [.c (.i .i64 0), .c (.i .i64 0)] [(0, (.tmp 43))], none⟩,
  ⟨(some 45), .append 1 22 34 (.pr (.int .i64) (.pr (.int .i64) .nil)) 16 (.tmp 30) (.tmp 44), none⟩,
  ⟨(some 4), .assign (.tmp 45), none⟩] 2 none)
def A51v4 : AC := (.seq (.seq (.region 7 [
  ⟨(some 19), .fieldAddr 41 (.tmp 1) 2 3, none⟩,
  ⟨(some 20), .load 3 none (.tmp 19), none⟩,
  ⟨(some 21), .move (.const (.int .i64 0)), none⟩] 0 none) []
  (.block 2
  (.loop [] [0, 2, 3, 5, 10, 11, 12, 13, 14, 15, 16, 17, 18, 19, 22, 23, 24, 25, 26, 27, 28, 29, 30, 31, 32, 33, 34, 35, 36, 37, 38, 39, 40, 41, 42, 43, 44, 45, 46, 47, 48, 49, 50, 51]
    A51v2))) [19, 20, 21, 22, 23, 24, 25, 26, 27, 28, 29]
  A51v3)
def A51v5 : AC := (.region 12 [
  ⟨(some 46), .binOp .add 3 (.tmp 9) (.const (.int .i64 1)) 3, none⟩,
  ⟨(some 9), .move (.tmp 46), none⟩] 0 none)
def A51v6 : AC := (.seq (.block 1
  (.seq (.region 4 [
    ⟨(some 11), .indexAddr 22 34 2 (.tmp 7) (.tmp 9), none⟩,
    ⟨(some 12), .load 34 (some 2) (.tmp 11), none⟩,
    ⟨(some 6), .alloc 0 34 [.c (.i .i64 0), .c (.i .i64 0)], none⟩,
    ⟨none, .store 34 2 (.tmp 6) (.tmp 12), none⟩] 1 none) []
    (.seq (.seq (.region 5 [
    ⟨(some 13), .fieldAddr 41 (.tmp 1) 3 4, none⟩,
    ⟨(some 14), .load 4 none (.tmp 13), none⟩] 0 none) []
    (.cond (.tmp 14)
    (.region 6 [
      ⟨(some 15), .fieldAddr 34 (.tmp 6) 0 0, none⟩,
      ⟨(some 16), .load 3 none (.tmp 15), none⟩,
      ⟨(some 17), .unOp .neg 3 (.tmp 16), none⟩,
      ⟨(some 18), .fieldAddr 34 (.tmp 6) 0 0, none⟩,
      ⟨none, .store 3 1 (.tmp 18) (.tmp 17), none⟩] 0 none)
    .skip)) [13, 14, 15, 16, 17, 18]
    A51v4))) [6, 11, 12, 13, 14, 15, 16, 17, 18, 19, 20, 21, 22, 23, 24, 25, 26, 27, 28, 29, 30, 31, 32, 33, 34, 35, 36, 37, 38, 39, 40, 41, 42, 43, 44, 45]
  A51v5)
def A51v7 : AC := (.seq (.region 3 [
  ⟨(some 10), .binOp .lss 3 (.tmp 9) (.tmp 8) 3, none⟩] 0 none) []
  (.seq (.cond (.tmp 10)
  .skip
  (.exit 0 [0, 2, 3, 5, 6, 7, 8, 9, 10, 11, 12, 13, 14, 15, 16, 17, 18, 19, 20, 21, 22, 23, 24, 25, 26, 27, 28, 29, 30, 31, 32, 33, 34, 35, 36, 37, 38, 39, 40, 41, 42, 43, 44, 45, 46, 47, 48, 49, 50, 51])) []
  A51v6))
def A51v8 : AC := (.seq (.region 15 [
  ⟨(some 51), .move (.tmp 4), none⟩,
  ⟨(some 3), .assign (.tmp 51), none⟩] 0 none) []
  (.ret [0, 1, 2, 4, 5, 6, 7, 8, 9, 10, 11, 12, 13, 14, 15, 16, 17, 18, 19, 20, 21, 22, 23, 24, 25, 26, 27, 28, 29, 30, 31, 32, 33, 34, 35, 36, 37, 38, 39, 40, 41, 42, 43, 44, 45, 46, 47, 48, 49, 50, 51]))
def A51v9 : AC := (.seq (.seq (.region 13 [
  ⟨(some 47), .fieldAddr 41 (.tmp 1) 3 4, none⟩,
  ⟨(some 48), .load 4 none (.tmp 47), none⟩] 0 none) []
  (.cond (.tmp 48)
  (.region 14 [
    ⟨(some 49), .move (.tmp 4), none⟩,
    ⟨(some 50), .turn 52 (.tmp 49) [] [22], none⟩] 0 none)
  .skip)) [47, 48, 49, 50]
  A51v8)
def A51 : AF := ⟨52, [.tmp 3],
  (.seq (.region 0 [
  ⟨(some 3), .assign (.const (.slice none 0 0)), none⟩] 0 none) []
  (.seq (.region 1 [
  ⟨(some 4), .assign (.const (.slice none 0 0)), none⟩] 0 none) []
  (.seq (.seq (.region 2 [
  ⟨(some 7), .move (.tmp 0), none⟩,
  ⟨(some 8), .len 22 false (.tmp 7), none⟩,
  ⟨(some 9), .move (.const (.int .i64 0)), none⟩] 0 none) []
  (.block 0
  (.loop [.slot 4 (.pr (.int .i64) (.pr (.int .i64) .nil))] [0, 2, 3, 5, 6, 10, 11, 12, 13, 14, 15, 16, 17, 18, 19, 20, 21, 22, 23, 24, 25, 26, 27, 28, 29, 30, 31, 32, 33, 34, 35, 36, 37, 38, 39, 40, 41, 42, 43, 44, 45, 46, 47, 48, 49, 50, 51]
    A51v7))) [6, 7, 8, 9, 10, 11, 12, 13, 14, 15, 16, 17, 18, 19, 20, 21, 22, 23, 24, 25, 26, 27, 28, 29, 30, 31, 32, 33, 34, 35, 36, 37, 38, 39, 40, 41, 42, 43, 44, 45, 46]
  A51v9)))⟩

def B51v2 (C : Oracle) (fuel : Nat) {ρ : Type} : St → (Ex → St → Option ρ) → Option ρ := fun st k => evalC C fuel A51v2 st k
def N51v2 : St → Option St := fun s => s.norm [0, 2, 3, 5, 10, 11, 12, 13, 14, 15, 16, 17, 18, 19, 22, 23, 24, 25, 26, 27, 28, 29, 30, 31, 32, 33, 34, 35, 36, 37, 38, 39, 40, 41, 42, 43, 44, 45, 46, 47, 48, 49, 50, 51] 2

def s51v0 (x46 : Nat → CV) (x47 : Nat) (x48 : Nat) (x49 : Nat → Nat → CV) (x50 : Int) (x51 : Int) (x52 : Int) (x53 : Int) (x54 : Nat → Nat → CV) (x55 : Int) (x56 : Int) : St := ⟨[.u, .x (.c (.rp (.pr .str (.pr (.int .i64) (.pr (.int .i64) (.pr (.int .i64) (.pr .bool .nil))))) x46)), .u, .u, .x (.own 0 0 x47), .u, .x (.ptr 1 0), .x (.c (.ro false (.pr (.int .i64) (.pr (.int .i64) .nil)) x48 x49)), .x (.c (.i .i64 x50)), .x (.c (.i .i64 x51)), .u, .u, .u, .u, .u, .u, .u, .u, .u, .u, .x (.c (.i .i64 x52)), .x (.c (.i .i64 x53)), .u, .u, .u, .u, .u, .u, .u, .u, .u, .u, .u, .u, .u, .u, .u, .u, .u, .u, .u, .u, .u, .u, .u, .u, .u, .u, .u, .u, .u, .u],
    [.arr (.pr (.int .i64) (.pr (.int .i64) .nil)) x47 x54, .box [(.c (.i .i64 x55)), (.c (.i .i64 x56))]]⟩

def s51v1 (x46 : Nat → CV) (x47 : Nat) (x48 : Nat) (x49 : Nat → Nat → CV) (x50 : Int) (x51 : Int) (x54 : Nat → Nat → CV) (x57 : Int) (x58 : Int) : St := ⟨[.u, .x (.c (.rp (.pr .str (.pr (.int .i64) (.pr (.int .i64) (.pr (.int .i64) (.pr .bool .nil))))) x46)), .u, .u, .x (.own 0 0 x47), .u, .x (.ptr 1 0), .x (.c (.ro false (.pr (.int .i64) (.pr (.int .i64) .nil)) x48 x49)), .x (.c (.i .i64 x50)), .x (.c (.i .i64 x51)), .u, .u, .u, .u, .u, .u, .u, .u, .u, .u, .u, .u, .u, .u, .u, .u, .u, .u, .u, .u, .u, .u, .u, .u, .u, .u, .u, .u, .u, .u, .u, .u, .u, .u, .u, .u, .u, .u, .u, .u, .u, .u],
    [.arr (.pr (.int .i64) (.pr (.int .i64) .nil)) x47 x54, .box [(.c (.i .i64 x57)), (.c (.i .i64 x58))]]⟩

def L51v2 {ρ : Type} (fuel : Nat) (x46 : Nat → CV) (x47 : Nat) (x48 : Nat) (x49 : Nat → Nat → CV) (x50 : Int) (x51 : Int) (x52 : Int) (x54 : Nat → Nat → CV) : Nat → Int → Int → Int → (Int → Int → Option ρ) → Option ρ
  | 0, _, _, _, _ => none
  | m + 1, x53, x55, x56, k0 =>
    (bif (decide (x53 < x52)) then (L51v2 fuel x46 x47 x48 x49 x50 x51 x52 x54 m (w64 (x53 + 1)) (w64 (0 - x56)) x55 k0) else (k0 x55 x56))

theorem nl51v2 {ρ σ : Type} (fuel : Nat) (x46 : Nat → CV) (x47 : Nat) (x48 : Nat) (x49 : Nat → Nat → CV) (x50 : Int) (x51 : Int) (x52 : Int) (x54 : Nat → Nat → CV) (g : ρ → Option σ) : ∀ (m : Nat) (x53 : Int) (x55 : Int) (x56 : Int) (k0 : Int → Int → Option ρ), ob (L51v2 fuel x46 x47 x48 x49 x50 x51 x52 x54 m x53 x55 x56 k0) g = L51v2 fuel x46 x47 x48 x49 x50 x51 x52 x54 m x53 x55 x56 (fun x57 x58 => ob (k0 x57 x58) g)
  | 0, _, _, _, _ => rfl
  | m + 1, x53, x55, x56, k0 => by
    simp only [L51v2, ob_bif, ob_ob, ob_none, nl51v2 fuel x46 x47 x48 x49 x50 x51 x52 x54 g m]

theorem r51v2 (fuel : Nat) (m : Nat) {ρ : Type} (k : Ex → St → Option ρ) (x46 : Nat → CV) (x47 : Nat) (x48 : Nat) (x49 : Nat → Nat → CV) (x50 : Int) (x51 : Int) (x52 : Int) (x54 : Nat → Nat → CV) (x53 : Int) (x55 : Int) (x56 : Int) :
    loopH (B51v2 (C47 fuel) fuel) N51v2 (m + 1) (s51v0 x46 x47 x48 x49 x50 x51 x52 x53 x54 x55 x56) k =
    (bif (decide (x53 < x52)) then (loopH (B51v2 (C47 fuel) fuel) N51v2 m (s51v0 x46 x47 x48 x49 x50 x51 x52 (w64 (x53 + 1)) x54 (w64 (0 - x56)) x55) k) else (k (.exit 2) (s51v1 x46 x47 x48 x49 x50 x51 x54 x55 x56))) := by kernel_rfl

theorem q51v2 (fuel : Nat) (x46 : Nat → CV) (x47 : Nat) (x48 : Nat) (x49 : Nat → Nat → CV) (x50 : Int) (x51 : Int) (x52 : Int) (x54 : Nat → Nat → CV) {ρ : Type} (k : Ex → St → Option ρ) : ∀ (m : Nat) (x53 : Int) (x55 : Int) (x56 : Int),
    loopH (B51v2 (C47 fuel) fuel) N51v2 m (s51v0 x46 x47 x48 x49 x50 x51 x52 x53 x54 x55 x56) k = L51v2 fuel x46 x47 x48 x49 x50 x51 x52 x54 m x53 x55 x56 (fun x57 x58 => k (.exit 2) (s51v1 x46 x47 x48 x49 x50 x51 x54 x57 x58))
  | 0, _, _, _ => rfl
  | m + 1, x53, x55, x56 => by
    rw [r51v2]
    simp only [L51v2, q51v2 fuel x46 x47 x48 x49 x50 x51 x52 x54 k m]

def B51v3 (C : Oracle) (fuel : Nat) {ρ : Type} : St → (Ex → St → Option ρ) → Option ρ := fun st k => evalC C fuel A51v7 st k
def N51v3 : St → Option St := fun s => s.norm [0, 2, 3, 5, 6, 10, 11, 12, 13, 14, 15, 16, 17, 18, 19, 20, 21, 22, 23, 24, 25, 26, 27, 28, 29, 30, 31, 32, 33, 34, 35, 36, 37, 38, 39, 40, 41, 42, 43, 44, 45, 46, 47, 48, 49, 50, 51] 1

def s51v2 (x29 : Nat → CV) (x30 : Nat) (x31 : Nat) (x32 : Nat → Nat → CV) (x33 : Int) (x34 : Int) (x35 : Nat → Nat → CV) : St := ⟨[.u, .x (.c (.rp (.pr .str (.pr (.int .i64) (.pr (.int .i64) (.pr (.int .i64) (.pr .bool .nil))))) x29)), .u, .u, .x (.own 0 0 x30), .u, .u, .x (.c (.ro false (.pr (.int .i64) (.pr (.int .i64) .nil)) x31 x32)), .x (.c (.i .i64 x33)), .x (.c (.i .i64 x34)), .u, .u, .u, .u, .u, .u, .u, .u, .u, .u, .u, .u, .u, .u, .u, .u, .u, .u, .u, .u, .u, .u, .u, .u, .u, .u, .u, .u, .u, .u, .u, .u, .u, .u, .u, .u, .u, .u, .u, .u, .u, .u],
    [.arr (.pr (.int .i64) (.pr (.int .i64) .nil)) x30 x35]⟩

def s51v3 (x29 : Nat → CV) (x63 : Nat) (x64 : Nat → Nat → CV) : St := ⟨[.u, .x (.c (.rp (.pr .str (.pr (.int .i64) (.pr (.int .i64) (.pr (.int .i64) (.pr .bool .nil))))) x29)), .u, .u, .x (.own 0 0 x63), .u, .u, .u, .u, .u, .u, .u, .u, .u, .u, .u, .u, .u, .u, .u, .u, .u, .u, .u, .u, .u, .u, .u, .u, .u, .u, .u, .u, .u, .u, .u, .u, .u, .u, .u, .u, .u, .u, .u, .u, .u, .u, .u, .u, .u, .u, .u],
    [.arr (.pr (.int .i64) (.pr (.int .i64) .nil)) x63 x64]⟩

def L51v3 {ρ : Type} (fuel : Nat) (x29 : Nat → CV) (x31 : Nat) (x32 : Nat → Nat → CV) (x33 : Int) : Nat → Nat → Int → (Nat → Nat → CV) → (Nat → (Nat → Nat → CV) → Option ρ) → Option ρ
  | 0, _, _, _, _ => none
  | m + 1, x30, x34, x35, k0 =>
    (bif (decide (x34 < x33)) then (bif (inb x34 x31) then (bif (CV.bool (x29 4)) then (L51v2 fuel x29 x30 x31 x32 x33 x34 (CV.int (x29 3)) x35 fuel 0 (w64 (0 - (CV.int (x32 (Int.toNat x34) 0)))) (CV.int (x32 (Int.toNat x34) 1))
    (fun x59 x60 => (bif (Nat.ble (x30 + 1) 1073741824) then (L51v3 fuel x29 x31 x32 x33 m (x30 + 1) (w64 (x34 + 1)) (joinF x30 x35 (rowsF 2 [(.i .i64 (w64 (x59 + (CV.int (x29 1))))), (.i .i64 (w64 (x60 + (CV.int (x29 2)))))])) k0) else none))) else (L51v2 fuel x29 x30 x31 x32 x33 x34 (CV.int (x29 3)) x35 fuel 0 (CV.int (x32 (Int.toNat x34) 0)) (CV.int (x32 (Int.toNat x34) 1))
    (fun x61 x62 => (bif (Nat.ble (x30 + 1) 1073741824) then (L51v3 fuel x29 x31 x32 x33 m (x30 + 1) (w64 (x34 + 1)) (joinF x30 x35 (rowsF 2 [(.i .i64 (w64 (x61 + (CV.int (x29 1))))), (.i .i64 (w64 (x62 + (CV.int (x29 2)))))])) k0) else none)))) else none) else (k0 x30 x35))

theorem nl51v3 {ρ σ : Type} (fuel : Nat) (x29 : Nat → CV) (x31 : Nat) (x32 : Nat → Nat → CV) (x33 : Int) (g : ρ → Option σ) : ∀ (m : Nat) (x30 : Nat) (x34 : Int) (x35 : Nat → Nat → CV) (k0 : Nat → (Nat → Nat → CV) → Option ρ), ob (L51v3 fuel x29 x31 x32 x33 m x30 x34 x35 k0) g = L51v3 fuel x29 x31 x32 x33 m x30 x34 x35 (fun x63 x64 => ob (k0 x63 x64) g)
  | 0, _, _, _, _ => rfl
  | m + 1, x30, x34, x35, k0 => by
    simp only [L51v3, ob_bif, ob_ob, ob_none, nl51v3 fuel x29 x31 x32 x33 g m, nl51v2]

def s51v4 (x29 : Nat → CV) (x30 : Nat) (x31 : Nat) (x32 : Nat → Nat → CV) (x33 : Int) (x34 : Int) (x35 : Nat → Nat → CV) : St := ⟨[.u, .x (.c (.rp (.pr .str (.pr (.int .i64) (.pr (.int .i64) (.pr (.int .i64) (.pr .bool .nil))))) x29)), .u, .u, .x (.own 0 0 x30), .u, .x (.ptr 1 0), .x (.c (.ro false (.pr (.int .i64) (.pr (.int .i64) .nil)) x31 x32)), .x (.c (.i .i64 x33)), .x (.c (.i .i64 x34)), .x (.c (.b true)), .x (.c (.rp (.pr (.int .i64) (.pr (.int .i64) .nil)) (x32 (Int.toNat x34)))), .agg [(.c (.i .i64 (CV.int (x32 (Int.toNat x34) 0)))), (.c (.i .i64 (CV.int (x32 (Int.toNat x34) 1))))], .u, .u, .u, .u, .u, .u, .x (.c (.rp (.pr (.int .i64) (.pr .bool .nil)) (fun j => x29 (3 + j)))), .x (.c (.i .i64 (CV.int (x29 3)))), .x (.c (.i .i64 0)), .u, .u, .u, .u, .u, .u, .u, .u, .u, .u, .u, .u, .u, .u, .u, .u, .u, .u, .u, .u, .u, .u, .u, .u, .u, .u, .u, .u, .u, .u],
    [.arr (.pr (.int .i64) (.pr (.int .i64) .nil)) x30 x35, .box [(.c (.i .i64 (w64 (0 - (CV.int (x32 (Int.toNat x34) 0)))))), (.c (.i .i64 (CV.int (x32 (Int.toNat x34) 1))))]]⟩

def s51v5 (x29 : Nat → CV) (x30 : Nat) (x31 : Nat) (x32 : Nat → Nat → CV) (x33 : Int) (x34 : Int) (x35 : Nat → Nat → CV) : St := ⟨[.u, .x (.c (.rp (.pr .str (.pr (.int .i64) (.pr (.int .i64) (.pr (.int .i64) (.pr .bool .nil))))) x29)), .u, .u, .x (.own 0 0 x30), .u, .x (.ptr 1 0), .x (.c (.ro false (.pr (.int .i64) (.pr (.int .i64) .nil)) x31 x32)), .x (.c (.i .i64 x33)), .x (.c (.i .i64 x34)), .x (.c (.b true)), .x (.c (.rp (.pr (.int .i64) (.pr (.int .i64) .nil)) (x32 (Int.toNat x34)))), .agg [(.c (.i .i64 (CV.int (x32 (Int.toNat x34) 0)))), (.c (.i .i64 (CV.int (x32 (Int.toNat x34) 1))))], .u, .u, .u, .u, .u, .u, .x (.c (.rp (.pr (.int .i64) (.pr .bool .nil)) (fun j => x29 (3 + j)))), .x (.c (.i .i64 (CV.int (x29 3)))), .x (.c (.i .i64 0)), .u, .u, .u, .u, .u, .u, .u, .u, .u, .u, .u, .u, .u, .u, .u, .u, .u, .u, .u, .u, .u, .u, .u, .u, .u, .u, .u, .u, .u, .u],
    [.arr (.pr (.int .i64) (.pr (.int .i64) .nil)) x30 x35, .box [(.c (.i .i64 (CV.int (x32 (Int.toNat x34) 0)))), (.c (.i .i64 (CV.int (x32 (Int.toNat x34) 1))))]]⟩

theorem r51v3 (fuel : Nat) (m : Nat) {ρ : Type} (k : Ex → St → Option ρ) (x29 : Nat → CV) (x31 : Nat) (x32 : Nat → Nat → CV) (x33 : Int) (x30 : Nat) (x34 : Int) (x35 : Nat → Nat → CV) :
    loopH (B51v3 (C47 fuel) fuel) N51v3 (m + 1) (s51v2 x29 x30 x31 x32 x33 x34 x35) k =
    (bif (decide (x34 < x33)) then (bif (inb x34 x31) then (bif (CV.bool (x29 4)) then (loopN (B51v2 (C47 fuel) fuel) N51v2 fuel (s51v4 x29 x30 x31 x32 x33 x34 x35) (kBlk 2 (kSeq (C47 fuel) fuel [19, 20, 21, 22, 23, 24, 25, 26, 27, 28, 29] A51v3 (kBlk 1 (kSeq (C47 fuel) fuel [6, 11, 12, 13, 14, 15, 16, 17, 18, 19, 20, 21, 22, 23, 24, 25, 26, 27, 28, 29, 30, 31, 32, 33, 34, 35, 36, 37, 38, 39, 40, 41, 42, 43, 44, 45] A51v5 (kLoop (B51v3 (C47 fuel) fuel) N51v3 m k)))))) else (loopN (B51v2 (C47 fuel) fuel) N51v2 fuel (s51v5 x29 x30 x31 x32 x33 x34 x35) (kBlk 2 (kSeq (C47 fuel) fuel [19, 20, 21, 22, 23, 24, 25, 26, 27, 28, 29] A51v3 (kBlk 1 (kSeq (C47 fuel) fuel [6, 11, 12, 13, 14, 15, 16, 17, 18, 19, 20, 21, 22, 23, 24, 25, 26, 27, 28, 29, 30, 31, 32, 33, 34, 35, 36, 37, 38, 39, 40, 41, 42, 43, 44, 45] A51v5 (kLoop (B51v3 (C47 fuel) fuel) N51v3 m k))))))) else none) else (k (.exit 0) (s51v3 x29 x30 x35))) := by kernel_rfl

theorem t51v1 (fuel : Nat) {ρ : Type} (k : Ex → St → Option ρ) (x29 : Nat → CV) (x30 : Nat) (x31 : Nat) (x32 : Nat → Nat → CV) (x33 : Int) (x34 : Int) (x35 : Nat → Nat → CV) :
    loopN (B51v2 (C47 fuel) fuel) N51v2 fuel (s51v4 x29 x30 x31 x32 x33 x34 x35) k =
    L51v2 fuel x29 x30 x31 x32 x33 x34 (CV.int (x29 3)) x35 fuel 0 (w64 (0 - (CV.int (x32 (Int.toNat x34) 0)))) (CV.int (x32 (Int.toNat x34) 1)) (fun x57 x58 => k (.exit 2) (s51v1 x29 x30 x31 x32 x33 x34 x35 x57 x58)) :=
  (loopN_at (st' := (s51v0 x29 x30 x31 x32 x33 x34 (CV.int (x29 3)) 0 x35 (w64 (0 - (CV.int (x32 (Int.toNat x34) 0)))) (CV.int (x32 (Int.toNat x34) 1)))) (by kernel_rfl)).trans (q51v2 fuel x29 x30 x31 x32 x33 x34 (CV.int (x29 3)) x35 k fuel 0 (w64 (0 - (CV.int (x32 (Int.toNat x34) 0)))) (CV.int (x32 (Int.toNat x34) 1)))

theorem g51v2 (fuel : Nat) (m : Nat) {ρ : Type} (k : Ex → St → Option ρ) (x29 : Nat → CV) (x30 : Nat) (x31 : Nat) (x32 : Nat → Nat → CV) (x33 : Int) (x34 : Int) (x35 : Nat → Nat → CV) (x59 : Int) (x60 : Int) :
    (kBlk 2 (kSeq (C47 fuel) fuel [19, 20, 21, 22, 23, 24, 25, 26, 27, 28, 29] A51v3 (kBlk 1 (kSeq (C47 fuel) fuel [6, 11, 12, 13, 14, 15, 16, 17, 18, 19, 20, 21, 22, 23, 24, 25, 26, 27, 28, 29, 30, 31, 32, 33, 34, 35, 36, 37, 38, 39, 40, 41, 42, 43, 44, 45] A51v5 (kLoop (B51v3 (C47 fuel) fuel) N51v3 m k))))) (.exit 2) (s51v1 x29 x30 x31 x32 x33 x34 x35 x59 x60) =
    (bif (Nat.ble (x30 + 1) 1073741824) then (loopH (B51v3 (C47 fuel) fuel) N51v3 m (s51v2 x29 (x30 + 1) x31 x32 x33 (w64 (x34 + 1)) (joinF x30 x35 (rowsF 2 [(.i .i64 (w64 (x59 + (CV.int (x29 1))))), (.i .i64 (w64 (x60 + (CV.int (x29 2)))))]))) k) else none) := by kernel_rfl

theorem t51v3 (fuel : Nat) {ρ : Type} (k : Ex → St → Option ρ) (x29 : Nat → CV) (x30 : Nat) (x31 : Nat) (x32 : Nat → Nat → CV) (x33 : Int) (x34 : Int) (x35 : Nat → Nat → CV) :
    loopN (B51v2 (C47 fuel) fuel) N51v2 fuel (s51v5 x29 x30 x31 x32 x33 x34 x35) k =
    L51v2 fuel x29 x30 x31 x32 x33 x34 (CV.int (x29 3)) x35 fuel 0 (CV.int (x32 (Int.toNat x34) 0)) (CV.int (x32 (Int.toNat x34) 1)) (fun x57 x58 => k (.exit 2) (s51v1 x29 x30 x31 x32 x33 x34 x35 x57 x58)) :=
  (loopN_at (st' := (s51v0 x29 x30 x31 x32 x33 x34 (CV.int (x29 3)) 0 x35 (CV.int (x32 (Int.toNat x34) 0)) (CV.int (x32 (Int.toNat x34) 1)))) (by kernel_rfl)).trans (q51v2 fuel x29 x30 x31 x32 x33 x34 (CV.int (x29 3)) x35 k fuel 0 (CV.int (x32 (Int.toNat x34) 0)) (CV.int (x32 (Int.toNat x34) 1)))

theorem g51v4 (fuel : Nat) (m : Nat) {ρ : Type} (k : Ex → St → Option ρ) (x29 : Nat → CV) (x30 : Nat) (x31 : Nat) (x32 : Nat → Nat → CV) (x33 : Int) (x34 : Int) (x35 : Nat → Nat → CV) (x61 : Int) (x62 : Int) :
    (kBlk 2 (kSeq (C47 fuel) fuel [19, 20, 21, 22, 23, 24, 25, 26, 27, 28, 29] A51v3 (kBlk 1 (kSeq (C47 fuel) fuel [6, 11, 12, 13, 14, 15, 16, 17, 18, 19, 20, 21, 22, 23, 24, 25, 26, 27, 28, 29, 30, 31, 32, 33, 34, 35, 36, 37, 38, 39, 40, 41, 42, 43, 44, 45] A51v5 (kLoop (B51v3 (C47 fuel) fuel) N51v3 m k))))) (.exit 2) (s51v1 x29 x30 x31 x32 x33 x34 x35 x61 x62) =
    (bif (Nat.ble (x30 + 1) 1073741824) then (loopH (B51v3 (C47 fuel) fuel) N51v3 m (s51v2 x29 (x30 + 1) x31 x32 x33 (w64 (x34 + 1)) (joinF x30 x35 (rowsF 2 [(.i .i64 (w64 (x61 + (CV.int (x29 1))))), (.i .i64 (w64 (x62 + (CV.int (x29 2)))))]))) k) else none) := by kernel_rfl

theorem q51v3 (fuel : Nat) (x29 : Nat → CV) (x31 : Nat) (x32 : Nat → Nat → CV) (x33 : Int) {ρ : Type} (k : Ex → St → Option ρ) : ∀ (m : Nat) (x30 : Nat) (x34 : Int) (x35 : Nat → Nat → CV),
    loopH (B51v3 (C47 fuel) fuel) N51v3 m (s51v2 x29 x30 x31 x32 x33 x34 x35) k = L51v3 fuel x29 x31 x32 x33 m x30 x34 x35 (fun x63 x64 => k (.exit 0) (s51v3 x29 x63 x64))
  | 0, _, _, _ => rfl
  | m + 1, x30, x34, x35 => by
    rw [r51v3]
    simp only [L51v3, q51v3 fuel x29 x31 x32 x33 k m, t51v1, g51v2, t51v3, g51v4]

def D51 {ρ : Type} (fuel : Nat) (x1 : Nat) (x2 : Nat → Nat → CV) (x3 : Nat → CV) (k : (Nat × (Nat → Nat → CV)) → Option ρ) : Option ρ :=
  (L51v3 fuel x3 x1 x2 (Int.ofNat x1) fuel 0 0 (fun _ _ => .any)
    (fun x65 x66 => (bif (CV.bool (x3 4)) then (bif (Nat.beq x65 x65) then (bif (Nat.beq x65 0) then (k (x65, x66)) else (k (x65, (revF x65 x66)))) else none) else (k (x65, x66)))))

def F51 (fuel : Nat) (x1 : Nat) (x2 : Nat → Nat → CV) (x3 : Nat → CV) : Option (Nat × (Nat → Nat → CV)) := D51 fuel x1 x2 x3 some

theorem n51 {ρ σ : Type} (fuel : Nat) (x1 : Nat) (x2 : Nat → Nat → CV) (x3 : Nat → CV) (k : (Nat × (Nat → Nat → CV)) → Option ρ) (g : ρ → Option σ) : ob (D51 fuel x1 x2 x3 k) g = D51 fuel x1 x2 x3 fun t => ob (k t) g := by
  simp only [D51, ob_bif, ob_ob, ob_none, nl51v3]

theorem f51 {ρ : Type} (fuel : Nat) (x1 : Nat) (x2 : Nat → Nat → CV) (x3 : Nat → CV) (k : (Nat × (Nat → Nat → CV)) → Option ρ) : D51 fuel x1 x2 x3 k = ob (F51 fuel x1 x2 x3) k := by
  unfold F51
  rw [n51]
  simp only [ob_some]

def s51v6 (x1 : Nat) (x2 : Nat → Nat → CV) (x3 : Nat → CV) : St := ⟨[.x (.c (.ro false (.pr (.int .i64) (.pr (.int .i64) .nil)) x1 x2)), .x (.c (.rp (.pr .str (.pr (.int .i64) (.pr (.int .i64) (.pr (.int .i64) (.pr .bool .nil))))) x3)), .undef, .x (.c (.ro true .nil 0 (fun _ _ => .any))), .x (.own 0 0 0), .undef, .undef, .x (.c (.ro false (.pr (.int .i64) (.pr (.int .i64) .nil)) x1 x2)), .x (.c (.i .i64 (Int.ofNat x1))), .x (.c (.i .i64 0)), .undef, .undef, .undef, .undef, .undef, .undef, .undef, .undef, .undef, .undef, .undef, .undef, .undef, .undef, .undef, .undef, .undef, .undef, .undef, .undef, .undef, .undef, .undef, .undef, .undef, .undef, .undef, .undef, .undef, .undef, .undef, .undef, .undef, .undef, .undef, .undef, .undef, .undef, .undef, .undef, .undef, .undef],
    [.arr (.pr (.int .i64) (.pr (.int .i64) .nil)) 0 (fun _ _ => .any)]⟩

theorem walk51 (fuel : Nat) (x1 : Nat) (x2 : Nat → Nat → CV) (x3 : Nat → CV) :
    evalF (C47 fuel) fuel A51 [.v (.ro false (.pr (.int .i64) (.pr (.int .i64) .nil)) x1 x2), .v (.rp (.pr .str (.pr (.int .i64) (.pr (.int .i64) (.pr (.int .i64) (.pr .bool .nil))))) x3)] =
    (loopN (B51v3 (C47 fuel) fuel) N51v3 fuel (s51v6 x1 x2 x3) (kBlk 0 (kSeq (C47 fuel) fuel [6, 7, 8, 9, 10, 11, 12, 13, 14, 15, 16, 17, 18, 19, 20, 21, 22, 23, 24, 25, 26, 27, 28, 29, 30, 31, 32, 33, 34, 35, 36, 37, 38, 39, 40, 41, 42, 43, 44, 45, 46] A51v9 (finish A51)))) := by kernel_rfl

theorem t51v5 (fuel : Nat) {ρ : Type} (k : Ex → St → Option ρ) (x1 : Nat) (x2 : Nat → Nat → CV) (x3 : Nat → CV) :
    loopN (B51v3 (C47 fuel) fuel) N51v3 fuel (s51v6 x1 x2 x3) k =
    L51v3 fuel x3 x1 x2 (Int.ofNat x1) fuel 0 0 (fun _ _ => .any) (fun x63 x64 => k (.exit 0) (s51v3 x3 x63 x64)) :=
  (loopN_at (st' := (s51v2 x3 0 x1 x2 (Int.ofNat x1) 0 (fun _ _ => .any))) (by kernel_rfl)).trans (q51v3 fuel x3 x1 x2 (Int.ofNat x1) k fuel 0 0 (fun _ _ => .any))

theorem g51v6 (fuel : Nat) (x3 : Nat → CV) (x65 : Nat) (x66 : Nat → Nat → CV) :
    (kBlk 0 (kSeq (C47 fuel) fuel [6, 7, 8, 9, 10, 11, 12, 13, 14, 15, 16, 17, 18, 19, 20, 21, 22, 23, 24, 25, 26, 27, 28, 29, 30, 31, 32, 33, 34, 35, 36, 37, 38, 39, 40, 41, 42, 43, 44, 45, 46] A51v9 (finish A51))) (.exit 0) (s51v3 x3 x65 x66) =
    (bif (CV.bool (x3 4)) then (bif (Nat.beq x65 x65) then (bif (Nat.beq x65 0) then (some [.v (.ro false (.pr (.int .i64) (.pr (.int .i64) .nil)) x65 x66)]) else (some [.v (.ro false (.pr (.int .i64) (.pr (.int .i64) .nil)) x65 (revF x65 x66))])) else none) else (some [.v (.ro false (.pr (.int .i64) (.pr (.int .i64) .nil)) x65 x66)])) := by kernel_rfl

theorem e51 (fuel : Nat) (x1 : Nat) (x2 : Nat → Nat → CV) (x3 : Nat → CV) : evalF (C47 fuel) fuel A51 [.v (.ro false (.pr (.int .i64) (.pr (.int .i64) .nil)) x1 x2), .v (.rp (.pr .str (.pr (.int .i64) (.pr (.int .i64) (.pr (.int .i64) (.pr .bool .nil))))) x3)] = ob (F51 fuel x1 x2 x3) fun t => some [.v (.ro false (.pr (.int .i64) (.pr (.int .i64) .nil)) t.1 t.2)] := by
  rw [walk51, ← f51]
  simp only [D51, t51v5, g51v6]

def O51 (fuel : Nat) : Ora where
  o := fun args {ρ} K =>
    wc args fun a1 l2 =>
    wv a1 fun c3 =>
    wL (.pr (.int .i64) (.pr (.int .i64) .nil)) c3 fun y4 y5 =>
    wc l2 fun a7 l8 =>
    wv a7 fun c9 =>
    wP (.pr .str (.pr (.int .i64) (.pr (.int .i64) (.pr (.int .i64) (.pr .bool .nil))))) c9 fun y10 =>
    wn l8 <|
    (ob (F51 fuel y4 y5 y10) fun t => K [.v (.ro false (.pr (.int .i64) (.pr (.int .i64) .nil)) t.1 t.2)])
  nat := fun args {ρ} K => by
    simp only [bind_wc, bind_wn, bind_wv, bind_wagg, bind_wI, bind_wB, bind_wS, bind_wL, bind_wP, bind_wFn, bind_ob, Option.bind_some]

theorem d51 {P : Program} (fuel : Nat) (hmix : P.follows .mixedOrders = true) (hC : Sound P (C47 fuel)) (hF : FFits P 51 A51) (args res : List A) (h : (O51 fuel).o args some = some res) : Den P 51 args res := by
  obtain ⟨a1, l2, rfl, z0⟩ := inv_wc h
  obtain ⟨c3, rfl, z1⟩ := inv_wv z0
  obtain ⟨y4, y5, h6, z2⟩ := inv_wL z1
  obtain ⟨a7, l8, rfl, z3⟩ := inv_wc z2
  obtain ⟨c9, rfl, z4⟩ := inv_wv z3
  obtain ⟨y10, h11, z5⟩ := inv_wP z4
  obtain ⟨hn, z6⟩ := inv_wn z5
  cases hn
  exact Den.weaken (.cons (WkA.v h6) (.cons (WkA.v (wk_rp h11)) .nil)) (evalF_sound hmix hC hF ((e51 fuel y4 y5 y10).trans z6))

def C48 (fuel : Nat) : Oracle := (C47 fuel).add 51 (fun _ => true) (O51 fuel)

/-- shipyard/region.Move -/
def A25v1 : AC := (.region 8 [
  ⟨(some 35), .binOp .add 3 (.tmp 28) (.const (.int .i64 1)) 3, none⟩,
  ⟨(some 28), .move (.tmp 35), none⟩] 0 none)
def A25v2 : AC := (.seq (.block 1
  (.seq (.region 5 [
    ⟨(some 30), .indexAddr 23 22 1 (.tmp 26) (.tmp 28), none⟩,
    ⟨(some 31), .load 22 none (.tmp 30), none⟩,
    ⟨(some 6), .assign (.tmp 31), none⟩] 0 none) []
    (.seq (.region 6 [
    ⟨(some 32), .move (.tmp 6), none⟩,
    ⟨(some 33), .call 50 [(.tmp 32), (.func 49)] [22, 62] .snap, none⟩] 0 none) []
    (.cond (.tmp 33)
    (.seq (.region 7 [
      ⟨(some 34), .build 25 [.c (.ro true .nil 0 (fun _ _ => .any)), .c (.ro true .nil 0 (fun _ _ => .any))] [(0, 1), (1, 1)] 0 [], none⟩,
      ⟨none, .store 25 2 (.tmp 4) (.tmp 34), none⟩] 0 none) []
      (.ret [0, 1, 2, 3, 5, 6, 7, 8, 9, 10, 11, 12, 13, 14, 15, 16, 17, 18, 19, 20, 21, 22, 23, 24, 25, 26, 27, 28, 29, 30, 31, 32, 33, 34, 35, 36, 37, 38, 39, 40, 41, 42, 43, 44, 45, 46, 47, 48, 49, 50, 51, 52, 53, 54, 55, 56, 57, 58]))
    .skip)))) [6, 30, 31, 32, 33, 34]
  A25v1)
def A25v3 : AC := (.seq (.region 4 [
  ⟨(some 29), .binOp .lss 3 (.tmp 28) (.tmp 27) 3, none⟩] 0 none) []
  (.seq (.cond (.tmp 29)
  .skip
  (.exit 0 [0, 1, 5, 6, 7, 8, 9, 10, 11, 12, 13, 14, 15, 16, 17, 18, 19, 20, 21, 22, 23, 24, 25, 26, 27, 28, 29, 30, 31, 32, 33, 34, 35, 36, 37, 38, 39, 40, 41, 42, 43, 44, 45, 46, 47, 48, 49, 50, 51, 52, 53, 54, 55, 56, 57, 58])) []
  A25v2))
def A25v4 : AC := (.seq (.block 3
  (.seq (.region 13 [
    ⟨(some 47), .indexAddr 23 22 1 (.tmp 43) (.tmp 45), none⟩,
    ⟨(some 48), .load 22 none (.tmp 47), none⟩,
    ⟨(some 10), .assign (.tmp 48), none⟩] 0 none) []
    (.region 14 [
    ⟨(some 49), .fieldAddr 25 (.tmp 8) 1 1, none⟩,
    ⟨(some 50), .load 23 none (.tmp 49), none⟩,
    ⟨(some 51), .move (.tmp 7), none⟩,
    ⟨(some 52), .move (.tmp 10), none⟩,
    ⟨(some 53), .callv (.tmp 51) [(.tmp 52)] [22] .freeze, none⟩,
    ⟨(some 54), .buildSlice 0 23 22 (.pr (.sl (.pr (.int .i64) (.pr (.int .i64) .nil))) .nil) 1 [.c (.ro true .nil 0 (fun _ _ => .any))] [(0, (.tmp 53))], none⟩,
    ⟨(some 55), .append 1 23 22 (.pr (.sl (.pr (.int .i64) (.pr (.int .i64) .nil))) .nil) 24 (.tmp 50) (.tmp 54), none⟩,
    ⟨(some 56), .fieldAddr 25 (.tmp 8) 1 1, none⟩,
    ⟨none, .store 23 1 (.tmp 56) (.tmp 55), none⟩] 2 (some [[], [0], [], [], [2, 3], [2, 3, 4], [0, 1, 2, 3, 4, 5], [0, 1, 2, 3, 4, 5, 6], [0, 1, 2, 3, 4, 5, 6, 7]])))) []
  (.region 15 [
  ⟨(some 57), .binOp .add 3 (.tmp 45) (.const (.int .i64 1)) 3, none⟩,
  ⟨(some 45), .move (.tmp 57), none⟩] 0 none))
def A25v5 : AC := (.seq (.region 12 [
  ⟨(some 46), .binOp .lss 3 (.tmp 45) (.tmp 44) 3, none⟩] 0 none) []
  (.seq (.cond (.tmp 46)
  .skip
  (.exit 2 [0, 1, 2, 3, 5, 6, 7, 9, 10, 11, 12, 13, 14, 15, 16, 17, 18, 19, 20, 21, 22, 23, 24, 25, 26, 27, 28, 29, 30, 31, 32, 33, 34, 35, 36, 37, 38, 39, 40, 41, 42, 43, 44, 45, 46, 47, 48, 49, 50, 51, 52, 53, 54, 55, 56, 57, 58])) []
  A25v4))
def A25v6 : AC := (.seq (.region 16 [
  ⟨(some 58), .load 25 (some 2) (.tmp 8), none⟩,
  ⟨none, .store 25 2 (.tmp 4) (.tmp 58), none⟩] 0 none) []
  (.ret [0, 1, 2, 3, 5, 6, 7, 8, 9, 10, 11, 12, 13, 14, 15, 16, 17, 18, 19, 20, 21, 22, 23, 24, 25, 26, 27, 28, 29, 30, 31, 32, 33, 34, 35, 36, 37, 38, 39, 40, 41, 42, 43, 44, 45, 46, 47, 48, 49, 50, 51, 52, 53, 54, 55, 56, 57, 58]))
def A25v7 : AC := (.seq (.region 9 [
  ⟨(some 36), .mkfn 51 [(.tmp 3)], none⟩,
  ⟨(some 7), .assign (.tmp 36), none⟩] 0 none) []
  (.seq (.region 10 [
  ⟨(some 37), .move (.tmp 7), none⟩,
  ⟨(some 38), .fieldAddr 25 (.tmp 2) 0 0, none⟩,
  ⟨(some 39), .load 22 none (.tmp 38), none⟩,
  ⟨(some 40), .callv (.tmp 37) [(.tmp 39)] [22] .freeze, none⟩,
  ⟨(some 41), .build 25 [.c (.ro true .nil 0 (fun _ _ => .any)), .c (.ro true .nil 0 (fun _ _ => .any))] [(0, 1), (1, 1)] 0 [(0, (.tmp 40))], none⟩,
  ⟨(some 8), .alloc 0 25 [.c (.ro true .nil 0 (fun _ _ => .any)), .c (.ro true .nil 0 (fun _ _ => .any))], none⟩,
  ⟨none, .store 25 2 (.tmp 8) (.tmp 41), none⟩] 1 none) []
  (.seq (.seq (.region 11 [
  ⟨(some 42), .fieldAddr 25 (.tmp 2) 1 1, none⟩,
  ⟨(some 43), .load 23 none (.tmp 42), none⟩,
  ⟨(some 44), .len 23 false (.tmp 43), none⟩,
  ⟨(some 45), .move (.const (.int .i64 0)), none⟩] 0 none) []
  (.block 2
  (.loop [.cell 8 1 (.pr (.sl (.pr (.int .i64) (.pr (.int .i64) .nil))) .nil)] [0, 1, 2, 3, 5, 6, 9, 10, 11, 12, 13, 14, 15, 16, 17, 18, 19, 20, 21, 22, 23, 24, 25, 26, 27, 28, 29, 30, 31, 32, 33, 34, 35, 36, 37, 38, 39, 40, 41, 42, 46, 47, 48, 49, 50, 51, 52, 53, 54, 55, 56, 57, 58]
    A25v5))) [10, 42, 43, 44, 45, 46, 47, 48, 49, 50, 51, 52, 53, 54, 55, 56, 57]
  A25v6)))
def A25v8 : AC := (.seq (.seq (.region 3 [
  ⟨(some 25), .load 25 (some 2) (.tmp 2), none⟩,
  ⟨(some 26), .call 42 [(.tmp 25)] [25] .freeze, none⟩,
  ⟨(some 27), .len 23 false (.tmp 26), none⟩,
  ⟨(some 28), .move (.const (.int .i64 0)), none⟩] 0 none) []
  (.block 0
  (.loop [] [0, 1, 5, 6, 7, 8, 9, 10, 11, 12, 13, 14, 15, 16, 17, 18, 19, 20, 21, 22, 23, 24, 25, 29, 30, 31, 32, 33, 34, 35, 36, 37, 38, 39, 40, 41, 42, 43, 44, 45, 46, 47, 48, 49, 50, 51, 52, 53, 54, 55, 56, 57, 58]
    A25v3))) [6, 25, 26, 27, 28, 29, 30, 31, 32, 33, 34, 35]
  A25v7)
def A25 : AF := ⟨59, [.cell 4 25 (some 2)],
  (.seq (.region 0 [
  ⟨(some 2), .box 0 25 (.tmp 0), none⟩,
  ⟨(some 3), .box 1 41 (.tmp 1), none⟩,
  ⟨(some 4), .alloc 2 25 [.c (.ro true .nil 0 (fun _ _ => .any)), .c (.ro true .nil 0 (fun _ _ => .any))], none⟩] 3 none) []
  (.seq (.seq (.region 1 [
  ⟨(some 11), .fieldAddr 41 (.tmp 3) 2 3, none⟩,
  ⟨(some 12), .load 3 none (.tmp 11), none⟩,
  ⟨(some 13), .binOp .lss 3 (.tmp 12) (.const (.int .i64 0)) 3, none⟩,
  ⟨(some 14), .move (.tmp 13), none⟩,
  ⟨(some 15), .fieldAddr 41 (.tmp 3) 2 3, (some (14, false))⟩,
  ⟨(some 16), .load 3 none (.tmp 15), (some (14, false))⟩,
  ⟨(some 17), .binOp .gtr 3 (.tmp 16) (.const (.int .i64 3)) 3, (some (14, false))⟩,
  ⟨(some 18), .pick (.tmp 14) (.const (.bool true)) (.tmp 17), none⟩,
  ⟨(some 19), .move (.tmp 18), none⟩,
  ⟨(some 20), .fieldAddr 41 (.tmp 3) 1 1, (some (19, false))⟩,
  ⟨(some 21), .load 34 (some 2) (.tmp 20), (some (19, false))⟩,
  ⟨(some 22), .call 49 [(.tmp 21)] [34] .snap, (some (19, false))⟩,
  ⟨(some 23), .pick (.tmp 19) (.const (.bool true)) (.tmp 22), none⟩] 0 none) []
  (.cond (.tmp 23)
  (.seq (.region 2 [
    ⟨(some 24), .build 25 [.c (.ro true .nil 0 (fun _ _ => .any)), .c (.ro true .nil 0 (fun _ _ => .any))] [(0, 1), (1, 1)] 0 [], none⟩,
    ⟨none, .store 25 2 (.tmp 4) (.tmp 24), none⟩] 0 none) []
    (.ret [0, 1, 2, 3, 5, 6, 7, 8, 9, 10, 11, 12, 13, 14, 15, 16, 17, 18, 19, 20, 21, 22, 23, 24, 25, 26, 27, 28, 29, 30, 31, 32, 33, 34, 35, 36, 37, 38, 39, 40, 41, 42, 43, 44, 45, 46, 47, 48, 49, 50, 51, 52, 53, 54, 55, 56, 57, 58]))
  .skip)) [11, 12, 13, 14, 15, 16, 17, 18, 19, 20, 21, 22, 23, 24]
  A25v8))⟩

def B25v1 (C : Oracle) (fuel : Nat) {ρ : Type} : St → (Ex → St → Option ρ) → Option ρ := fun st k => evalC C fuel A25v3 st k
def N25v1 : St → Option St := fun s => s.norm [0, 1, 5, 6, 7, 8, 9, 10, 11, 12, 13, 14, 15, 16, 17, 18, 19, 20, 21, 22, 23, 24, 25, 29, 30, 31, 32, 33, 34, 35, 36, 37, 38, 39, 40, 41, 42, 43, 44, 45, 46, 47, 48, 49, 50, 51, 52, 53, 54, 55, 56, 57, 58] 3

def s25v0 (x25 : Nat) (x26 : Nat → Nat → CV) (x27 : Int) (x28 : Int) (x29 : Nat) (x30 : Nat → Nat → CV) (x31 : Nat) (x32 : Nat → Nat → CV) (x33 : ByteArray) (x34 : Int) (x35 : Int) (x36 : Int) (x37 : Bool) : St := ⟨[.u, .u, .x (.ptr 0 0), .x (.ptr 1 0), .x (.ptr 2 0), .u, .u, .u, .u, .u, .u, .u, .u, .u, .u, .u, .u, .u, .u, .u, .u, .u, .u, .u, .u, .u, .x (.c (.ro false (.pr (.sl (.pr (.int .i64) (.pr (.int .i64) .nil))) .nil) x25 x26)), .x (.c (.i .i64 x27)), .x (.c (.i .i64 x28)), .u, .u, .u, .u, .u, .u, .u, .u, .u, .u, .u, .u, .u, .u, .u, .u, .u, .u, .u, .u, .u, .u, .u, .u, .u, .u, .u, .u, .u, .u],
    [.box [(.c (.ro false (.pr (.int .i64) (.pr (.int .i64) .nil)) x29 x30)), (.c (.ro false (.pr (.sl (.pr (.int .i64) (.pr (.int .i64) .nil))) .nil) x31 x32))], .box [(.c (.s x33)), (.c (.i .i64 x34)), (.c (.i .i64 x35)), (.c (.i .i64 x36)), (.c (.b x37))], .box [(.c (.ro true .nil 0 (fun _ _ => .any))), (.c (.ro true .nil 0 (fun _ _ => .any)))]]⟩

def s25v1 (x29 : Nat) (x30 : Nat → Nat → CV) (x31 : Nat) (x32 : Nat → Nat → CV) (x33 : ByteArray) (x34 : Int) (x35 : Int) (x36 : Int) (x37 : Bool) : St := ⟨[.u, .u, .u, .u, .x (.ptr 2 0), .u, .u, .u, .u, .u, .u, .u, .u, .u, .u, .u, .u, .u, .u, .u, .u, .u, .u, .u, .u, .u, .u, .u, .u, .u, .u, .u, .u, .u, .u, .u, .u, .u, .u, .u, .u, .u, .u, .u, .u, .u, .u, .u, .u, .u, .u, .u, .u, .u, .u, .u, .u, .u, .u],
    [.box [(.c (.ro false (.pr (.int .i64) (.pr (.int .i64) .nil)) x29 x30)), (.c (.ro false (.pr (.sl (.pr (.int .i64) (.pr (.int .i64) .nil))) .nil) x31 x32))], .box [(.c (.s x33)), (.c (.i .i64 x34)), (.c (.i .i64 x35)), (.c (.i .i64 x36)), (.c (.b x37))], .box [(.c (.ro true .nil 0 (fun _ _ => .any))), (.c (.ro true .nil 0 (fun _ _ => .any)))]]⟩

def s25v2 (x29 : Nat) (x30 : Nat → Nat → CV) (x31 : Nat) (x32 : Nat → Nat → CV) (x33 : ByteArray) (x34 : Int) (x35 : Int) (x36 : Int) (x37 : Bool) : St := ⟨[.u, .u, .x (.ptr 0 0), .x (.ptr 1 0), .x (.ptr 2 0), .u, .u, .u, .u, .u, .u, .u, .u, .u, .u, .u, .u, .u, .u, .u, .u, .u, .u, .u, .u, .u, .u, .u, .u, .u, .u, .u, .u, .u, .u, .u, .u, .u, .u, .u, .u, .u, .u, .u, .u, .u, .u, .u, .u, .u, .u, .u, .u, .u, .u, .u, .u, .u, .u],
    [.box [(.c (.ro false (.pr (.int .i64) (.pr (.int .i64) .nil)) x29 x30)), (.c (.ro false (.pr (.sl (.pr (.int .i64) (.pr (.int .i64) .nil))) .nil) x31 x32))], .box [(.c (.s x33)), (.c (.i .i64 x34)), (.c (.i .i64 x35)), (.c (.i .i64 x36)), (.c (.b x37))], .box [(.c (.ro true .nil 0 (fun _ _ => .any))), (.c (.ro true .nil 0 (fun _ _ => .any)))]]⟩

def L25v1 {ρ : Type} (fuel : Nat) (x25 : Nat) (x26 : Nat → Nat → CV) (x27 : Int) (x29 : Nat) (x30 : Nat → Nat → CV) (x31 : Nat) (x32 : Nat → Nat → CV) (x33 : ByteArray) (x34 : Int) (x35 : Int) (x36 : Int) (x37 : Bool) : Nat → Int → (Option ρ) → (Option ρ) → Option ρ
  | 0, _, _, _ => none
  | m + 1, x28, k0, k1 =>
    (bif (decide (x28 < x27)) then (bif (inb x28 x25) then (ob (F50c fuel (CV.len (x26 (Int.toNat x28) 0)) (CV.el (x26 (Int.toNat x28) 0))) fun x38 => (bif x38 then k0 else (L25v1 fuel x25 x26 x27 x29 x30 x31 x32 x33 x34 x35 x36 x37 m (w64 (x28 + 1)) k0 k1))) else none) else k1)

theorem nl25v1 {ρ σ : Type} (fuel : Nat) (x25 : Nat) (x26 : Nat → Nat → CV) (x27 : Int) (x29 : Nat) (x30 : Nat → Nat → CV) (x31 : Nat) (x32 : Nat → Nat → CV) (x33 : ByteArray) (x34 : Int) (x35 : Int) (x36 : Int) (x37 : Bool) (g : ρ → Option σ) : ∀ (m : Nat) (x28 : Int) (k0 : Option ρ) (k1 : Option ρ), ob (L25v1 fuel x25 x26 x27 x29 x30 x31 x32 x33 x34 x35 x36 x37 m x28 k0 k1) g = L25v1 fuel x25 x26 x27 x29 x30 x31 x32 x33 x34 x35 x36 x37 m x28 (ob k0 g) (ob k1 g)
  | 0, _, _, _ => rfl
  | m + 1, x28, k0, k1 => by
    simp only [L25v1, ob_bif, ob_ob, ob_none, nl25v1 fuel x25 x26 x27 x29 x30 x31 x32 x33 x34 x35 x36 x37 g m]

theorem r25v1 (fuel : Nat) (m : Nat) {ρ : Type} (k : Ex → St → Option ρ) (x25 : Nat) (x26 : Nat → Nat → CV) (x27 : Int) (x29 : Nat) (x30 : Nat → Nat → CV) (x31 : Nat) (x32 : Nat → Nat → CV) (x33 : ByteArray) (x34 : Int) (x35 : Int) (x36 : Int) (x37 : Bool) (x28 : Int) :
    loopH (B25v1 (C48 fuel) fuel) N25v1 (m + 1) (s25v0 x25 x26 x27 x28 x29 x30 x31 x32 x33 x34 x35 x36 x37) k =
    (bif (decide (x28 < x27)) then (bif (inb x28 x25) then (ob (F50c fuel (CV.len (x26 (Int.toNat x28) 0)) (CV.el (x26 (Int.toNat x28) 0))) fun x38 => (bif x38 then (k .ret (s25v1 x29 x30 x31 x32 x33 x34 x35 x36 x37)) else (loopH (B25v1 (C48 fuel) fuel) N25v1 m (s25v0 x25 x26 x27 (w64 (x28 + 1)) x29 x30 x31 x32 x33 x34 x35 x36 x37) k))) else none) else (k (.exit 0) (s25v2 x29 x30 x31 x32 x33 x34 x35 x36 x37))) := by kernel_rfl

theorem q25v1 (fuel : Nat) (x25 : Nat) (x26 : Nat → Nat → CV) (x27 : Int) (x29 : Nat) (x30 : Nat → Nat → CV) (x31 : Nat) (x32 : Nat → Nat → CV) (x33 : ByteArray) (x34 : Int) (x35 : Int) (x36 : Int) (x37 : Bool) {ρ : Type} (k : Ex → St → Option ρ) : ∀ (m : Nat) (x28 : Int),
    loopH (B25v1 (C48 fuel) fuel) N25v1 m (s25v0 x25 x26 x27 x28 x29 x30 x31 x32 x33 x34 x35 x36 x37) k = L25v1 fuel x25 x26 x27 x29 x30 x31 x32 x33 x34 x35 x36 x37 m x28 (k .ret (s25v1 x29 x30 x31 x32 x33 x34 x35 x36 x37)) (k (.exit 0) (s25v2 x29 x30 x31 x32 x33 x34 x35 x36 x37))
  | 0, _ => rfl
  | m + 1, x28 => by
    rw [r25v1]
    simp only [L25v1, q25v1 fuel x25 x26 x27 x29 x30 x31 x32 x33 x34 x35 x36 x37 k m]

def B25v2 (C : Oracle) (fuel : Nat) {ρ : Type} : St → (Ex → St → Option ρ) → Option ρ := fun st k => evalC C fuel A25v5 st k
def N25v2 : St → Option St := fun s => s.norm [0, 1, 2, 3, 5, 6, 9, 10, 11, 12, 13, 14, 15, 16, 17, 18, 19, 20, 21, 22, 23, 24, 25, 26, 27, 28, 29, 30, 31, 32, 33, 34, 35, 36, 37, 38, 39, 40, 41, 42, 46, 47, 48, 49, 50, 51, 52, 53, 54, 55, 56, 57, 58] 5

def s25v3 (x53 : ByteArray) (x54 : Int) (x55 : Int) (x56 : Int) (x57 : Bool) (x58 : Nat) (x59 : Nat → Nat → CV) (x60 : Int) (x61 : Int) (x62 : Nat) (x63 : Nat → Nat → CV) (x64 : Nat) (x65 : Nat → Nat → CV) (x66 : Nat) (x67 : Nat → Nat → CV) : St := ⟨[.u, .u, .u, .u, .x (.ptr 2 0), .u, .u, .x (.c (.fn 51 1 (listF [(.rp (.pr .str (.pr (.int .i64) (.pr (.int .i64) (.pr (.int .i64) (.pr .bool .nil))))) (listF [(.s x53), (.i .i64 x54), (.i .i64 x55), (.i .i64 x56), (.b x57)]))]))), .x (.ptr 3 0), .u, .u, .u, .u, .u, .u, .u, .u, .u, .u, .u, .u, .u, .u, .u, .u, .u, .u, .u, .u, .u, .u, .u, .u, .u, .u, .u, .u, .u, .u, .u, .u, .u, .u, .x (.c (.ro false (.pr (.sl (.pr (.int .i64) (.pr (.int .i64) .nil))) .nil) x58 x59)), .x (.c (.i .i64 x60)), .x (.c (.i .i64 x61)), .u, .u, .u, .u, .u, .u, .u, .u, .u, .u, .u, .u, .u],
    [.box [(.c (.ro false (.pr (.int .i64) (.pr (.int .i64) .nil)) x62 x63)), (.c (.ro false (.pr (.sl (.pr (.int .i64) (.pr (.int .i64) .nil))) .nil) x58 x59))], .dead, .box [(.c (.ro true .nil 0 (fun _ _ => .any))), (.c (.ro true .nil 0 (fun _ _ => .any)))], .box [(.c (.ro false (.pr (.int .i64) (.pr (.int .i64) .nil)) x64 x65)), (.own 4 0 x66)], .arr (.pr (.sl (.pr (.int .i64) (.pr (.int .i64) .nil))) .nil) x66 x67]⟩

def s25v4 (x62 : Nat) (x63 : Nat → Nat → CV) (x58 : Nat) (x59 : Nat → Nat → CV) (x64 : Nat) (x65 : Nat → Nat → CV) (x69 : Nat) (x70 : Nat → Nat → CV) : St := ⟨[.u, .u, .u, .u, .x (.ptr 2 0), .u, .u, .u, .x (.ptr 3 0), .u, .u, .u, .u, .u, .u, .u, .u, .u, .u, .u, .u, .u, .u, .u, .u, .u, .u, .u, .u, .u, .u, .u, .u, .u, .u, .u, .u, .u, .u, .u, .u, .u, .u, .u, .u, .u, .u, .u, .u, .u, .u, .u, .u, .u, .u, .u, .u, .u, .u],
    [.box [(.c (.ro false (.pr (.int .i64) (.pr (.int .i64) .nil)) x62 x63)), (.c (.ro false (.pr (.sl (.pr (.int .i64) (.pr (.int .i64) .nil))) .nil) x58 x59))], .dead, .box [(.c (.ro true .nil 0 (fun _ _ => .any))), (.c (.ro true .nil 0 (fun _ _ => .any)))], .box [(.c (.ro false (.pr (.int .i64) (.pr (.int .i64) .nil)) x64 x65)), (.own 4 0 x69)], .arr (.pr (.sl (.pr (.int .i64) (.pr (.int .i64) .nil))) .nil) x69 x70]⟩

def L25v2 {ρ : Type} (fuel : Nat) (x53 : ByteArray) (x54 : Int) (x55 : Int) (x56 : Int) (x57 : Bool) (x58 : Nat) (x59 : Nat → Nat → CV) (x60 : Int) (x62 : Nat) (x63 : Nat → Nat → CV) (x64 : Nat) (x65 : Nat → Nat → CV) : Nat → Int → Nat → (Nat → Nat → CV) → (Nat → (Nat → Nat → CV) → Option ρ) → Option ρ
  | 0, _, _, _, _ => none
  | m + 1, x61, x66, x67, k0 =>
    (bif (decide (x61 < x60)) then (bif (inb x61 x58) then (ob (F51 fuel (CV.len (x59 (Int.toNat x61) 0)) (CV.el (x59 (Int.toNat x61) 0)) (listF [(.s x53), (.i .i64 x54), (.i .i64 x55), (.i .i64 x56), (.b x57)])) fun x68 => (bif (Nat.ble (x66 + 1) 1073741824) then (L25v2 fuel x53 x54 x55 x56 x57 x58 x59 x60 x62 x63 x64 x65 m (w64 (x61 + 1)) (x66 + 1) (joinF x66 x67 (rowsF 1 [(.ro false (.pr (.int .i64) (.pr (.int .i64) .nil)) x68.1 x68.2)])) k0) else none)) else none) else (k0 x66 x67))

theorem nl25v2 {ρ σ : Type} (fuel : Nat) (x53 : ByteArray) (x54 : Int) (x55 : Int) (x56 : Int) (x57 : Bool) (x58 : Nat) (x59 : Nat → Nat → CV) (x60 : Int) (x62 : Nat) (x63 : Nat → Nat → CV) (x64 : Nat) (x65 : Nat → Nat → CV) (g : ρ → Option σ) : ∀ (m : Nat) (x61 : Int) (x66 : Nat) (x67 : Nat → Nat → CV) (k0 : Nat → (Nat → Nat → CV) → Option ρ), ob (L25v2 fuel x53 x54 x55 x56 x57 x58 x59 x60 x62 x63 x64 x65 m x61 x66 x67 k0) g = L25v2 fuel x53 x54 x55 x56 x57 x58 x59 x60 x62 x63 x64 x65 m x61 x66 x67 (fun x69 x70 => ob (k0 x69 x70) g)
  | 0, _, _, _, _ => rfl
  | m + 1, x61, x66, x67, k0 => by
    simp only [L25v2, ob_bif, ob_ob, ob_none, nl25v2 fuel x53 x54 x55 x56 x57 x58 x59 x60 x62 x63 x64 x65 g m]

theorem r25v2 (fuel : Nat) (m : Nat) {ρ : Type} (k : Ex → St → Option ρ) (x53 : ByteArray) (x54 : Int) (x55 : Int) (x56 : Int) (x57 : Bool) (x58 : Nat) (x59 : Nat → Nat → CV) (x60 : Int) (x62 : Nat) (x63 : Nat → Nat → CV) (x64 : Nat) (x65 : Nat → Nat → CV) (x61 : Int) (x66 : Nat) (x67 : Nat → Nat → CV) :
    loopH (B25v2 (C48 fuel) fuel) N25v2 (m + 1) (s25v3 x53 x54 x55 x56 x57 x58 x59 x60 x61 x62 x63 x64 x65 x66 x67) k =
    (bif (decide (x61 < x60)) then (bif (inb x61 x58) then (ob (F51 fuel (CV.len (x59 (Int.toNat x61) 0)) (CV.el (x59 (Int.toNat x61) 0)) (listF [(.s x53), (.i .i64 x54), (.i .i64 x55), (.i .i64 x56), (.b x57)])) fun x68 => (bif (Nat.ble (x66 + 1) 1073741824) then (loopH (B25v2 (C48 fuel) fuel) N25v2 m (s25v3 x53 x54 x55 x56 x57 x58 x59 x60 (w64 (x61 + 1)) x62 x63 x64 x65 (x66 + 1) (joinF x66 x67 (rowsF 1 [(.ro false (.pr (.int .i64) (.pr (.int .i64) .nil)) x68.1 x68.2)]))) k) else none)) else none) else (k (.exit 2) (s25v4 x62 x63 x58 x59 x64 x65 x66 x67))) := by kernel_rfl

theorem q25v2 (fuel : Nat) (x53 : ByteArray) (x54 : Int) (x55 : Int) (x56 : Int) (x57 : Bool) (x58 : Nat) (x59 : Nat → Nat → CV) (x60 : Int) (x62 : Nat) (x63 : Nat → Nat → CV) (x64 : Nat) (x65 : Nat → Nat → CV) {ρ : Type} (k : Ex → St → Option ρ) : ∀ (m : Nat) (x61 : Int) (x66 : Nat) (x67 : Nat → Nat → CV),
    loopH (B25v2 (C48 fuel) fuel) N25v2 m (s25v3 x53 x54 x55 x56 x57 x58 x59 x60 x61 x62 x63 x64 x65 x66 x67) k = L25v2 fuel x53 x54 x55 x56 x57 x58 x59 x60 x62 x63 x64 x65 m x61 x66 x67 (fun x69 x70 => k (.exit 2) (s25v4 x62 x63 x58 x59 x64 x65 x69 x70))
  | 0, _, _, _ => rfl
  | m + 1, x61, x66, x67 => by
    rw [r25v2]
    simp only [L25v2, q25v2 fuel x53 x54 x55 x56 x57 x58 x59 x60 x62 x63 x64 x65 k m]

def D25 {ρ : Type} (fuel : Nat) (x1 : Nat) (x2 : Nat → Nat → CV) (x3 : Nat) (x4 : Nat → Nat → CV) (x5 : ByteArray) (x6 : Int) (x7 : Int) (x8 : Int) (x9 : Bool) (k : (Bool × Nat × (Nat → Nat → CV) × Nat × (Nat → Nat → CV)) → Option ρ) : Option ρ :=
  (bif ((decide (x8 < 0)) == false) then (bif ((decide (x8 > 3)) == false) then (ob (F49 fuel x6 x7) fun x10 => (bif x10 then (k (true, 0, (fun _ _ => .any), 0, (fun _ _ => .any))) else (ob (F42 fuel x1 x2 x3 x4) fun x11 => (L25v1 fuel x11.1 x11.2 (Int.ofNat x11.1) x1 x2 x3 x4 x5 x6 x7 x8 x9 fuel 0
    (k (true, 0, (fun _ _ => .any), 0, (fun _ _ => .any)))
    (ob (F51 fuel x1 x2 (listF [(.s x5), (.i .i64 x6), (.i .i64 x7), (.i .i64 x8), (.b x9)])) fun x39 => (L25v2 fuel x5 x6 x7 x8 x9 x3 x4 (Int.ofNat x3) x1 x2 x39.1 x39.2 fuel 0 0 (fun _ _ => .any)
    (fun x71 x72 => (k (false, x39.1, x39.2, x71, x72))))))))) else (k (true, 0, (fun _ _ => .any), 0, (fun _ _ => .any)))) else (k (true, 0, (fun _ _ => .any), 0, (fun _ _ => .any))))

def FT25 (fuel : Nat) (x1 : Nat) (x2 : Nat → Nat → CV) (x3 : Nat) (x4 : Nat → Nat → CV) (x5 : ByteArray) (x6 : Int) (x7 : Int) (x8 : Int) (x9 : Bool) : Option (Bool × Nat × (Nat → Nat → CV) × Nat × (Nat → Nat → CV)) := D25 fuel x1 x2 x3 x4 x5 x6 x7 x8 x9 some

theorem n25 {ρ σ : Type} (fuel : Nat) (x1 : Nat) (x2 : Nat → Nat → CV) (x3 : Nat) (x4 : Nat → Nat → CV) (x5 : ByteArray) (x6 : Int) (x7 : Int) (x8 : Int) (x9 : Bool) (k : (Bool × Nat × (Nat → Nat → CV) × Nat × (Nat → Nat → CV)) → Option ρ) (g : ρ → Option σ) : ob (D25 fuel x1 x2 x3 x4 x5 x6 x7 x8 x9 k) g = D25 fuel x1 x2 x3 x4 x5 x6 x7 x8 x9 fun t => ob (k t) g := by
  simp only [D25, ob_bif, ob_ob, ob_none, nl25v1, nl25v2]

theorem f25 {ρ : Type} (fuel : Nat) (x1 : Nat) (x2 : Nat → Nat → CV) (x3 : Nat) (x4 : Nat → Nat → CV) (x5 : ByteArray) (x6 : Int) (x7 : Int) (x8 : Int) (x9 : Bool) (k : (Bool × Nat × (Nat → Nat → CV) × Nat × (Nat → Nat → CV)) → Option ρ) : D25 fuel x1 x2 x3 x4 x5 x6 x7 x8 x9 k = ob (FT25 fuel x1 x2 x3 x4 x5 x6 x7 x8 x9) k := by
  unfold FT25
  rw [n25]
  simp only [ob_some]

def s25v5 (x1 : Nat) (x2 : Nat → Nat → CV) (x3 : Nat) (x4 : Nat → Nat → CV) (x5 : ByteArray) (x6 : Int) (x7 : Int) (x8 : Int) (x9 : Bool) (x11 : Nat × (Nat → Nat → CV)) : St := ⟨[.agg [(.c (.ro false (.pr (.int .i64) (.pr (.int .i64) .nil)) x1 x2)), (.c (.ro false (.pr (.sl (.pr (.int .i64) (.pr (.int .i64) .nil))) .nil) x3 x4))], .agg [(.c (.s x5)), (.c (.i .i64 x6)), (.c (.i .i64 x7)), (.c (.i .i64 x8)), (.c (.b x9))], .x (.ptr 0 0), .x (.ptr 1 0), .x (.ptr 2 0), .undef, .undef, .undef, .undef, .undef, .undef, .u, .u, .u, .u, .u, .u, .u, .u, .u, .u, .u, .u, .u, .u, .agg [(.c (.ro false (.pr (.int .i64) (.pr (.int .i64) .nil)) x1 x2)), (.c (.ro false (.pr (.sl (.pr (.int .i64) (.pr (.int .i64) .nil))) .nil) x3 x4))], .x (.c (.ro false (.pr (.sl (.pr (.int .i64) (.pr (.int .i64) .nil))) .nil) x11.1 x11.2)), .x (.c (.i .i64 (Int.ofNat x11.1))), .x (.c (.i .i64 0)), .undef, .undef, .undef, .undef, .undef, .undef, .undef, .undef, .undef, .undef, .undef, .undef, .undef, .undef, .undef, .undef, .undef, .undef, .undef, .undef, .undef, .undef, .undef, .undef, .undef, .undef, .undef, .undef, .undef, .undef],
    [.box [(.c (.ro false (.pr (.int .i64) (.pr (.int .i64) .nil)) x1 x2)), (.c (.ro false (.pr (.sl (.pr (.int .i64) (.pr (.int .i64) .nil))) .nil) x3 x4))], .box [(.c (.s x5)), (.c (.i .i64 x6)), (.c (.i .i64 x7)), (.c (.i .i64 x8)), (.c (.b x9))], .box [(.c (.ro true .nil 0 (fun _ _ => .any))), (.c (.ro true .nil 0 (fun _ _ => .any)))]]⟩

theorem walk25 (fuel : Nat) (x1 : Nat) (x2 : Nat → Nat → CV) (x3 : Nat) (x4 : Nat → Nat → CV) (x5 : ByteArray) (x6 : Int) (x7 : Int) (x8 : Int) (x9 : Bool) :
    evalF (C48 fuel) fuel A25 [.agg [(.ro false (.pr (.int .i64) (.pr (.int .i64) .nil)) x1 x2), (.ro false (.pr (.sl (.pr (.int .i64) (.pr (.int .i64) .nil))) .nil) x3 x4)], .agg [(.s x5), (.i .i64 x6), (.i .i64 x7), (.i .i64 x8), (.b x9)]] =
    (bif ((decide (x8 < 0)) == false) then (bif ((decide (x8 > 3)) == false) then (ob (F49 fuel x6 x7) fun x10 => (bif x10 then (some [.agg [(.ro true .nil 0 (fun _ _ => .any)), (.ro true .nil 0 (fun _ _ => .any))]]) else (ob (F42 fuel x1 x2 x3 x4) fun x11 => (loopN (B25v1 (C48 fuel) fuel) N25v1 fuel (s25v5 x1 x2 x3 x4 x5 x6 x7 x8 x9 x11) (kBlk 0 (kSeq (C48 fuel) fuel [6, 25, 26, 27, 28, 29, 30, 31, 32, 33, 34, 35] A25v7 (finish A25))))))) else (some [.agg [(.ro true .nil 0 (fun _ _ => .any)), (.ro true .nil 0 (fun _ _ => .any))]])) else (some [.agg [(.ro true .nil 0 (fun _ _ => .any)), (.ro true .nil 0 (fun _ _ => .any))]])) := by kernel_rfl

theorem t25v1 (fuel : Nat) {ρ : Type} (k : Ex → St → Option ρ) (x1 : Nat) (x2 : Nat → Nat → CV) (x3 : Nat) (x4 : Nat → Nat → CV) (x5 : ByteArray) (x6 : Int) (x7 : Int) (x8 : Int) (x9 : Bool) (x11 : Nat × (Nat → Nat → CV)) :
    loopN (B25v1 (C48 fuel) fuel) N25v1 fuel (s25v5 x1 x2 x3 x4 x5 x6 x7 x8 x9 x11) k =
    L25v1 fuel x11.1 x11.2 (Int.ofNat x11.1) x1 x2 x3 x4 x5 x6 x7 x8 x9 fuel 0 (k .ret (s25v1 x1 x2 x3 x4 x5 x6 x7 x8 x9)) (k (.exit 0) (s25v2 x1 x2 x3 x4 x5 x6 x7 x8 x9)) :=
  (loopN_at (st' := (s25v0 x11.1 x11.2 (Int.ofNat x11.1) 0 x1 x2 x3 x4 x5 x6 x7 x8 x9)) (by kernel_rfl)).trans (q25v1 fuel x11.1 x11.2 (Int.ofNat x11.1) x1 x2 x3 x4 x5 x6 x7 x8 x9 k fuel 0)

theorem g25v2 (fuel : Nat) (x1 : Nat) (x2 : Nat → Nat → CV) (x3 : Nat) (x4 : Nat → Nat → CV) (x5 : ByteArray) (x6 : Int) (x7 : Int) (x8 : Int) (x9 : Bool) :
    (kBlk 0 (kSeq (C48 fuel) fuel [6, 25, 26, 27, 28, 29, 30, 31, 32, 33, 34, 35] A25v7 (finish A25))) .ret (s25v1 x1 x2 x3 x4 x5 x6 x7 x8 x9) =
    (some [.agg [(.ro true .nil 0 (fun _ _ => .any)), (.ro true .nil 0 (fun _ _ => .any))]]) := by kernel_rfl

def s25v6 (x5 : ByteArray) (x6 : Int) (x7 : Int) (x8 : Int) (x9 : Bool) (x1 : Nat) (x2 : Nat → Nat → CV) (x39 : Nat × (Nat → Nat → CV)) (x3 : Nat) (x4 : Nat → Nat → CV) : St := ⟨[.u, .u, .x (.ptr 0 0), .x (.c (.rp (.pr .str (.pr (.int .i64) (.pr (.int .i64) (.pr (.int .i64) (.pr .bool .nil))))) (listF [(.s x5), (.i .i64 x6), (.i .i64 x7), (.i .i64 x8), (.b x9)]))), .x (.ptr 2 0), .u, .u, .x (.c (.fn 51 1 (listF [(.rp (.pr .str (.pr (.int .i64) (.pr (.int .i64) (.pr (.int .i64) (.pr .bool .nil))))) (listF [(.s x5), (.i .i64 x6), (.i .i64 x7), (.i .i64 x8), (.b x9)]))]))), .x (.ptr 3 0), .u, .u, .u, .u, .u, .u, .u, .u, .u, .u, .u, .u, .u, .u, .u, .u, .u, .u, .u, .u, .u, .u, .u, .u, .u, .u, .u, .x (.c (.fn 51 1 (listF [(.rp (.pr .str (.pr (.int .i64) (.pr (.int .i64) (.pr (.int .i64) (.pr .bool .nil))))) (listF [(.s x5), (.i .i64 x6), (.i .i64 x7), (.i .i64 x8), (.b x9)]))]))), .x (.c (.fn 51 1 (listF [(.rp (.pr .str (.pr (.int .i64) (.pr (.int .i64) (.pr (.int .i64) (.pr .bool .nil))))) (listF [(.s x5), (.i .i64 x6), (.i .i64 x7), (.i .i64 x8), (.b x9)]))]))), .x (.ptr 0 0), .x (.c (.ro false (.pr (.int .i64) (.pr (.int .i64) .nil)) x1 x2)), .x (.c (.ro false (.pr (.int .i64) (.pr (.int .i64) .nil)) x39.1 x39.2)), .agg [(.c (.ro false (.pr (.int .i64) (.pr (.int .i64) .nil)) x39.1 x39.2)), (.c (.ro true .nil 0 (fun _ _ => .any)))], .x (.ptr 0 1), .x (.c (.ro false (.pr (.sl (.pr (.int .i64) (.pr (.int .i64) .nil))) .nil) x3 x4)), .x (.c (.i .i64 (Int.ofNat x3))), .x (.c (.i .i64 0)), .u, .u, .u, .u, .u, .u, .u, .u, .u, .u, .u, .u, .u],
    [.box [(.c (.ro false (.pr (.int .i64) (.pr (.int .i64) .nil)) x1 x2)), (.c (.ro false (.pr (.sl (.pr (.int .i64) (.pr (.int .i64) .nil))) .nil) x3 x4))], .dead, .box [(.c (.ro true .nil 0 (fun _ _ => .any))), (.c (.ro true .nil 0 (fun _ _ => .any)))], .box [(.c (.ro false (.pr (.int .i64) (.pr (.int .i64) .nil)) x39.1 x39.2)), (.own 4 0 0)], .arr (.pr (.sl (.pr (.int .i64) (.pr (.int .i64) .nil))) .nil) 0 (fun _ _ => .any)]⟩

theorem g25v3 (fuel : Nat) (x1 : Nat) (x2 : Nat → Nat → CV) (x3 : Nat) (x4 : Nat → Nat → CV) (x5 : ByteArray) (x6 : Int) (x7 : Int) (x8 : Int) (x9 : Bool) :
    (kBlk 0 (kSeq (C48 fuel) fuel [6, 25, 26, 27, 28, 29, 30, 31, 32, 33, 34, 35] A25v7 (finish A25))) (.exit 0) (s25v2 x1 x2 x3 x4 x5 x6 x7 x8 x9) =
    (ob (F51 fuel x1 x2 (listF [(.s x5), (.i .i64 x6), (.i .i64 x7), (.i .i64 x8), (.b x9)])) fun x39 => (loopN (B25v2 (C48 fuel) fuel) N25v2 fuel (s25v6 x5 x6 x7 x8 x9 x1 x2 x39 x3 x4) (kBlk 2 (kSeq (C48 fuel) fuel [10, 42, 43, 44, 45, 46, 47, 48, 49, 50, 51, 52, 53, 54, 55, 56, 57] A25v6 (finish A25))))) := by kernel_rfl

theorem t25v4 (fuel : Nat) {ρ : Type} (k : Ex → St → Option ρ) (x5 : ByteArray) (x6 : Int) (x7 : Int) (x8 : Int) (x9 : Bool) (x1 : Nat) (x2 : Nat → Nat → CV) (x39 : Nat × (Nat → Nat → CV)) (x3 : Nat) (x4 : Nat → Nat → CV) :
    loopN (B25v2 (C48 fuel) fuel) N25v2 fuel (s25v6 x5 x6 x7 x8 x9 x1 x2 x39 x3 x4) k =
    L25v2 fuel x5 x6 x7 x8 x9 x3 x4 (Int.ofNat x3) x1 x2 x39.1 x39.2 fuel 0 0 (fun _ _ => .any) (fun x69 x70 => k (.exit 2) (s25v4 x1 x2 x3 x4 x39.1 x39.2 x69 x70)) :=
  (loopN_at (st' := (s25v3 x5 x6 x7 x8 x9 x3 x4 (Int.ofNat x3) 0 x1 x2 x39.1 x39.2 0 (fun _ _ => .any))) (by kernel_rfl)).trans (q25v2 fuel x5 x6 x7 x8 x9 x3 x4 (Int.ofNat x3) x1 x2 x39.1 x39.2 k fuel 0 0 (fun _ _ => .any))

theorem g25v5 (fuel : Nat) (x1 : Nat) (x2 : Nat → Nat → CV) (x3 : Nat) (x4 : Nat → Nat → CV) (x39 : Nat × (Nat → Nat → CV)) (x71 : Nat) (x72 : Nat → Nat → CV) :
    (kBlk 2 (kSeq (C48 fuel) fuel [10, 42, 43, 44, 45, 46, 47, 48, 49, 50, 51, 52, 53, 54, 55, 56, 57] A25v6 (finish A25))) (.exit 2) (s25v4 x1 x2 x3 x4 x39.1 x39.2 x71 x72) =
    (some [.agg [(.ro false (.pr (.int .i64) (.pr (.int .i64) .nil)) x39.1 x39.2), (.ro false (.pr (.sl (.pr (.int .i64) (.pr (.int .i64) .nil))) .nil) x71 x72)]]) := by kernel_rfl

theorem e25 (fuel : Nat) (x1 : Nat) (x2 : Nat → Nat → CV) (x3 : Nat) (x4 : Nat → Nat → CV) (x5 : ByteArray) (x6 : Int) (x7 : Int) (x8 : Int) (x9 : Bool) : evalF (C48 fuel) fuel A25 [.agg [(.ro false (.pr (.int .i64) (.pr (.int .i64) .nil)) x1 x2), (.ro false (.pr (.sl (.pr (.int .i64) (.pr (.int .i64) .nil))) .nil) x3 x4)], .agg [(.s x5), (.i .i64 x6), (.i .i64 x7), (.i .i64 x8), (.b x9)]] = ob (FT25 fuel x1 x2 x3 x4 x5 x6 x7 x8 x9) fun t => some (bif t.1 then [.agg [(.ro true .nil 0 (fun _ _ => .any)), (.ro true .nil 0 (fun _ _ => .any))]] else [.agg [(.ro false (.pr (.int .i64) (.pr (.int .i64) .nil)) t.2.1 t.2.2.1), (.ro false (.pr (.sl (.pr (.int .i64) (.pr (.int .i64) .nil))) .nil) t.2.2.2.1 t.2.2.2.2)]]) := by
  rw [walk25, ← f25]
  simp only [D25, t25v1, g25v2, g25v3, t25v4, g25v5, cond_true, cond_false]

def F25 (fuel : Nat) (x1 : Nat) (x2 : Nat → Nat → CV) (x3 : Nat) (x4 : Nat → Nat → CV) (x5 : ByteArray) (x6 : Int) (x7 : Int) (x8 : Int) (x9 : Bool) : Option (Nat × (Nat → Nat → CV) × Nat × (Nat → Nat → CV)) := ob (FT25 fuel x1 x2 x3 x4 x5 x6 x7 x8 x9) fun t => some (bif t.1 then (0, (fun _ _ => .any), 0, (fun _ _ => .any)) else (t.2.1, t.2.2.1, t.2.2.2.1, t.2.2.2.2))

def O25 (fuel : Nat) : Ora where
  o := fun args {ρ} K =>
    wc args fun a1 l2 =>
    wagg a1 fun l3 =>
    wc l3 fun c4 l5 =>
    wL (.pr (.int .i64) (.pr (.int .i64) .nil)) c4 fun y6 y7 =>
    wc l5 fun c9 l10 =>
    wL (.pr (.sl (.pr (.int .i64) (.pr (.int .i64) .nil))) .nil) c9 fun y11 y12 =>
    wn l10 <|
    wc l2 fun a14 l15 =>
    wagg a14 fun l16 =>
    wc l16 fun c17 l18 =>
    wS c17 fun y19 =>
    wc l18 fun c21 l22 =>
    wI .i64 c21 fun y23 =>
    wc l22 fun c25 l26 =>
    wI .i64 c25 fun y27 =>
    wc l26 fun c29 l30 =>
    wI .i64 c29 fun y31 =>
    wc l30 fun c33 l34 =>
    wB c33 fun y35 =>
    wn l34 <|
    wn l15 <|
    (ob (F25 fuel y6 y7 y11 y12 y19 y23 y27 y31 y35) fun t => K [.agg [(.ro false (.pr (.int .i64) (.pr (.int .i64) .nil)) t.1 t.2.1), (.ro false (.pr (.sl (.pr (.int .i64) (.pr (.int .i64) .nil))) .nil) t.2.2.1 t.2.2.2)]])
  nat := fun args {ρ} K => by
    simp only [bind_wc, bind_wn, bind_wv, bind_wagg, bind_wI, bind_wB, bind_wS, bind_wL, bind_wP, bind_wFn, bind_ob, Option.bind_some]

theorem d25 {P : Program} (fuel : Nat) (hmix : P.follows .mixedOrders = true) (hC : Sound P (C48 fuel)) (hF : FFits P 25 A25) (args res : List A) (h : (O25 fuel).o args some = some res) : Den P 25 args res := by
  obtain ⟨a1, l2, rfl, z0⟩ := inv_wc h
  obtain ⟨l3, rfl, z1⟩ := inv_wagg z0
  obtain ⟨c4, l5, rfl, z2⟩ := inv_wc z1
  obtain ⟨y6, y7, h8, z3⟩ := inv_wL z2
  obtain ⟨c9, l10, rfl, z4⟩ := inv_wc z3
  obtain ⟨y11, y12, h13, z5⟩ := inv_wL z4
  obtain ⟨hn, z6⟩ := inv_wn z5
  cases hn
  obtain ⟨a14, l15, rfl, z7⟩ := inv_wc z6
  obtain ⟨l16, rfl, z8⟩ := inv_wagg z7
  obtain ⟨c17, l18, rfl, z9⟩ := inv_wc z8
  obtain ⟨y19, h20, z10⟩ := inv_wS z9
  obtain ⟨c21, l22, rfl, z11⟩ := inv_wc z10
  obtain ⟨y23, h24, z12⟩ := inv_wI z11
  obtain ⟨c25, l26, rfl, z13⟩ := inv_wc z12
  obtain ⟨y27, h28, z14⟩ := inv_wI z13
  obtain ⟨c29, l30, rfl, z15⟩ := inv_wc z14
  obtain ⟨y31, h32, z16⟩ := inv_wI z15
  obtain ⟨c33, l34, rfl, z17⟩ := inv_wc z16
  obtain ⟨y35, h36, z18⟩ := inv_wB z17
  obtain ⟨hn, z19⟩ := inv_wn z18
  cases hn
  obtain ⟨hn, z20⟩ := inv_wn z19
  cases hn
  obtain ⟨u, hu, hr⟩ := ob_inv z20
  cases hr
  obtain ⟨t, ht, hv⟩ := ob_inv (show ob (FT25 fuel y6 y7 y11 y12 y19 y23 y27 y31 y35) _ = some u from hu)
  cases hv
  refine Den.results ?_ (Den.weaken (.cons (WkA.agg (.cons h8 (.cons h13 .nil))) (.cons (WkA.agg (.cons (Wk.s h20) (.cons (Wk.i h24) (.cons (Wk.i h28) (.cons (Wk.i h32) (.cons (Wk.b h36) .nil)))))) .nil)) (evalF_sound hmix hC hF ((e25 fuel y6 y7 y11 y12 y19 y23 y27 y31 y35).trans (by rw [ht]; rfl))))
  obtain ⟨b, t⟩ := t
  cases b with
  | true => exact (.cons (WkA.agg (.cons (Wk.ro (by rfl)) (.cons (Wk.ro (by rfl)) .nil))) .nil)
  | false =>
    exact (.cons (WkA.agg (.cons (Wk.refl _) (.cons (Wk.refl _) .nil))) .nil)

def C49 (fuel : Nat) : Oracle := (C48 fuel).add 25 (fun _ => true) (O25 fuel)

/-- shipyard/poly.Moment6 -/
def A43v1 : AC := (.seq (.block 1
  (.seq (.region 5 [
    ⟨(some 15), .move (.tmp 13), none⟩,
    ⟨(some 16), .indexAddr 22 34 2 (.tmp 11) (.tmp 13), none⟩,
    ⟨(some 17), .load 34 (some 2) (.tmp 16), none⟩,
    ⟨(some 5), .alloc 0 34 [.c (.i .i64 0), .c (.i .i64 0)], none⟩,
    ⟨(some 4), .assign (.tmp 15), none⟩,
    ⟨none, .store 34 2 (.tmp 5) (.tmp 17), none⟩] 1 none) []
    (.seq (.region 6 [
    ⟨(some 18), .move (.tmp 0), none⟩,
    ⟨(some 19), .move (.tmp 4), none⟩,
    ⟨(some 20), .binOp .add 3 (.tmp 19) (.const (.int .i64 1)) 3, none⟩,
    ⟨(some 21), .move (.tmp 0), none⟩,
    ⟨(some 22), .len 22 false (.tmp 21), none⟩,
    ⟨(some 23), .binOp .rem 3 (.tmp 20) (.tmp 22) 3, none⟩,
    ⟨(some 24), .indexAddr 22 34 2 (.tmp 18) (.tmp 23), none⟩,
    ⟨(some 25), .load 34 (some 2) (.tmp 24), none⟩,
    ⟨(some 6), .alloc 0 34 [.c (.i .i64 0), .c (.i .i64 0)], none⟩,
    ⟨none, .store 34 2 (.tmp 6) (.tmp 25), none⟩] 1 none) []
    (.seq (.region 7 [
    ⟨(some 26), .fieldAddr 34 (.tmp 5) 0 0, none⟩,
    ⟨(some 27), .load 3 none (.tmp 26), none⟩,
    ⟨(some 28), .fieldAddr 34 (.tmp 6) 1 1, none⟩,
    ⟨(some 29), .load 3 none (.tmp 28), none⟩,
    ⟨(some 30), .binOp .mul 3 (.tmp 27) (.tmp 29) 3, none⟩,
    ⟨(some 31), .fieldAddr 34 (.tmp 6) 0 0, none⟩,
    ⟨(some 32), .load 3 none (.tmp 31), none⟩,
    ⟨(some 33), .fieldAddr 34 (.tmp 5) 1 1, none⟩,
    ⟨(some 34), .load 3 none (.tmp 33), none⟩,
    ⟨(some 35), .binOp .mul 3 (.tmp 32) (.tmp 34) 3, none⟩,
    ⟨(some 36), .binOp .sub 3 (.tmp 30) (.tmp 35) 3, none⟩,
    ⟨(some 7), .assign (.tmp 36), none⟩] 0 none) []
    (.seq (.region 8 [
    ⟨(some 37), .move (.tmp 2), none⟩,
    ⟨(some 38), .fieldAddr 34 (.tmp 5) 0 0, none⟩,
    ⟨(some 39), .load 3 none (.tmp 38), none⟩,
    ⟨(some 40), .fieldAddr 34 (.tmp 6) 0 0, none⟩,
    ⟨(some 41), .load 3 none (.tmp 40), none⟩,
    ⟨(some 42), .binOp .add 3 (.tmp 39) (.tmp 41) 3, none⟩,
    ⟨(some 43), .move (.tmp 7), none⟩,
    ⟨(some 44), .binOp .mul 3 (.tmp 42) (.tmp 43) 3, none⟩,
    ⟨(some 45), .binOp .add 3 (.tmp 37) (.tmp 44) 3, none⟩,
    ⟨(some 2), .assign (.tmp 45), none⟩] 0 none) []
    (.region 9 [
    ⟨(some 46), .move (.tmp 3), none⟩,
    ⟨(some 47), .fieldAddr 34 (.tmp 5) 1 1, none⟩,
    ⟨(some 48), .load 3 none (.tmp 47), none⟩,
    ⟨(some 49), .fieldAddr 34 (.tmp 6) 1 1, none⟩,
    ⟨(some 50), .load 3 none (.tmp 49), none⟩,
    ⟨(some 51), .binOp .add 3 (.tmp 48) (.tmp 50) 3, none⟩,
    ⟨(some 52), .move (.tmp 7), none⟩,
    ⟨(some 53), .binOp .mul 3 (.tmp 51) (.tmp 52) 3, none⟩,
    ⟨(some 54), .binOp .add 3 (.tmp 46) (.tmp 53) 3, none⟩,
    ⟨(some 3), .assign (.tmp 54), none⟩] 0 none)))))) []
  (.region 10 [
  ⟨(some 55), .binOp .add 3 (.tmp 13) (.const (.int .i64 1)) 3, none⟩,
  ⟨(some 13), .move (.tmp 55), none⟩] 0 none))
def A43v2 : AC := (.seq (.region 4 [
  ⟨(some 14), .binOp .lss 3 (.tmp 13) (.tmp 12) 3, none⟩] 0 none) []
  (.seq (.cond (.tmp 14)
  .skip
  (.exit 0 [0, 1, 4, 5, 6, 7, 8, 9, 10, 11, 12, 13, 14, 15, 16, 17, 18, 19, 20, 21, 22, 23, 24, 25, 26, 27, 28, 29, 30, 31, 32, 33, 34, 35, 36, 37, 38, 39, 40, 41, 42, 43, 44, 45, 46, 47, 48, 49, 50, 51, 52, 53, 54, 55, 56, 57])) []
  A43v1))
def A43v3 : AC := (.seq (.region 11 [
  ⟨(some 56), .move (.tmp 2), none⟩,
  ⟨(some 57), .move (.tmp 3), none⟩,
  ⟨(some 2), .assign (.tmp 56), none⟩,
  ⟨(some 3), .assign (.tmp 57), none⟩] 0 none) []
  (.ret [0, 1, 4, 5, 6, 7, 8, 9, 10, 11, 12, 13, 14, 15, 16, 17, 18, 19, 20, 21, 22, 23, 24, 25, 26, 27, 28, 29, 30, 31, 32, 33, 34, 35, 36, 37, 38, 39, 40, 41, 42, 43, 44, 45, 46, 47, 48, 49, 50, 51, 52, 53, 54, 55, 56, 57]))
def A43v4 : AC := (.seq (.seq (.region 3 [
  ⟨(some 11), .move (.tmp 0), none⟩,
  ⟨(some 12), .len 22 false (.tmp 11), none⟩,
  ⟨(some 13), .move (.const (.int .i64 0)), none⟩] 0 none) []
  (.block 0
  (.loop [] [1, 4, 5, 6, 7, 8, 9, 10, 14, 15, 16, 17, 18, 19, 20, 21, 22, 23, 24, 25, 26, 27, 28, 29, 30, 31, 32, 33, 34, 35, 36, 37, 38, 39, 40, 41, 42, 43, 44, 45, 46, 47, 48, 49, 50, 51, 52, 53, 54, 55, 56, 57]
    A43v2))) [4, 5, 6, 7, 11, 12, 13, 14, 15, 16, 17, 18, 19, 20, 21, 22, 23, 24, 25, 26, 27, 28, 29, 30, 31, 32, 33, 34, 35, 36, 37, 38, 39, 40, 41, 42, 43, 44, 45, 46, 47, 48, 49, 50, 51, 52, 53, 54, 55]
  A43v3)
def A43 : AF := ⟨58, [.tmp 2, .tmp 3],
  (.seq (.region 0 [
  ⟨(some 2), .assign (.const (.int .i64 0)), none⟩,
  ⟨(some 3), .assign (.const (.int .i64 0)), none⟩] 0 none) []
  (.seq (.seq (.region 1 [
  ⟨(some 8), .move (.tmp 0), none⟩,
  ⟨(some 9), .call 33 [(.tmp 8)] [22] .snap, none⟩,
  ⟨(some 10), .binOp .neq 27 (.tmp 9) (.const (.int .i64 0)) 27, none⟩] 0 none) []
  (.cond (.tmp 10)
  (.seq (.region 2 [
    ⟨(some 2), .assign (.const (.int .i64 0)), none⟩,
    ⟨(some 3), .assign (.const (.int .i64 0)), none⟩] 0 none) []
    (.ret [0, 1, 4, 5, 6, 7, 8, 9, 10, 11, 12, 13, 14, 15, 16, 17, 18, 19, 20, 21, 22, 23, 24, 25, 26, 27, 28, 29, 30, 31, 32, 33, 34, 35, 36, 37, 38, 39, 40, 41, 42, 43, 44, 45, 46, 47, 48, 49, 50, 51, 52, 53, 54, 55, 56, 57]))
  .skip)) [8, 9, 10]
  A43v4))⟩

def B43v1 (C : Oracle) (fuel : Nat) {ρ : Type} : St → (Ex → St → Option ρ) → Option ρ := fun st k => evalC C fuel A43v2 st k
def N43v1 : St → Option St := fun s => s.norm [1, 4, 5, 6, 7, 8, 9, 10, 14, 15, 16, 17, 18, 19, 20, 21, 22, 23, 24, 25, 26, 27, 28, 29, 30, 31, 32, 33, 34, 35, 36, 37, 38, 39, 40, 41, 42, 43, 44, 45, 46, 47, 48, 49, 50, 51, 52, 53, 54, 55, 56, 57] 0

def s43v0 (x7 : Nat) (x8 : Nat → Nat → CV) (x9 : Int) (x10 : Int) (x11 : Int) (x12 : Int) : St := ⟨[.x (.c (.ro false (.pr (.int .i64) (.pr (.int .i64) .nil)) x7 x8)), .u, .x (.c (.i .i64 x9)), .x (.c (.i .i64 x10)), .u, .u, .u, .u, .u, .u, .u, .x (.c (.ro false (.pr (.int .i64) (.pr (.int .i64) .nil)) x7 x8)), .x (.c (.i .i64 x11)), .x (.c (.i .i64 x12)), .u, .u, .u, .u, .u, .u, .u, .u, .u, .u, .u, .u, .u, .u, .u, .u, .u, .u, .u, .u, .u, .u, .u, .u, .u, .u, .u, .u, .u, .u, .u, .u, .u, .u, .u, .u, .u, .u, .u, .u, .u, .u, .u, .u],
    []⟩

def s43v1 (x13 : Int) (x14 : Int) : St := ⟨[.u, .u, .x (.c (.i .i64 x13)), .x (.c (.i .i64 x14)), .u, .u, .u, .u, .u, .u, .u, .u, .u, .u, .u, .u, .u, .u, .u, .u, .u, .u, .u, .u, .u, .u, .u, .u, .u, .u, .u, .u, .u, .u, .u, .u, .u, .u, .u, .u, .u, .u, .u, .u, .u, .u, .u, .u, .u, .u, .u, .u, .u, .u, .u, .u, .u, .u],
    []⟩

def L43v1 {ρ : Type} (fuel : Nat) (x7 : Nat) (x8 : Nat → Nat → CV) (x11 : Int) : Nat → Int → Int → Int → (Int → Int → Option ρ) → Option ρ
  | 0, _, _, _, _ => none
  | m + 1, x9, x10, x12, k0 =>
    (bif (decide (x12 < x11)) then (bif (inb x12 x7) then (bif ((Int.ofNat x7) == 0) then none else (bif (inb (Int.tmod (w64 (x12 + 1)) (Int.ofNat x7)) x7) then (L43v1 fuel x7 x8 x11 m (w64 (x9 + (w64 ((w64 ((CV.int (x8 (Int.toNat x12) 0)) + (CV.int (x8 (Int.toNat (Int.tmod (w64 (x12 + 1)) (Int.ofNat x7))) 0)))) * (w64 ((w64 ((CV.int (x8 (Int.toNat x12) 0)) * (CV.int (x8 (Int.toNat (Int.tmod (w64 (x12 + 1)) (Int.ofNat x7))) 1)))) - (w64 ((CV.int (x8 (Int.toNat (Int.tmod (w64 (x12 + 1)) (Int.ofNat x7))) 0)) * (CV.int (x8 (Int.toNat x12) 1)))))))))) (w64 (x10 + (w64 ((w64 ((CV.int (x8 (Int.toNat x12) 1)) + (CV.int (x8 (Int.toNat (Int.tmod (w64 (x12 + 1)) (Int.ofNat x7))) 1)))) * (w64 ((w64 ((CV.int (x8 (Int.toNat x12) 0)) * (CV.int (x8 (Int.toNat (Int.tmod (w64 (x12 + 1)) (Int.ofNat x7))) 1)))) - (w64 ((CV.int (x8 (Int.toNat (Int.tmod (w64 (x12 + 1)) (Int.ofNat x7))) 0)) * (CV.int (x8 (Int.toNat x12) 1)))))))))) (w64 (x12 + 1)) k0) else none)) else none) else (k0 x9 x10))

theorem nl43v1 {ρ σ : Type} (fuel : Nat) (x7 : Nat) (x8 : Nat → Nat → CV) (x11 : Int) (g : ρ → Option σ) : ∀ (m : Nat) (x9 : Int) (x10 : Int) (x12 : Int) (k0 : Int → Int → Option ρ), ob (L43v1 fuel x7 x8 x11 m x9 x10 x12 k0) g = L43v1 fuel x7 x8 x11 m x9 x10 x12 (fun x13 x14 => ob (k0 x13 x14) g)
  | 0, _, _, _, _ => rfl
  | m + 1, x9, x10, x12, k0 => by
    simp only [L43v1, ob_bif, ob_ob, ob_none, nl43v1 fuel x7 x8 x11 g m]

theorem r43v1 (fuel : Nat) (m : Nat) {ρ : Type} (k : Ex → St → Option ρ) (x7 : Nat) (x8 : Nat → Nat → CV) (x11 : Int) (x9 : Int) (x10 : Int) (x12 : Int) :
    loopH (B43v1 (C49 fuel) fuel) N43v1 (m + 1) (s43v0 x7 x8 x9 x10 x11 x12) k =
    (bif (decide (x12 < x11)) then (bif (inb x12 x7) then (bif ((Int.ofNat x7) == 0) then none else (bif (inb (Int.tmod (w64 (x12 + 1)) (Int.ofNat x7)) x7) then (loopH (B43v1 (C49 fuel) fuel) N43v1 m (s43v0 x7 x8 (w64 (x9 + (w64 ((w64 ((CV.int (x8 (Int.toNat x12) 0)) + (CV.int (x8 (Int.toNat (Int.tmod (w64 (x12 + 1)) (Int.ofNat x7))) 0)))) * (w64 ((w64 ((CV.int (x8 (Int.toNat x12) 0)) * (CV.int (x8 (Int.toNat (Int.tmod (w64 (x12 + 1)) (Int.ofNat x7))) 1)))) - (w64 ((CV.int (x8 (Int.toNat (Int.tmod (w64 (x12 + 1)) (Int.ofNat x7))) 0)) * (CV.int (x8 (Int.toNat x12) 1)))))))))) (w64 (x10 + (w64 ((w64 ((CV.int (x8 (Int.toNat x12) 1)) + (CV.int (x8 (Int.toNat (Int.tmod (w64 (x12 + 1)) (Int.ofNat x7))) 1)))) * (w64 ((w64 ((CV.int (x8 (Int.toNat x12) 0)) * (CV.int (x8 (Int.toNat (Int.tmod (w64 (x12 + 1)) (Int.ofNat x7))) 1)))) - (w64 ((CV.int (x8 (Int.toNat (Int.tmod (w64 (x12 + 1)) (Int.ofNat x7))) 0)) * (CV.int (x8 (Int.toNat x12) 1)))))))))) x11 (w64 (x12 + 1))) k) else none)) else none) else (k (.exit 0) (s43v1 x9 x10))) := by kernel_rfl

theorem q43v1 (fuel : Nat) (x7 : Nat) (x8 : Nat → Nat → CV) (x11 : Int) {ρ : Type} (k : Ex → St → Option ρ) : ∀ (m : Nat) (x9 : Int) (x10 : Int) (x12 : Int),
    loopH (B43v1 (C49 fuel) fuel) N43v1 m (s43v0 x7 x8 x9 x10 x11 x12) k = L43v1 fuel x7 x8 x11 m x9 x10 x12 (fun x13 x14 => k (.exit 0) (s43v1 x13 x14))
  | 0, _, _, _ => rfl
  | m + 1, x9, x10, x12 => by
    rw [r43v1]
    simp only [L43v1, q43v1 fuel x7 x8 x11 k m]

def D43 {ρ : Type} (fuel : Nat) (x1 : Nat) (x2 : Nat → Nat → CV) (k : (Int × Int) → Option ρ) : Option ρ :=
  (ob (F33 fuel x1 x2) fun x3 => (bif (x3 != 0) then (k (0, 0)) else (L43v1 fuel x1 x2 (Int.ofNat x1) fuel 0 0 0
    (fun x15 x16 => (k (x15, x16))))))

def F43 (fuel : Nat) (x1 : Nat) (x2 : Nat → Nat → CV) : Option (Int × Int) := D43 fuel x1 x2 some

theorem n43 {ρ σ : Type} (fuel : Nat) (x1 : Nat) (x2 : Nat → Nat → CV) (k : (Int × Int) → Option ρ) (g : ρ → Option σ) : ob (D43 fuel x1 x2 k) g = D43 fuel x1 x2 fun t => ob (k t) g := by
  simp only [D43, ob_bif, ob_ob, ob_none, nl43v1]

theorem f43 {ρ : Type} (fuel : Nat) (x1 : Nat) (x2 : Nat → Nat → CV) (k : (Int × Int) → Option ρ) : D43 fuel x1 x2 k = ob (F43 fuel x1 x2) k := by
  unfold F43
  rw [n43]
  simp only [ob_some]

def s43v2 (x1 : Nat) (x2 : Nat → Nat → CV) : St := ⟨[.x (.c (.ro false (.pr (.int .i64) (.pr (.int .i64) .nil)) x1 x2)), .undef, .x (.c (.i .i64 0)), .x (.c (.i .i64 0)), .undef, .undef, .undef, .undef, .u, .u, .u, .x (.c (.ro false (.pr (.int .i64) (.pr (.int .i64) .nil)) x1 x2)), .x (.c (.i .i64 (Int.ofNat x1))), .x (.c (.i .i64 0)), .undef, .undef, .undef, .undef, .undef, .undef, .undef, .undef, .undef, .undef, .undef, .undef, .undef, .undef, .undef, .undef, .undef, .undef, .undef, .undef, .undef, .undef, .undef, .undef, .undef, .undef, .undef, .undef, .undef, .undef, .undef, .undef, .undef, .undef, .undef, .undef, .undef, .undef, .undef, .undef, .undef, .undef, .undef, .undef],
    []⟩

theorem walk43 (fuel : Nat) (x1 : Nat) (x2 : Nat → Nat → CV) :
    evalF (C49 fuel) fuel A43 [.v (.ro false (.pr (.int .i64) (.pr (.int .i64) .nil)) x1 x2)] =
    (ob (F33 fuel x1 x2) fun x3 => (bif (x3 != 0) then (some [.v (.i .i64 0), .v (.i .i64 0)]) else (loopN (B43v1 (C49 fuel) fuel) N43v1 fuel (s43v2 x1 x2) (kBlk 0 (kSeq (C49 fuel) fuel [4, 5, 6, 7, 11, 12, 13, 14, 15, 16, 17, 18, 19, 20, 21, 22, 23, 24, 25, 26, 27, 28, 29, 30, 31, 32, 33, 34, 35, 36, 37, 38, 39, 40, 41, 42, 43, 44, 45, 46, 47, 48, 49, 50, 51, 52, 53, 54, 55] A43v3 (finish A43)))))) := by kernel_rfl

theorem t43v1 (fuel : Nat) {ρ : Type} (k : Ex → St → Option ρ) (x1 : Nat) (x2 : Nat → Nat → CV) :
    loopN (B43v1 (C49 fuel) fuel) N43v1 fuel (s43v2 x1 x2) k =
    L43v1 fuel x1 x2 (Int.ofNat x1) fuel 0 0 0 (fun x13 x14 => k (.exit 0) (s43v1 x13 x14)) :=
  (loopN_at (st' := (s43v0 x1 x2 0 0 (Int.ofNat x1) 0)) (by kernel_rfl)).trans (q43v1 fuel x1 x2 (Int.ofNat x1) k fuel 0 0 0)

theorem g43v2 (fuel : Nat) (x15 : Int) (x16 : Int) :
    (kBlk 0 (kSeq (C49 fuel) fuel [4, 5, 6, 7, 11, 12, 13, 14, 15, 16, 17, 18, 19, 20, 21, 22, 23, 24, 25, 26, 27, 28, 29, 30, 31, 32, 33, 34, 35, 36, 37, 38, 39, 40, 41, 42, 43, 44, 45, 46, 47, 48, 49, 50, 51, 52, 53, 54, 55] A43v3 (finish A43))) (.exit 0) (s43v1 x15 x16) =
    (some [.v (.i .i64 x15), .v (.i .i64 x16)]) := by kernel_rfl

theorem e43 (fuel : Nat) (x1 : Nat) (x2 : Nat → Nat → CV) : evalF (C49 fuel) fuel A43 [.v (.ro false (.pr (.int .i64) (.pr (.int .i64) .nil)) x1 x2)] = ob (F43 fuel x1 x2) fun t => some [.v (.i .i64 t.1), .v (.i .i64 t.2)] := by
  rw [walk43, ← f43]
  simp only [D43, t43v1, g43v2]

def O43 (fuel : Nat) : Ora where
  o := fun args {ρ} K =>
    wc args fun a1 l2 =>
    wv a1 fun c3 =>
    wL (.pr (.int .i64) (.pr (.int .i64) .nil)) c3 fun y4 y5 =>
    wn l2 <|
    (ob (F43 fuel y4 y5) fun t => K [.v (.i .i64 t.1), .v (.i .i64 t.2)])
  nat := fun args {ρ} K => by
    simp only [bind_wc, bind_wn, bind_wv, bind_wagg, bind_wI, bind_wB, bind_wS, bind_wL, bind_wP, bind_wFn, bind_ob, Option.bind_some]

theorem d43 {P : Program} (fuel : Nat) (hmix : P.follows .mixedOrders = true) (hC : Sound P (C49 fuel)) (hF : FFits P 43 A43) (args res : List A) (h : (O43 fuel).o args some = some res) : Den P 43 args res := by
  obtain ⟨a1, l2, rfl, z0⟩ := inv_wc h
  obtain ⟨c3, rfl, z1⟩ := inv_wv z0
  obtain ⟨y4, y5, h6, z2⟩ := inv_wL z1
  obtain ⟨hn, z3⟩ := inv_wn z2
  cases hn
  exact Den.weaken (.cons (WkA.v h6) .nil) (evalF_sound hmix hC hF ((e43 fuel y4 y5).trans z3))

def C50 (fuel : Nat) : Oracle := (C49 fuel).add 43 (fun _ => true) (O43 fuel)

/-- shipyard/region.Moment6 -/
def A16v1 : AC := (.seq (.block 1
  (.seq (.region 6 [
    ⟨(some 18), .indexAddr 23 22 1 (.tmp 14) (.tmp 16), none⟩,
    ⟨(some 19), .load 22 none (.tmp 18), none⟩,
    ⟨(some 7), .assign (.tmp 19), none⟩] 0 none) []
    (.seq (.region 7 [
    ⟨(some 21), .move (.tmp 7), none⟩,
    ⟨(some 22), .call 43 [(.tmp 21)] [22] .snap, none⟩,
    ⟨(some 20), .move (.tmp 22), none⟩,
    ⟨(some 23), .extract (.tmp 20) 0, none⟩,
    ⟨(some 24), .extract (.tmp 20) 1, none⟩,
    ⟨(some 8), .assign (.tmp 23), none⟩,
    ⟨(some 9), .assign (.tmp 24), none⟩] 0 none) []
    (.region 8 [
    ⟨(some 25), .move (.tmp 4), none⟩,
    ⟨(some 26), .move (.tmp 8), none⟩,
    ⟨(some 27), .binOp .add 3 (.tmp 25) (.tmp 26) 3, none⟩,
    ⟨(some 28), .move (.tmp 5), none⟩,
    ⟨(some 29), .move (.tmp 9), none⟩,
    ⟨(some 30), .binOp .add 3 (.tmp 28) (.tmp 29) 3, none⟩,
    ⟨(some 4), .assign (.tmp 27), none⟩,
    ⟨(some 5), .assign (.tmp 30), none⟩] 0 none)))) []
  (.region 9 [
  ⟨(some 31), .binOp .add 3 (.tmp 16) (.const (.int .i64 1)) 3, none⟩,
  ⟨(some 16), .move (.tmp 31), none⟩] 0 none))
def A16v2 : AC := (.seq (.region 5 [
  ⟨(some 17), .binOp .lss 3 (.tmp 16) (.tmp 15) 3, none⟩] 0 none) []
  (.seq (.cond (.tmp 17)
  .skip
  (.exit 0 [0, 1, 2, 3, 6, 7, 8, 9, 10, 11, 12, 13, 14, 15, 16, 17, 18, 19, 20, 21, 22, 23, 24, 25, 26, 27, 28, 29, 30, 31, 32, 33])) []
  A16v1))
def A16v3 : AC := (.seq (.region 10 [
  ⟨(some 32), .move (.tmp 4), none⟩,
  ⟨(some 33), .move (.tmp 5), none⟩,
  ⟨(some 2), .assign (.tmp 32), none⟩,
  ⟨(some 3), .assign (.tmp 33), none⟩] 0 none) []
  (.ret [0, 1, 4, 5, 6, 7, 8, 9, 10, 11, 12, 13, 14, 15, 16, 17, 18, 19, 20, 21, 22, 23, 24, 25, 26, 27, 28, 29, 30, 31, 32, 33]))
def A16v4 : AC := (.seq (.region 3 [
  ⟨(some 4), .assign (.const (.int .i64 0)), none⟩,
  ⟨(some 5), .assign (.const (.int .i64 0)), none⟩] 0 none) []
  (.seq (.seq (.region 4 [
  ⟨(some 13), .load 25 (some 2) (.tmp 1), none⟩,
  ⟨(some 14), .call 42 [(.tmp 13)] [25] .freeze, none⟩,
  ⟨(some 15), .len 23 false (.tmp 14), none⟩,
  ⟨(some 16), .move (.const (.int .i64 0)), none⟩] 0 none) []
  (.block 0
  (.loop [] [0, 1, 2, 3, 6, 7, 8, 9, 10, 11, 12, 13, 17, 18, 19, 20, 21, 22, 23, 24, 25, 26, 27, 28, 29, 30, 31, 32, 33]
    A16v2))) [7, 8, 9, 13, 14, 15, 16, 17, 18, 19, 20, 21, 22, 23, 24, 25, 26, 27, 28, 29, 30, 31]
  A16v3))
def A16 : AF := ⟨34, [.tmp 2, .tmp 3],
  (.seq (.region 0 [
  ⟨(some 1), .box 0 25 (.tmp 0), none⟩,
  ⟨(some 2), .assign (.const (.int .i64 0)), none⟩,
  ⟨(some 3), .assign (.const (.int .i64 0)), none⟩] 1 none) []
  (.seq (.seq (.region 1 [
  ⟨(some 10), .load 25 (some 2) (.tmp 1), none⟩,
  ⟨(some 11), .call 13 [(.tmp 10)] [25] .snap, none⟩,
  ⟨(some 12), .binOp .neq 27 (.tmp 11) (.const (.int .i64 0)) 27, none⟩] 0 none) []
  (.cond (.tmp 12)
  (.seq (.region 2 [
    ⟨(some 2), .assign (.const (.int .i64 0)), none⟩,
    ⟨(some 3), .assign (.const (.int .i64 0)), none⟩] 0 none) []
    (.ret [0, 1, 4, 5, 6, 7, 8, 9, 10, 11, 12, 13, 14, 15, 16, 17, 18, 19, 20, 21, 22, 23, 24, 25, 26, 27, 28, 29, 30, 31, 32, 33]))
  .skip)) [2, 3, 10, 11, 12]
  A16v4))⟩

def B16v1 (C : Oracle) (fuel : Nat) {ρ : Type} : St → (Ex → St → Option ρ) → Option ρ := fun st k => evalC C fuel A16v2 st k
def N16v1 : St → Option St := fun s => s.norm [0, 1, 2, 3, 6, 7, 8, 9, 10, 11, 12, 13, 17, 18, 19, 20, 21, 22, 23, 24, 25, 26, 27, 28, 29, 30, 31, 32, 33] 1

def s16v0 (x15 : Int) (x16 : Int) (x17 : Nat) (x18 : Nat → Nat → CV) (x19 : Int) (x20 : Int) (x21 : Nat) (x22 : Nat → Nat → CV) (x23 : Nat) (x24 : Nat → Nat → CV) : St := ⟨[.u, .u, .u, .u, .x (.c (.i .i64 x15)), .x (.c (.i .i64 x16)), .u, .u, .u, .u, .u, .u, .u, .u, .x (.c (.ro false (.pr (.sl (.pr (.int .i64) (.pr (.int .i64) .nil))) .nil) x17 x18)), .x (.c (.i .i64 x19)), .x (.c (.i .i64 x20)), .u, .u, .u, .u, .u, .u, .u, .u, .u, .u, .u, .u, .u, .u, .u, .u, .u],
    [.box [(.c (.ro false (.pr (.int .i64) (.pr (.int .i64) .nil)) x21 x22)), (.c (.ro false (.pr (.sl (.pr (.int .i64) (.pr (.int .i64) .nil))) .nil) x23 x24))]]⟩

def s16v1 (x26 : Int) (x27 : Int) (x21 : Nat) (x22 : Nat → Nat → CV) (x23 : Nat) (x24 : Nat → Nat → CV) : St := ⟨[.u, .u, .u, .u, .x (.c (.i .i64 x26)), .x (.c (.i .i64 x27)), .u, .u, .u, .u, .u, .u, .u, .u, .u, .u, .u, .u, .u, .u, .u, .u, .u, .u, .u, .u, .u, .u, .u, .u, .u, .u, .u, .u],
    [.box [(.c (.ro false (.pr (.int .i64) (.pr (.int .i64) .nil)) x21 x22)), (.c (.ro false (.pr (.sl (.pr (.int .i64) (.pr (.int .i64) .nil))) .nil) x23 x24))]]⟩

def L16v1 {ρ : Type} (fuel : Nat) (x17 : Nat) (x18 : Nat → Nat → CV) (x19 : Int) (x21 : Nat) (x22 : Nat → Nat → CV) (x23 : Nat) (x24 : Nat → Nat → CV) : Nat → Int → Int → Int → (Int → Int → Option ρ) → Option ρ
  | 0, _, _, _, _ => none
  | m + 1, x15, x16, x20, k0 =>
    (bif (decide (x20 < x19)) then (bif (inb x20 x17) then (ob (F43 fuel (CV.len (x18 (Int.toNat x20) 0)) (CV.el (x18 (Int.toNat x20) 0))) fun x25 => (L16v1 fuel x17 x18 x19 x21 x22 x23 x24 m (w64 (x15 + x25.1)) (w64 (x16 + x25.2)) (w64 (x20 + 1)) k0)) else none) else (k0 x15 x16))

theorem nl16v1 {ρ σ : Type} (fuel : Nat) (x17 : Nat) (x18 : Nat → Nat → CV) (x19 : Int) (x21 : Nat) (x22 : Nat → Nat → CV) (x23 : Nat) (x24 : Nat → Nat → CV) (g : ρ → Option σ) : ∀ (m : Nat) (x15 : Int) (x16 : Int) (x20 : Int) (k0 : Int → Int → Option ρ), ob (L16v1 fuel x17 x18 x19 x21 x22 x23 x24 m x15 x16 x20 k0) g = L16v1 fuel x17 x18 x19 x21 x22 x23 x24 m x15 x16 x20 (fun x26 x27 => ob (k0 x26 x27) g)
  | 0, _, _, _, _ => rfl
  | m + 1, x15, x16, x20, k0 => by
    simp only [L16v1, ob_bif, ob_ob, ob_none, nl16v1 fuel x17 x18 x19 x21 x22 x23 x24 g m]

theorem r16v1 (fuel : Nat) (m : Nat) {ρ : Type} (k : Ex → St → Option ρ) (x17 : Nat) (x18 : Nat → Nat → CV) (x19 : Int) (x21 : Nat) (x22 : Nat → Nat → CV) (x23 : Nat) (x24 : Nat → Nat → CV) (x15 : Int) (x16 : Int) (x20 : Int) :
    loopH (B16v1 (C50 fuel) fuel) N16v1 (m + 1) (s16v0 x15 x16 x17 x18 x19 x20 x21 x22 x23 x24) k =
    (bif (decide (x20 < x19)) then (bif (inb x20 x17) then (ob (F43 fuel (CV.len (x18 (Int.toNat x20) 0)) (CV.el (x18 (Int.toNat x20) 0))) fun x25 => (loopH (B16v1 (C50 fuel) fuel) N16v1 m (s16v0 (w64 (x15 + x25.1)) (w64 (x16 + x25.2)) x17 x18 x19 (w64 (x20 + 1)) x21 x22 x23 x24) k)) else none) else (k (.exit 0) (s16v1 x15 x16 x21 x22 x23 x24))) := by kernel_rfl

theorem q16v1 (fuel : Nat) (x17 : Nat) (x18 : Nat → Nat → CV) (x19 : Int) (x21 : Nat) (x22 : Nat → Nat → CV) (x23 : Nat) (x24 : Nat → Nat → CV) {ρ : Type} (k : Ex → St → Option ρ) : ∀ (m : Nat) (x15 : Int) (x16 : Int) (x20 : Int),
    loopH (B16v1 (C50 fuel) fuel) N16v1 m (s16v0 x15 x16 x17 x18 x19 x20 x21 x22 x23 x24) k = L16v1 fuel x17 x18 x19 x21 x22 x23 x24 m x15 x16 x20 (fun x26 x27 => k (.exit 0) (s16v1 x26 x27 x21 x22 x23 x24))
  | 0, _, _, _ => rfl
  | m + 1, x15, x16, x20 => by
    rw [r16v1]
    simp only [L16v1, q16v1 fuel x17 x18 x19 x21 x22 x23 x24 k m]

def D16 {ρ : Type} (fuel : Nat) (x1 : Nat) (x2 : Nat → Nat → CV) (x3 : Nat) (x4 : Nat → Nat → CV) (k : (Int × Int) → Option ρ) : Option ρ :=
  (ob (F13 fuel x1 x2 x3 x4) fun x5 => (bif (x5 != 0) then (k (0, 0)) else (ob (F42 fuel x1 x2 x3 x4) fun x6 => (L16v1 fuel x6.1 x6.2 (Int.ofNat x6.1) x1 x2 x3 x4 fuel 0 0 0
    (fun x28 x29 => (k (x28, x29)))))))

def F16 (fuel : Nat) (x1 : Nat) (x2 : Nat → Nat → CV) (x3 : Nat) (x4 : Nat → Nat → CV) : Option (Int × Int) := D16 fuel x1 x2 x3 x4 some

theorem n16 {ρ σ : Type} (fuel : Nat) (x1 : Nat) (x2 : Nat → Nat → CV) (x3 : Nat) (x4 : Nat → Nat → CV) (k : (Int × Int) → Option ρ) (g : ρ → Option σ) : ob (D16 fuel x1 x2 x3 x4 k) g = D16 fuel x1 x2 x3 x4 fun t => ob (k t) g := by
  simp only [D16, ob_bif, ob_ob, ob_none, nl16v1]

theorem f16 {ρ : Type} (fuel : Nat) (x1 : Nat) (x2 : Nat → Nat → CV) (x3 : Nat) (x4 : Nat → Nat → CV) (k : (Int × Int) → Option ρ) : D16 fuel x1 x2 x3 x4 k = ob (F16 fuel x1 x2 x3 x4) k := by
  unfold F16
  rw [n16]
  simp only [ob_some]

def s16v2 (x1 : Nat) (x2 : Nat → Nat → CV) (x3 : Nat) (x4 : Nat → Nat → CV) (x6 : Nat × (Nat → Nat → CV)) : St := ⟨[.agg [(.c (.ro false (.pr (.int .i64) (.pr (.int .i64) .nil)) x1 x2)), (.c (.ro false (.pr (.sl (.pr (.int .i64) (.pr (.int .i64) .nil))) .nil) x3 x4))], .x (.ptr 0 0), .u, .u, .x (.c (.i .i64 0)), .x (.c (.i .i64 0)), .undef, .undef, .undef, .undef, .u, .u, .u, .agg [(.c (.ro false (.pr (.int .i64) (.pr (.int .i64) .nil)) x1 x2)), (.c (.ro false (.pr (.sl (.pr (.int .i64) (.pr (.int .i64) .nil))) .nil) x3 x4))], .x (.c (.ro false (.pr (.sl (.pr (.int .i64) (.pr (.int .i64) .nil))) .nil) x6.1 x6.2)), .x (.c (.i .i64 (Int.ofNat x6.1))), .x (.c (.i .i64 0)), .undef, .undef, .undef, .undef, .undef, .undef, .undef, .undef, .undef, .undef, .undef, .undef, .undef, .undef, .undef, .undef, .undef],
    [.box [(.c (.ro false (.pr (.int .i64) (.pr (.int .i64) .nil)) x1 x2)), (.c (.ro false (.pr (.sl (.pr (.int .i64) (.pr (.int .i64) .nil))) .nil) x3 x4))]]⟩

theorem walk16 (fuel : Nat) (x1 : Nat) (x2 : Nat → Nat → CV) (x3 : Nat) (x4 : Nat → Nat → CV) :
    evalF (C50 fuel) fuel A16 [.agg [(.ro false (.pr (.int .i64) (.pr (.int .i64) .nil)) x1 x2), (.ro false (.pr (.sl (.pr (.int .i64) (.pr (.int .i64) .nil))) .nil) x3 x4)]] =
    (ob (F13 fuel x1 x2 x3 x4) fun x5 => (bif (x5 != 0) then (some [.v (.i .i64 0), .v (.i .i64 0)]) else (ob (F42 fuel x1 x2 x3 x4) fun x6 => (loopN (B16v1 (C50 fuel) fuel) N16v1 fuel (s16v2 x1 x2 x3 x4 x6) (kBlk 0 (kSeq (C50 fuel) fuel [7, 8, 9, 13, 14, 15, 16, 17, 18, 19, 20, 21, 22, 23, 24, 25, 26, 27, 28, 29, 30, 31] A16v3 (finish A16))))))) := by kernel_rfl

theorem t16v1 (fuel : Nat) {ρ : Type} (k : Ex → St → Option ρ) (x1 : Nat) (x2 : Nat → Nat → CV) (x3 : Nat) (x4 : Nat → Nat → CV) (x6 : Nat × (Nat → Nat → CV)) :
    loopN (B16v1 (C50 fuel) fuel) N16v1 fuel (s16v2 x1 x2 x3 x4 x6) k =
    L16v1 fuel x6.1 x6.2 (Int.ofNat x6.1) x1 x2 x3 x4 fuel 0 0 0 (fun x26 x27 => k (.exit 0) (s16v1 x26 x27 x1 x2 x3 x4)) :=
  (loopN_at (st' := (s16v0 0 0 x6.1 x6.2 (Int.ofNat x6.1) 0 x1 x2 x3 x4)) (by kernel_rfl)).trans (q16v1 fuel x6.1 x6.2 (Int.ofNat x6.1) x1 x2 x3 x4 k fuel 0 0 0)

theorem g16v2 (fuel : Nat) (x28 : Int) (x29 : Int) (x1 : Nat) (x2 : Nat → Nat → CV) (x3 : Nat) (x4 : Nat → Nat → CV) :
    (kBlk 0 (kSeq (C50 fuel) fuel [7, 8, 9, 13, 14, 15, 16, 17, 18, 19, 20, 21, 22, 23, 24, 25, 26, 27, 28, 29, 30, 31] A16v3 (finish A16))) (.exit 0) (s16v1 x28 x29 x1 x2 x3 x4) =
    (some [.v (.i .i64 x28), .v (.i .i64 x29)]) := by kernel_rfl

theorem e16 (fuel : Nat) (x1 : Nat) (x2 : Nat → Nat → CV) (x3 : Nat) (x4 : Nat → Nat → CV) : evalF (C50 fuel) fuel A16 [.agg [(.ro false (.pr (.int .i64) (.pr (.int .i64) .nil)) x1 x2), (.ro false (.pr (.sl (.pr (.int .i64) (.pr (.int .i64) .nil))) .nil) x3 x4)]] = ob (F16 fuel x1 x2 x3 x4) fun t => some [.v (.i .i64 t.1), .v (.i .i64 t.2)] := by
  rw [walk16, ← f16]
  simp only [D16, t16v1, g16v2]

def O16 (fuel : Nat) : Ora where
  o := fun args {ρ} K =>
    wc args fun a1 l2 =>
    wagg a1 fun l3 =>
    wc l3 fun c4 l5 =>
    wL (.pr (.int .i64) (.pr (.int .i64) .nil)) c4 fun y6 y7 =>
    wc l5 fun c9 l10 =>
    wL (.pr (.sl (.pr (.int .i64) (.pr (.int .i64) .nil))) .nil) c9 fun y11 y12 =>
    wn l10 <|
    wn l2 <|
    (ob (F16 fuel y6 y7 y11 y12) fun t => K [.v (.i .i64 t.1), .v (.i .i64 t.2)])
  nat := fun args {ρ} K => by
    simp only [bind_wc, bind_wn, bind_wv, bind_wagg, bind_wI, bind_wB, bind_wS, bind_wL, bind_wP, bind_wFn, bind_ob, Option.bind_some]

theorem d16 {P : Program} (fuel : Nat) (hmix : P.follows .mixedOrders = true) (hC : Sound P (C50 fuel)) (hF : FFits P 16 A16) (args res : List A) (h : (O16 fuel).o args some = some res) : Den P 16 args res := by
  obtain ⟨a1, l2, rfl, z0⟩ := inv_wc h
  obtain ⟨l3, rfl, z1⟩ := inv_wagg z0
  obtain ⟨c4, l5, rfl, z2⟩ := inv_wc z1
  obtain ⟨y6, y7, h8, z3⟩ := inv_wL z2
  obtain ⟨c9, l10, rfl, z4⟩ := inv_wc z3
  obtain ⟨y11, y12, h13, z5⟩ := inv_wL z4
  obtain ⟨hn, z6⟩ := inv_wn z5
  cases hn
  obtain ⟨hn, z7⟩ := inv_wn z6
  cases hn
  exact Den.weaken (.cons (WkA.agg (.cons h8 (.cons h13 .nil))) .nil) (evalF_sound hmix hC hF ((e16 fuel y6 y7 y11 y12).trans z7))

def C51 (fuel : Nat) : Oracle := (C50 fuel).add 16 (fun _ => true) (O16 fuel)

/-- shipyard/region.Area2 -/
def A18v1 : AC := (.seq (.block 1
  (.seq (.region 6 [
    ⟨(some 14), .indexAddr 23 22 1 (.tmp 10) (.tmp 12), none⟩,
    ⟨(some 15), .load 22 none (.tmp 14), none⟩,
    ⟨(some 5), .assign (.tmp 15), none⟩] 0 none) []
    (.region 7 [
    ⟨(some 16), .move (.tmp 3), none⟩,
    ⟨(some 17), .move (.tmp 5), none⟩,
    ⟨(some 18), .call 34 [(.tmp 17)] [22] .snap, none⟩,
    ⟨(some 19), .binOp .add 3 (.tmp 16) (.tmp 18) 3, none⟩,
    ⟨(some 3), .assign (.tmp 19), none⟩] 0 none))) []
  (.region 8 [
  ⟨(some 20), .binOp .add 3 (.tmp 12) (.const (.int .i64 1)) 3, none⟩,
  ⟨(some 12), .move (.tmp 20), none⟩] 0 none))
def A18v2 : AC := (.seq (.region 5 [
  ⟨(some 13), .binOp .lss 3 (.tmp 12) (.tmp 11) 3, none⟩] 0 none) []
  (.seq (.cond (.tmp 13)
  .skip
  (.exit 0 [0, 1, 2, 4, 5, 6, 7, 8, 9, 10, 11, 12, 13, 14, 15, 16, 17, 18, 19, 20, 21])) []
  A18v1))
def A18v3 : AC := (.seq (.region 9 [
  ⟨(some 21), .move (.tmp 3), none⟩,
  ⟨(some 2), .assign (.tmp 21), none⟩] 0 none) []
  (.ret [0, 1, 3, 4, 5, 6, 7, 8, 9, 10, 11, 12, 13, 14, 15, 16, 17, 18, 19, 20, 21]))
def A18v4 : AC := (.seq (.region 3 [
  ⟨(some 3), .assign (.const (.int .i64 0)), none⟩] 0 none) []
  (.seq (.seq (.region 4 [
  ⟨(some 9), .load 25 (some 2) (.tmp 1), none⟩,
  ⟨(some 10), .call 42 [(.tmp 9)] [25] .freeze, none⟩,
  ⟨(some 11), .len 23 false (.tmp 10), none⟩,
  ⟨(some 12), .move (.const (.int .i64 0)), none⟩] 0 none) []
  (.block 0
  (.loop [] [0, 1, 2, 4, 5, 6, 7, 8, 9, 13, 14, 15, 16, 17, 18, 19, 20, 21]
    A18v2))) [5, 9, 10, 11, 12, 13, 14, 15, 16, 17, 18, 19, 20]
  A18v3))
def A18 : AF := ⟨22, [.tmp 2],
  (.seq (.region 0 [
  ⟨(some 1), .box 0 25 (.tmp 0), none⟩,
  ⟨(some 2), .assign (.const (.int .i64 0)), none⟩] 1 none) []
  (.seq (.seq (.region 1 [
  ⟨(some 6), .load 25 (some 2) (.tmp 1), none⟩,
  ⟨(some 7), .call 13 [(.tmp 6)] [25] .snap, none⟩,
  ⟨(some 8), .binOp .neq 27 (.tmp 7) (.const (.int .i64 0)) 27, none⟩] 0 none) []
  (.cond (.tmp 8)
  (.seq (.region 2 [
    ⟨(some 2), .assign (.const (.int .i64 0)), none⟩] 0 none) []
    (.ret [0, 1, 3, 4, 5, 6, 7, 8, 9, 10, 11, 12, 13, 14, 15, 16, 17, 18, 19, 20, 21]))
  .skip)) [2, 6, 7, 8]
  A18v4))⟩

def B18v1 (C : Oracle) (fuel : Nat) {ρ : Type} : St → (Ex → St → Option ρ) → Option ρ := fun st k => evalC C fuel A18v2 st k
def N18v1 : St → Option St := fun s => s.norm [0, 1, 2, 4, 5, 6, 7, 8, 9, 13, 14, 15, 16, 17, 18, 19, 20, 21] 1

def s18v0 (x15 : Int) (x16 : Nat) (x17 : Nat → Nat → CV) (x18 : Int) (x19 : Int) (x20 : Nat) (x21 : Nat → Nat → CV) (x22 : Nat) (x23 : Nat → Nat → CV) : St := ⟨[.u, .u, .u, .x (.c (.i .i64 x15)), .u, .u, .u, .u, .u, .u, .x (.c (.ro false (.pr (.sl (.pr (.int .i64) (.pr (.int .i64) .nil))) .nil) x16 x17)), .x (.c (.i .i64 x18)), .x (.c (.i .i64 x19)), .u, .u, .u, .u, .u, .u, .u, .u, .u],
    [.box [(.c (.ro false (.pr (.int .i64) (.pr (.int .i64) .nil)) x20 x21)), (.c (.ro false (.pr (.sl (.pr (.int .i64) (.pr (.int .i64) .nil))) .nil) x22 x23))]]⟩

def s18v1 (x25 : Int) (x20 : Nat) (x21 : Nat → Nat → CV) (x22 : Nat) (x23 : Nat → Nat → CV) : St := ⟨[.u, .u, .u, .x (.c (.i .i64 x25)), .u, .u, .u, .u, .u, .u, .u, .u, .u, .u, .u, .u, .u, .u, .u, .u, .u, .u],
    [.box [(.c (.ro false (.pr (.int .i64) (.pr (.int .i64) .nil)) x20 x21)), (.c (.ro false (.pr (.sl (.pr (.int .i64) (.pr (.int .i64) .nil))) .nil) x22 x23))]]⟩

def L18v1 {ρ : Type} (fuel : Nat) (x16 : Nat) (x17 : Nat → Nat → CV) (x18 : Int) (x20 : Nat) (x21 : Nat → Nat → CV) (x22 : Nat) (x23 : Nat → Nat → CV) : Nat → Int → Int → (Int → Option ρ) → Option ρ
  | 0, _, _, _ => none
  | m + 1, x15, x19, k0 =>
    (bif (decide (x19 < x18)) then (bif (inb x19 x16) then (ob (F34 fuel (CV.len (x17 (Int.toNat x19) 0)) (CV.el (x17 (Int.toNat x19) 0))) fun x24 => (L18v1 fuel x16 x17 x18 x20 x21 x22 x23 m (w64 (x15 + x24)) (w64 (x19 + 1)) k0)) else none) else (k0 x15))

theorem nl18v1 {ρ σ : Type} (fuel : Nat) (x16 : Nat) (x17 : Nat → Nat → CV) (x18 : Int) (x20 : Nat) (x21 : Nat → Nat → CV) (x22 : Nat) (x23 : Nat → Nat → CV) (g : ρ → Option σ) : ∀ (m : Nat) (x15 : Int) (x19 : Int) (k0 : Int → Option ρ), ob (L18v1 fuel x16 x17 x18 x20 x21 x22 x23 m x15 x19 k0) g = L18v1 fuel x16 x17 x18 x20 x21 x22 x23 m x15 x19 (fun x25 => ob (k0 x25) g)
  | 0, _, _, _ => rfl
  | m + 1, x15, x19, k0 => by
    simp only [L18v1, ob_bif, ob_ob, ob_none, nl18v1 fuel x16 x17 x18 x20 x21 x22 x23 g m]

theorem r18v1 (fuel : Nat) (m : Nat) {ρ : Type} (k : Ex → St → Option ρ) (x16 : Nat) (x17 : Nat → Nat → CV) (x18 : Int) (x20 : Nat) (x21 : Nat → Nat → CV) (x22 : Nat) (x23 : Nat → Nat → CV) (x15 : Int) (x19 : Int) :
    loopH (B18v1 (C51 fuel) fuel) N18v1 (m + 1) (s18v0 x15 x16 x17 x18 x19 x20 x21 x22 x23) k =
    (bif (decide (x19 < x18)) then (bif (inb x19 x16) then (ob (F34 fuel (CV.len (x17 (Int.toNat x19) 0)) (CV.el (x17 (Int.toNat x19) 0))) fun x24 => (loopH (B18v1 (C51 fuel) fuel) N18v1 m (s18v0 (w64 (x15 + x24)) x16 x17 x18 (w64 (x19 + 1)) x20 x21 x22 x23) k)) else none) else (k (.exit 0) (s18v1 x15 x20 x21 x22 x23))) := by kernel_rfl

theorem q18v1 (fuel : Nat) (x16 : Nat) (x17 : Nat → Nat → CV) (x18 : Int) (x20 : Nat) (x21 : Nat → Nat → CV) (x22 : Nat) (x23 : Nat → Nat → CV) {ρ : Type} (k : Ex → St → Option ρ) : ∀ (m : Nat) (x15 : Int) (x19 : Int),
    loopH (B18v1 (C51 fuel) fuel) N18v1 m (s18v0 x15 x16 x17 x18 x19 x20 x21 x22 x23) k = L18v1 fuel x16 x17 x18 x20 x21 x22 x23 m x15 x19 (fun x25 => k (.exit 0) (s18v1 x25 x20 x21 x22 x23))
  | 0, _, _ => rfl
  | m + 1, x15, x19 => by
    rw [r18v1]
    simp only [L18v1, q18v1 fuel x16 x17 x18 x20 x21 x22 x23 k m]

def D18 {ρ : Type} (fuel : Nat) (x1 : Nat) (x2 : Nat → Nat → CV) (x3 : Nat) (x4 : Nat → Nat → CV) (k : Int → Option ρ) : Option ρ :=
  (ob (F13 fuel x1 x2 x3 x4) fun x5 => (bif (x5 != 0) then (k 0) else (ob (F42 fuel x1 x2 x3 x4) fun x6 => (L18v1 fuel x6.1 x6.2 (Int.ofNat x6.1) x1 x2 x3 x4 fuel 0 0
    (fun x26 => (k x26))))))

def F18 (fuel : Nat) (x1 : Nat) (x2 : Nat → Nat → CV) (x3 : Nat) (x4 : Nat → Nat → CV) : Option (Int) := D18 fuel x1 x2 x3 x4 some

theorem n18 {ρ σ : Type} (fuel : Nat) (x1 : Nat) (x2 : Nat → Nat → CV) (x3 : Nat) (x4 : Nat → Nat → CV) (k : (Int) → Option ρ) (g : ρ → Option σ) : ob (D18 fuel x1 x2 x3 x4 k) g = D18 fuel x1 x2 x3 x4 fun t => ob (k t) g := by
  simp only [D18, ob_bif, ob_ob, ob_none, nl18v1]

theorem f18 {ρ : Type} (fuel : Nat) (x1 : Nat) (x2 : Nat → Nat → CV) (x3 : Nat) (x4 : Nat → Nat → CV) (k : (Int) → Option ρ) : D18 fuel x1 x2 x3 x4 k = ob (F18 fuel x1 x2 x3 x4) k := by
  unfold F18
  rw [n18]
  simp only [ob_some]

def s18v2 (x1 : Nat) (x2 : Nat → Nat → CV) (x3 : Nat) (x4 : Nat → Nat → CV) (x6 : Nat × (Nat → Nat → CV)) : St := ⟨[.agg [(.c (.ro false (.pr (.int .i64) (.pr (.int .i64) .nil)) x1 x2)), (.c (.ro false (.pr (.sl (.pr (.int .i64) (.pr (.int .i64) .nil))) .nil) x3 x4))], .x (.ptr 0 0), .u, .x (.c (.i .i64 0)), .undef, .undef, .u, .u, .u, .agg [(.c (.ro false (.pr (.int .i64) (.pr (.int .i64) .nil)) x1 x2)), (.c (.ro false (.pr (.sl (.pr (.int .i64) (.pr (.int .i64) .nil))) .nil) x3 x4))], .x (.c (.ro false (.pr (.sl (.pr (.int .i64) (.pr (.int .i64) .nil))) .nil) x6.1 x6.2)), .x (.c (.i .i64 (Int.ofNat x6.1))), .x (.c (.i .i64 0)), .undef, .undef, .undef, .undef, .undef, .undef, .undef, .undef, .undef],
    [.box [(.c (.ro false (.pr (.int .i64) (.pr (.int .i64) .nil)) x1 x2)), (.c (.ro false (.pr (.sl (.pr (.int .i64) (.pr (.int .i64) .nil))) .nil) x3 x4))]]⟩

theorem walk18 (fuel : Nat) (x1 : Nat) (x2 : Nat → Nat → CV) (x3 : Nat) (x4 : Nat → Nat → CV) :
    evalF (C51 fuel) fuel A18 [.agg [(.ro false (.pr (.int .i64) (.pr (.int .i64) .nil)) x1 x2), (.ro false (.pr (.sl (.pr (.int .i64) (.pr (.int .i64) .nil))) .nil) x3 x4)]] =
    (ob (F13 fuel x1 x2 x3 x4) fun x5 => (bif (x5 != 0) then (some [.v (.i .i64 0)]) else (ob (F42 fuel x1 x2 x3 x4) fun x6 => (loopN (B18v1 (C51 fuel) fuel) N18v1 fuel (s18v2 x1 x2 x3 x4 x6) (kBlk 0 (kSeq (C51 fuel) fuel [5, 9, 10, 11, 12, 13, 14, 15, 16, 17, 18, 19, 20] A18v3 (finish A18))))))) := by kernel_rfl

theorem t18v1 (fuel : Nat) {ρ : Type} (k : Ex → St → Option ρ) (x1 : Nat) (x2 : Nat → Nat → CV) (x3 : Nat) (x4 : Nat → Nat → CV) (x6 : Nat × (Nat → Nat → CV)) :
    loopN (B18v1 (C51 fuel) fuel) N18v1 fuel (s18v2 x1 x2 x3 x4 x6) k =
    L18v1 fuel x6.1 x6.2 (Int.ofNat x6.1) x1 x2 x3 x4 fuel 0 0 (fun x25 => k (.exit 0) (s18v1 x25 x1 x2 x3 x4)) :=
  (loopN_at (st' := (s18v0 0 x6.1 x6.2 (Int.ofNat x6.1) 0 x1 x2 x3 x4)) (by kernel_rfl)).trans (q18v1 fuel x6.1 x6.2 (Int.ofNat x6.1) x1 x2 x3 x4 k fuel 0 0)

theorem g18v2 (fuel : Nat) (x26 : Int) (x1 : Nat) (x2 : Nat → Nat → CV) (x3 : Nat) (x4 : Nat → Nat → CV) :
    (kBlk 0 (kSeq (C51 fuel) fuel [5, 9, 10, 11, 12, 13, 14, 15, 16, 17, 18, 19, 20] A18v3 (finish A18))) (.exit 0) (s18v1 x26 x1 x2 x3 x4) =
    (some [.v (.i .i64 x26)]) := by kernel_rfl

theorem e18 (fuel : Nat) (x1 : Nat) (x2 : Nat → Nat → CV) (x3 : Nat) (x4 : Nat → Nat → CV) : evalF (C51 fuel) fuel A18 [.agg [(.ro false (.pr (.int .i64) (.pr (.int .i64) .nil)) x1 x2), (.ro false (.pr (.sl (.pr (.int .i64) (.pr (.int .i64) .nil))) .nil) x3 x4)]] = ob (F18 fuel x1 x2 x3 x4) fun t => some [.v (.i .i64 t)] := by
  rw [walk18, ← f18]
  simp only [D18, t18v1, g18v2]

def O18 (fuel : Nat) : Ora where
  o := fun args {ρ} K =>
    wc args fun a1 l2 =>
    wagg a1 fun l3 =>
    wc l3 fun c4 l5 =>
    wL (.pr (.int .i64) (.pr (.int .i64) .nil)) c4 fun y6 y7 =>
    wc l5 fun c9 l10 =>
    wL (.pr (.sl (.pr (.int .i64) (.pr (.int .i64) .nil))) .nil) c9 fun y11 y12 =>
    wn l10 <|
    wn l2 <|
    (ob (F18 fuel y6 y7 y11 y12) fun t => K [.v (.i .i64 t)])
  nat := fun args {ρ} K => by
    simp only [bind_wc, bind_wn, bind_wv, bind_wagg, bind_wI, bind_wB, bind_wS, bind_wL, bind_wP, bind_wFn, bind_ob, Option.bind_some]

theorem d18 {P : Program} (fuel : Nat) (hmix : P.follows .mixedOrders = true) (hC : Sound P (C51 fuel)) (hF : FFits P 18 A18) (args res : List A) (h : (O18 fuel).o args some = some res) : Den P 18 args res := by
  obtain ⟨a1, l2, rfl, z0⟩ := inv_wc h
  obtain ⟨l3, rfl, z1⟩ := inv_wagg z0
  obtain ⟨c4, l5, rfl, z2⟩ := inv_wc z1
  obtain ⟨y6, y7, h8, z3⟩ := inv_wL z2
  obtain ⟨c9, l10, rfl, z4⟩ := inv_wc z3
  obtain ⟨y11, y12, h13, z5⟩ := inv_wL z4
  obtain ⟨hn, z6⟩ := inv_wn z5
  cases hn
  obtain ⟨hn, z7⟩ := inv_wn z6
  cases hn
  exact Den.weaken (.cons (WkA.agg (.cons h8 (.cons h13 .nil))) .nil) (evalF_sound hmix hC hF ((e18 fuel y6 y7 y11 y12).trans z7))

def C52 (fuel : Nat) : Oracle := (C51 fuel).add 18 (fun _ => true) (O18 fuel)

/-- shipyard/shipyardref13.same -/
def A48v1 : AC := (.region 5 [
  ⟨(some 15), .move (.tmp 5), none⟩,
  ⟨(some 16), .binOp .add 3 (.tmp 15) (.const (.int .i64 1)) 3, none⟩,
  ⟨(some 5), .assign (.tmp 16), none⟩] 0 none)
def A48v2 : AC := (.seq (.block 1
  (.seq (.region 6 [
    ⟨(some 17), .move (.tmp 0), none⟩,
    ⟨(some 18), .move (.tmp 5), none⟩,
    ⟨(some 19), .indexAddr 22 34 2 (.tmp 17) (.tmp 18), none⟩,
    ⟨(some 20), .load 34 (some 2) (.tmp 19), none⟩,
    ⟨(some 21), .move (.tmp 1), none⟩,
    ⟨(some 22), .move (.tmp 5), none⟩,
    ⟨(some 23), .indexAddr 22 34 2 (.tmp 21) (.tmp 22), none⟩,
    ⟨(some 24), .load 34 (some 2) (.tmp 23), none⟩,
    ⟨(some 25), .eqA true (.pr (.int .i64) (.pr (.int .i64) .nil)) 34 (.tmp 20) (.tmp 24) 34, none⟩] 0 (some [[], [], [0, 1], [0, 1, 2], [], [], [4, 5], [4, 5, 6], [0, 1, 2, 3, 4, 5, 6, 7]])) []
    (.cond (.tmp 25)
    (.seq (.region 7 [
      ⟨(some 4), .assign (.const (.bool false)), none⟩] 0 none) []
      (.ret [0, 1, 2, 3, 5, 6, 7, 8, 9, 10, 11, 12, 13, 14, 15, 16, 17, 18, 19, 20, 21, 22, 23, 24, 25]))
    .skip))) [4, 17, 18, 19, 20, 21, 22, 23, 24, 25]
  A48v1)
def A48v3 : AC := (.seq (.seq (.region 4 [
  ⟨(some 11), .move (.tmp 5), none⟩,
  ⟨(some 12), .move (.tmp 0), none⟩,
  ⟨(some 13), .len 22 false (.tmp 12), none⟩,
  ⟨(some 14), .binOp .lss 3 (.tmp 11) (.tmp 13) 3, none⟩] 0 none) []
  (.cond (.tmp 14)
  .skip
  (.exit 0 [0, 1, 2, 3, 4, 5, 6, 7, 8, 9, 10, 11, 12, 13, 14, 15, 16, 17, 18, 19, 20, 21, 22, 23, 24, 25]))) [11, 12, 13, 14]
  A48v2)
def A48v4 : AC := (.seq (.region 8 [
  ⟨(some 4), .assign (.const (.bool true)), none⟩] 0 none) []
  (.ret [0, 1, 2, 3, 5, 6, 7, 8, 9, 10, 11, 12, 13, 14, 15, 16, 17, 18, 19, 20, 21, 22, 23, 24, 25]))
def A48v5 : AC := (.seq (.seq (.region 3 [
  ⟨(some 5), .assign (.const (.int .i64 0)), none⟩] 0 none) []
  (.block 0
  (.loop [] [2, 3, 4, 6, 7, 8, 9, 10, 11, 12, 13, 14, 15, 16, 17, 18, 19, 20, 21, 22, 23, 24, 25]
    A48v3))) [4, 5, 11, 12, 13, 14, 15, 16, 17, 18, 19, 20, 21, 22, 23, 24, 25]
  A48v4)
def A48 : AF := ⟨26, [.tmp 4],
  (.seq (.region 0 [
  ⟨(some 4), .assign (.const (.bool false)), none⟩] 0 none) []
  (.seq (.seq (.region 1 [
  ⟨(some 6), .move (.tmp 0), none⟩,
  ⟨(some 7), .len 22 false (.tmp 6), none⟩,
  ⟨(some 8), .move (.tmp 1), none⟩,
  ⟨(some 9), .len 22 false (.tmp 8), none⟩,
  ⟨(some 10), .binOp .neq 3 (.tmp 7) (.tmp 9) 3, none⟩] 0 none) []
  (.cond (.tmp 10)
  (.seq (.region 2 [
    ⟨(some 4), .assign (.const (.bool false)), none⟩] 0 none) []
    (.ret [0, 1, 2, 3, 5, 6, 7, 8, 9, 10, 11, 12, 13, 14, 15, 16, 17, 18, 19, 20, 21, 22, 23, 24, 25]))
  .skip)) [4, 6, 7, 8, 9, 10]
  A48v5))⟩

def B48v1 (C : Oracle) (fuel : Nat) {ρ : Type} : St → (Ex → St → Option ρ) → Option ρ := fun st k => evalC C fuel A48v3 st k
def N48v1 : St → Option St := fun s => s.norm [2, 3, 4, 6, 7, 8, 9, 10, 11, 12, 13, 14, 15, 16, 17, 18, 19, 20, 21, 22, 23, 24, 25] 0

def s48v0 (x9 : Nat) (x10 : Nat → Nat → CV) (x11 : Nat) (x12 : Nat → Nat → CV) (x13 : Int) : St := ⟨[.x (.c (.ro false (.pr (.int .i64) (.pr (.int .i64) .nil)) x9 x10)), .x (.c (.ro false (.pr (.int .i64) (.pr (.int .i64) .nil)) x11 x12)), .u, .u, .u, .x (.c (.i .i64 x13)), .u, .u, .u, .u, .u, .u, .u, .u, .u, .u, .u, .u, .u, .u, .u, .u, .u, .u, .u, .u],
    []⟩

def s48v1 : St := ⟨[.u, .u, .u, .u, .x (.c (.b false)), .u, .u, .u, .u, .u, .u, .u, .u, .u, .u, .u, .u, .u, .u, .u, .u, .u, .u, .u, .u, .u],
    []⟩

def s48v2 : St := ⟨[.u, .u, .u, .u, .u, .u, .u, .u, .u, .u, .u, .u, .u, .u, .u, .u, .u, .u, .u, .u, .u, .u, .u, .u, .u, .u],
    []⟩

def L48v1 {ρ : Type} (fuel : Nat) (x9 : Nat) (x10 : Nat → Nat → CV) (x11 : Nat) (x12 : Nat → Nat → CV) : Nat → Int → (Option ρ) → (Option ρ) → Option ρ
  | 0, _, _, _ => none
  | m + 1, x13, k0, k1 =>
    (bif (decide (x13 < (Int.ofNat x9))) then (bif (inb x13 x9) then (bif (inb x13 x11) then (bif (!(((CV.int (x10 (Int.toNat x13) 0)) == (CV.int (x12 (Int.toNat x13) 0))) && (((CV.int (x10 (Int.toNat x13) 1)) == (CV.int (x12 (Int.toNat x13) 1))) && true))) then k0 else (L48v1 fuel x9 x10 x11 x12 m (w64 (x13 + 1)) k0 k1)) else none) else none) else k1)

theorem nl48v1 {ρ σ : Type} (fuel : Nat) (x9 : Nat) (x10 : Nat → Nat → CV) (x11 : Nat) (x12 : Nat → Nat → CV) (g : ρ → Option σ) : ∀ (m : Nat) (x13 : Int) (k0 : Option ρ) (k1 : Option ρ), ob (L48v1 fuel x9 x10 x11 x12 m x13 k0 k1) g = L48v1 fuel x9 x10 x11 x12 m x13 (ob k0 g) (ob k1 g)
  | 0, _, _, _ => rfl
  | m + 1, x13, k0, k1 => by
    simp only [L48v1, ob_bif, ob_ob, ob_none, nl48v1 fuel x9 x10 x11 x12 g m]

theorem r48v1 (fuel : Nat) (m : Nat) {ρ : Type} (k : Ex → St → Option ρ) (x9 : Nat) (x10 : Nat → Nat → CV) (x11 : Nat) (x12 : Nat → Nat → CV) (x13 : Int) :
    loopH (B48v1 (C52 fuel) fuel) N48v1 (m + 1) (s48v0 x9 x10 x11 x12 x13) k =
    (bif (decide (x13 < (Int.ofNat x9))) then (bif (inb x13 x9) then (bif (inb x13 x11) then (bif (!(((CV.int (x10 (Int.toNat x13) 0)) == (CV.int (x12 (Int.toNat x13) 0))) && (((CV.int (x10 (Int.toNat x13) 1)) == (CV.int (x12 (Int.toNat x13) 1))) && true))) then (k .ret s48v1) else (loopH (B48v1 (C52 fuel) fuel) N48v1 m (s48v0 x9 x10 x11 x12 (w64 (x13 + 1))) k)) else none) else none) else (k (.exit 0) s48v2)) := by kernel_rfl

theorem q48v1 (fuel : Nat) (x9 : Nat) (x10 : Nat → Nat → CV) (x11 : Nat) (x12 : Nat → Nat → CV) {ρ : Type} (k : Ex → St → Option ρ) : ∀ (m : Nat) (x13 : Int),
    loopH (B48v1 (C52 fuel) fuel) N48v1 m (s48v0 x9 x10 x11 x12 x13) k = L48v1 fuel x9 x10 x11 x12 m x13 (k .ret s48v1) (k (.exit 0) s48v2)
  | 0, _ => rfl
  | m + 1, x13 => by
    rw [r48v1]
    simp only [L48v1, q48v1 fuel x9 x10 x11 x12 k m]

def D48 {ρ : Type} (fuel : Nat) (x1 : Nat) (x2 : Nat → Nat → CV) (x3 : Nat) (x4 : Nat → Nat → CV) (k : Bool → Option ρ) : Option ρ :=
  (bif ((Int.ofNat x1) != (Int.ofNat x3)) then (k false) else (L48v1 fuel x1 x2 x3 x4 fuel 0
    (k false)
    (k true)))

def F48 (fuel : Nat) (x1 : Nat) (x2 : Nat → Nat → CV) (x3 : Nat) (x4 : Nat → Nat → CV) : Option (Bool) := D48 fuel x1 x2 x3 x4 some

theorem n48 {ρ σ : Type} (fuel : Nat) (x1 : Nat) (x2 : Nat → Nat → CV) (x3 : Nat) (x4 : Nat → Nat → CV) (k : (Bool) → Option ρ) (g : ρ → Option σ) : ob (D48 fuel x1 x2 x3 x4 k) g = D48 fuel x1 x2 x3 x4 fun t => ob (k t) g := by
  simp only [D48, ob_bif, ob_ob, ob_none, nl48v1]

theorem f48 {ρ : Type} (fuel : Nat) (x1 : Nat) (x2 : Nat → Nat → CV) (x3 : Nat) (x4 : Nat → Nat → CV) (k : (Bool) → Option ρ) : D48 fuel x1 x2 x3 x4 k = ob (F48 fuel x1 x2 x3 x4) k := by
  unfold F48
  rw [n48]
  simp only [ob_some]

def s48v3 (x1 : Nat) (x2 : Nat → Nat → CV) (x3 : Nat) (x4 : Nat → Nat → CV) : St := ⟨[.x (.c (.ro false (.pr (.int .i64) (.pr (.int .i64) .nil)) x1 x2)), .x (.c (.ro false (.pr (.int .i64) (.pr (.int .i64) .nil)) x3 x4)), .undef, .undef, .u, .x (.c (.i .i64 0)), .u, .u, .u, .u, .u, .undef, .undef, .undef, .undef, .undef, .undef, .undef, .undef, .undef, .undef, .undef, .undef, .undef, .undef, .undef],
    []⟩

theorem walk48 (fuel : Nat) (x1 : Nat) (x2 : Nat → Nat → CV) (x3 : Nat) (x4 : Nat → Nat → CV) :
    evalF (C52 fuel) fuel A48 [.v (.ro false (.pr (.int .i64) (.pr (.int .i64) .nil)) x1 x2), .v (.ro false (.pr (.int .i64) (.pr (.int .i64) .nil)) x3 x4)] =
    (bif ((Int.ofNat x1) != (Int.ofNat x3)) then (some [.v (.b false)]) else (loopN (B48v1 (C52 fuel) fuel) N48v1 fuel (s48v3 x1 x2 x3 x4) (kBlk 0 (kSeq (C52 fuel) fuel [4, 5, 11, 12, 13, 14, 15, 16, 17, 18, 19, 20, 21, 22, 23, 24, 25] A48v4 (finish A48))))) := by kernel_rfl

theorem t48v1 (fuel : Nat) {ρ : Type} (k : Ex → St → Option ρ) (x1 : Nat) (x2 : Nat → Nat → CV) (x3 : Nat) (x4 : Nat → Nat → CV) :
    loopN (B48v1 (C52 fuel) fuel) N48v1 fuel (s48v3 x1 x2 x3 x4) k =
    L48v1 fuel x1 x2 x3 x4 fuel 0 (k .ret s48v1) (k (.exit 0) s48v2) :=
  (loopN_at (st' := (s48v0 x1 x2 x3 x4 0)) (by kernel_rfl)).trans (q48v1 fuel x1 x2 x3 x4 k fuel 0)

theorem g48v2 (fuel : Nat) :
    (kBlk 0 (kSeq (C52 fuel) fuel [4, 5, 11, 12, 13, 14, 15, 16, 17, 18, 19, 20, 21, 22, 23, 24, 25] A48v4 (finish A48))) .ret s48v1 =
    (some [.v (.b false)]) := by kernel_rfl

theorem g48v3 (fuel : Nat) :
    (kBlk 0 (kSeq (C52 fuel) fuel [4, 5, 11, 12, 13, 14, 15, 16, 17, 18, 19, 20, 21, 22, 23, 24, 25] A48v4 (finish A48))) (.exit 0) s48v2 =
    (some [.v (.b true)]) := by kernel_rfl

theorem e48 (fuel : Nat) (x1 : Nat) (x2 : Nat → Nat → CV) (x3 : Nat) (x4 : Nat → Nat → CV) : evalF (C52 fuel) fuel A48 [.v (.ro false (.pr (.int .i64) (.pr (.int .i64) .nil)) x1 x2), .v (.ro false (.pr (.int .i64) (.pr (.int .i64) .nil)) x3 x4)] = ob (F48 fuel x1 x2 x3 x4) fun t => some [.v (.b t)] := by
  rw [walk48, ← f48]
  simp only [D48, t48v1, g48v2, g48v3]

def O48 (fuel : Nat) : Ora where
  o := fun args {ρ} K =>
    wc args fun a1 l2 =>
    wv a1 fun c3 =>
    wL (.pr (.int .i64) (.pr (.int .i64) .nil)) c3 fun y4 y5 =>
    wc l2 fun a7 l8 =>
    wv a7 fun c9 =>
    wL (.pr (.int .i64) (.pr (.int .i64) .nil)) c9 fun y10 y11 =>
    wn l8 <|
    (ob (F48 fuel y4 y5 y10 y11) fun t => K [.v (.b t)])
  nat := fun args {ρ} K => by
    simp only [bind_wc, bind_wn, bind_wv, bind_wagg, bind_wI, bind_wB, bind_wS, bind_wL, bind_wP, bind_wFn, bind_ob, Option.bind_some]

theorem d48 {P : Program} (fuel : Nat) (hmix : P.follows .mixedOrders = true) (hC : Sound P (C52 fuel)) (hF : FFits P 48 A48) (args res : List A) (h : (O48 fuel).o args some = some res) : Den P 48 args res := by
  obtain ⟨a1, l2, rfl, z0⟩ := inv_wc h
  obtain ⟨c3, rfl, z1⟩ := inv_wv z0
  obtain ⟨y4, y5, h6, z2⟩ := inv_wL z1
  obtain ⟨a7, l8, rfl, z3⟩ := inv_wc z2
  obtain ⟨c9, rfl, z4⟩ := inv_wv z3
  obtain ⟨y10, y11, h12, z5⟩ := inv_wL z4
  obtain ⟨hn, z6⟩ := inv_wn z5
  cases hn
  exact Den.weaken (.cons (WkA.v h6) (.cons (WkA.v h12) .nil)) (evalF_sound hmix hC hF ((e48 fuel y4 y5 y10 y11).trans z6))

def C53 (fuel : Nat) : Oracle := (C52 fuel).add 48 (fun _ => true) (O48 fuel)

/-- shipyard/shipyardref13.Same -/
def A24v1 : AC := (.region 5 [
  ⟨(some 26), .move (.tmp 5), none⟩,
  ⟨(some 27), .binOp .add 3 (.tmp 26) (.const (.int .i64 1)) 3, none⟩,
  ⟨(some 5), .assign (.tmp 27), none⟩] 0 none)
def A24v2 : AC := (.seq (.block 1
  (.seq (.region 6 [
    ⟨(some 28), .fieldAddr 25 (.tmp 2) 1 1, none⟩,
    ⟨(some 29), .load 23 none (.tmp 28), none⟩,
    ⟨(some 30), .move (.tmp 5), none⟩,
    ⟨(some 31), .indexAddr 23 22 1 (.tmp 29) (.tmp 30), none⟩,
    ⟨(some 32), .load 22 none (.tmp 31), none⟩,
    ⟨(some 33), .fieldAddr 25 (.tmp 3) 1 1, none⟩,
    ⟨(some 34), .load 23 none (.tmp 33), none⟩,
    ⟨(some 35), .move (.tmp 5), none⟩,
    ⟨(some 36), .indexAddr 23 22 1 (.tmp 34) (.tmp 35), none⟩,
    ⟨(some 37), .load 22 none (.tmp 36), none⟩,
    ⟨(some 38), .call 48 [(.tmp 32), (.tmp 37)] [22, 22] .snap, none⟩,
    ⟨(some 39), .unOp .not 4 (.tmp 38), none⟩] 0 (some [[], [0], [], [0, 1, 2], [0, 1, 2, 3], [], [5], [], [5, 6, 7], [5, 6, 7, 8], [0, 1, 2, 3, 4, 5, 6, 7, 8, 9], [0, 1, 2, 3, 4, 5, 6, 7, 8, 9, 10]])) []
    (.cond (.tmp 39)
    (.seq (.region 7 [
      ⟨(some 4), .assign (.const (.bool false)), none⟩] 0 none) []
      (.ret [0, 1, 2, 3, 5, 6, 7, 8, 9, 10, 11, 12, 13, 14, 15, 16, 17, 18, 19, 20, 21, 22, 23, 24, 25, 26, 27, 28, 29, 30, 31, 32, 33, 34, 35, 36, 37, 38, 39]))
    .skip))) [4, 28, 29, 30, 31, 32, 33, 34, 35, 36, 37, 38, 39]
  A24v1)
def A24v3 : AC := (.seq (.seq (.region 4 [
  ⟨(some 21), .move (.tmp 5), none⟩,
  ⟨(some 22), .fieldAddr 25 (.tmp 2) 1 1, none⟩,
  ⟨(some 23), .load 23 none (.tmp 22), none⟩,
  ⟨(some 24), .len 23 false (.tmp 23), none⟩,
  ⟨(some 25), .binOp .lss 3 (.tmp 21) (.tmp 24) 3, none⟩] 0 none) []
  (.cond (.tmp 25)
  .skip
  (.exit 0 [0, 1, 2, 3, 4, 5, 6, 7, 8, 9, 10, 11, 12, 13, 14, 15, 16, 17, 18, 19, 20, 21, 22, 23, 24, 25, 26, 27, 28, 29, 30, 31, 32, 33, 34, 35, 36, 37, 38, 39]))) [21, 22, 23, 24, 25]
  A24v2)
def A24v4 : AC := (.seq (.region 8 [
  ⟨(some 4), .assign (.const (.bool true)), none⟩] 0 none) []
  (.ret [0, 1, 2, 3, 5, 6, 7, 8, 9, 10, 11, 12, 13, 14, 15, 16, 17, 18, 19, 20, 21, 22, 23, 24, 25, 26, 27, 28, 29, 30, 31, 32, 33, 34, 35, 36, 37, 38, 39]))
def A24v5 : AC := (.seq (.seq (.region 3 [
  ⟨(some 5), .assign (.const (.int .i64 0)), none⟩] 0 none) []
  (.block 0
  (.loop [] [0, 1, 4, 6, 7, 8, 9, 10, 11, 12, 13, 14, 15, 16, 17, 18, 19, 20, 21, 22, 23, 24, 25, 26, 27, 28, 29, 30, 31, 32, 33, 34, 35, 36, 37, 38, 39]
    A24v3))) [4, 5, 21, 22, 23, 24, 25, 26, 27, 28, 29, 30, 31, 32, 33, 34, 35, 36, 37, 38, 39]
  A24v4)
def A24 : AF := ⟨40, [.tmp 4],
  (.seq (.region 0 [
  ⟨(some 2), .box 0 25 (.tmp 0), none⟩,
  ⟨(some 3), .box 1 25 (.tmp 1), none⟩,
  ⟨(some 4), .assign (.const (.bool false)), none⟩] 2 none) []
  (.seq (.seq (.region 1 [
  ⟨(some 6), .fieldAddr 25 (.tmp 2) 0 0, none⟩,
  ⟨(some 7), .load 22 none (.tmp 6), none⟩,
  ⟨(some 8), .fieldAddr 25 (.tmp 3) 0 0, none⟩,
  ⟨(some 9), .load 22 none (.tmp 8), none⟩,
  ⟨(some 10), .call 48 [(.tmp 7), (.tmp 9)] [22, 22] .snap, none⟩,
  ⟨(some 11), .unOp .not 4 (.tmp 10), none⟩,
  ⟨(some 12), .move (.tmp 11), none⟩,
  ⟨(some 13), .fieldAddr 25 (.tmp 2) 1 1, (some (12, false))⟩,
  ⟨(some 14), .load 23 none (.tmp 13), (some (12, false))⟩,
  ⟨(some 15), .len 23 false (.tmp 14), (some (12, false))⟩,
  ⟨(some 16), .fieldAddr 25 (.tmp 3) 1 1, (some (12, false))⟩,
  ⟨(some 17), .load 23 none (.tmp 16), (some (12, false))⟩,
  ⟨(some 18), .len 23 false (.tmp 17), (some (12, false))⟩,
  ⟨(some 19), .binOp .neq 3 (.tmp 15) (.tmp 18) 3, (some (12, false))⟩,
  ⟨(some 20), .pick (.tmp 12) (.const (.bool true)) (.tmp 19), none⟩] 0 none) []
  (.cond (.tmp 20)
  (.seq (.region 2 [
    ⟨(some 4), .assign (.const (.bool false)), none⟩] 0 none) []
    (.ret [0, 1, 2, 3, 5, 6, 7, 8, 9, 10, 11, 12, 13, 14, 15, 16, 17, 18, 19, 20, 21, 22, 23, 24, 25, 26, 27, 28, 29, 30, 31, 32, 33, 34, 35, 36, 37, 38, 39]))
  .skip)) [4, 6, 7, 8, 9, 10, 11, 12, 13, 14, 15, 16, 17, 18, 19, 20]
  A24v5))⟩

def B24v1 (C : Oracle) (fuel : Nat) {ρ : Type} : St → (Ex → St → Option ρ) → Option ρ := fun st k => evalC C fuel A24v3 st k
def N24v1 : St → Option St := fun s => s.norm [0, 1, 4, 6, 7, 8, 9, 10, 11, 12, 13, 14, 15, 16, 17, 18, 19, 20, 21, 22, 23, 24, 25, 26, 27, 28, 29, 30, 31, 32, 33, 34, 35, 36, 37, 38, 39] 2

def s24v0 (x19 : Int) (x20 : Nat) (x21 : Nat → Nat → CV) (x22 : Nat) (x23 : Nat → Nat → CV) (x24 : Nat) (x25 : Nat → Nat → CV) (x26 : Nat) (x27 : Nat → Nat → CV) : St := ⟨[.u, .u, .x (.ptr 0 0), .x (.ptr 1 0), .u, .x (.c (.i .i64 x19)), .u, .u, .u, .u, .u, .u, .u, .u, .u, .u, .u, .u, .u, .u, .u, .u, .u, .u, .u, .u, .u, .u, .u, .u, .u, .u, .u, .u, .u, .u, .u, .u, .u, .u],
    [.box [(.c (.ro false (.pr (.int .i64) (.pr (.int .i64) .nil)) x20 x21)), (.c (.ro false (.pr (.sl (.pr (.int .i64) (.pr (.int .i64) .nil))) .nil) x22 x23))], .box [(.c (.ro false (.pr (.int .i64) (.pr (.int .i64) .nil)) x24 x25)), (.c (.ro false (.pr (.sl (.pr (.int .i64) (.pr (.int .i64) .nil))) .nil) x26 x27))]]⟩

def s24v1 (x20 : Nat) (x21 : Nat → Nat → CV) (x22 : Nat) (x23 : Nat → Nat → CV) (x24 : Nat) (x25 : Nat → Nat → CV) (x26 : Nat) (x27 : Nat → Nat → CV) : St := ⟨[.u, .u, .u, .u, .x (.c (.b false)), .u, .u, .u, .u, .u, .u, .u, .u, .u, .u, .u, .u, .u, .u, .u, .u, .u, .u, .u, .u, .u, .u, .u, .u, .u, .u, .u, .u, .u, .u, .u, .u, .u, .u, .u],
    [.box [(.c (.ro false (.pr (.int .i64) (.pr (.int .i64) .nil)) x20 x21)), (.c (.ro false (.pr (.sl (.pr (.int .i64) (.pr (.int .i64) .nil))) .nil) x22 x23))], .box [(.c (.ro false (.pr (.int .i64) (.pr (.int .i64) .nil)) x24 x25)), (.c (.ro false (.pr (.sl (.pr (.int .i64) (.pr (.int .i64) .nil))) .nil) x26 x27))]]⟩

def s24v2 (x20 : Nat) (x21 : Nat → Nat → CV) (x22 : Nat) (x23 : Nat → Nat → CV) (x24 : Nat) (x25 : Nat → Nat → CV) (x26 : Nat) (x27 : Nat → Nat → CV) : St := ⟨[.u, .u, .u, .u, .u, .u, .u, .u, .u, .u, .u, .u, .u, .u, .u, .u, .u, .u, .u, .u, .u, .u, .u, .u, .u, .u, .u, .u, .u, .u, .u, .u, .u, .u, .u, .u, .u, .u, .u, .u],
    [.box [(.c (.ro false (.pr (.int .i64) (.pr (.int .i64) .nil)) x20 x21)), (.c (.ro false (.pr (.sl (.pr (.int .i64) (.pr (.int .i64) .nil))) .nil) x22 x23))], .box [(.c (.ro false (.pr (.int .i64) (.pr (.int .i64) .nil)) x24 x25)), (.c (.ro false (.pr (.sl (.pr (.int .i64) (.pr (.int .i64) .nil))) .nil) x26 x27))]]⟩

def L24v1 {ρ : Type} (fuel : Nat) (x20 : Nat) (x21 : Nat → Nat → CV) (x22 : Nat) (x23 : Nat → Nat → CV) (x24 : Nat) (x25 : Nat → Nat → CV) (x26 : Nat) (x27 : Nat → Nat → CV) : Nat → Int → (Option ρ) → (Option ρ) → Option ρ
  | 0, _, _, _ => none
  | m + 1, x19, k0, k1 =>
    (bif (decide (x19 < (Int.ofNat x22))) then (bif (inb x19 x22) then (bif (inb x19 x26) then (ob (F48 fuel (CV.len (x23 (Int.toNat x19) 0)) (CV.el (x23 (Int.toNat x19) 0)) (CV.len (x27 (Int.toNat x19) 0)) (CV.el (x27 (Int.toNat x19) 0))) fun x28 => (bif (!x28) then k0 else (L24v1 fuel x20 x21 x22 x23 x24 x25 x26 x27 m (w64 (x19 + 1)) k0 k1))) else none) else none) else k1)

theorem nl24v1 {ρ σ : Type} (fuel : Nat) (x20 : Nat) (x21 : Nat → Nat → CV) (x22 : Nat) (x23 : Nat → Nat → CV) (x24 : Nat) (x25 : Nat → Nat → CV) (x26 : Nat) (x27 : Nat → Nat → CV) (g : ρ → Option σ) : ∀ (m : Nat) (x19 : Int) (k0 : Option ρ) (k1 : Option ρ), ob (L24v1 fuel x20 x21 x22 x23 x24 x25 x26 x27 m x19 k0 k1) g = L24v1 fuel x20 x21 x22 x23 x24 x25 x26 x27 m x19 (ob k0 g) (ob k1 g)
  | 0, _, _, _ => rfl
  | m + 1, x19, k0, k1 => by
    simp only [L24v1, ob_bif, ob_ob, ob_none, nl24v1 fuel x20 x21 x22 x23 x24 x25 x26 x27 g m]

theorem r24v1 (fuel : Nat) (m : Nat) {ρ : Type} (k : Ex → St → Option ρ) (x20 : Nat) (x21 : Nat → Nat → CV) (x22 : Nat) (x23 : Nat → Nat → CV) (x24 : Nat) (x25 : Nat → Nat → CV) (x26 : Nat) (x27 : Nat → Nat → CV) (x19 : Int) :
    loopH (B24v1 (C53 fuel) fuel) N24v1 (m + 1) (s24v0 x19 x20 x21 x22 x23 x24 x25 x26 x27) k =
    (bif (decide (x19 < (Int.ofNat x22))) then (bif (inb x19 x22) then (bif (inb x19 x26) then (ob (F48 fuel (CV.len (x23 (Int.toNat x19) 0)) (CV.el (x23 (Int.toNat x19) 0)) (CV.len (x27 (Int.toNat x19) 0)) (CV.el (x27 (Int.toNat x19) 0))) fun x28 => (bif (!x28) then (k .ret (s24v1 x20 x21 x22 x23 x24 x25 x26 x27)) else (loopH (B24v1 (C53 fuel) fuel) N24v1 m (s24v0 (w64 (x19 + 1)) x20 x21 x22 x23 x24 x25 x26 x27) k))) else none) else none) else (k (.exit 0) (s24v2 x20 x21 x22 x23 x24 x25 x26 x27))) := by kernel_rfl

theorem q24v1 (fuel : Nat) (x20 : Nat) (x21 : Nat → Nat → CV) (x22 : Nat) (x23 : Nat → Nat → CV) (x24 : Nat) (x25 : Nat → Nat → CV) (x26 : Nat) (x27 : Nat → Nat → CV) {ρ : Type} (k : Ex → St → Option ρ) : ∀ (m : Nat) (x19 : Int),
    loopH (B24v1 (C53 fuel) fuel) N24v1 m (s24v0 x19 x20 x21 x22 x23 x24 x25 x26 x27) k = L24v1 fuel x20 x21 x22 x23 x24 x25 x26 x27 m x19 (k .ret (s24v1 x20 x21 x22 x23 x24 x25 x26 x27)) (k (.exit 0) (s24v2 x20 x21 x22 x23 x24 x25 x26 x27))
  | 0, _ => rfl
  | m + 1, x19 => by
    rw [r24v1]
    simp only [L24v1, q24v1 fuel x20 x21 x22 x23 x24 x25 x26 x27 k m]

def D24 {ρ : Type} (fuel : Nat) (x1 : Nat) (x2 : Nat → Nat → CV) (x3 : Nat) (x4 : Nat → Nat → CV) (x5 : Nat) (x6 : Nat → Nat → CV) (x7 : Nat) (x8 : Nat → Nat → CV) (k : Bool → Option ρ) : Option ρ :=
  (ob (F48 fuel x1 x2 x5 x6) fun x9 => (bif ((!x9) == false) then (bif ((Int.ofNat x3) != (Int.ofNat x7)) then (k false) else (L24v1 fuel x1 x2 x3 x4 x5 x6 x7 x8 fuel 0
    (k false)
    (k true))) else (k false)))

def F24 (fuel : Nat) (x1 : Nat) (x2 : Nat → Nat → CV) (x3 : Nat) (x4 : Nat → Nat → CV) (x5 : Nat) (x6 : Nat → Nat → CV) (x7 : Nat) (x8 : Nat → Nat → CV) : Option (Bool) := D24 fuel x1 x2 x3 x4 x5 x6 x7 x8 some

theorem n24 {ρ σ : Type} (fuel : Nat) (x1 : Nat) (x2 : Nat → Nat → CV) (x3 : Nat) (x4 : Nat → Nat → CV) (x5 : Nat) (x6 : Nat → Nat → CV) (x7 : Nat) (x8 : Nat → Nat → CV) (k : (Bool) → Option ρ) (g : ρ → Option σ) : ob (D24 fuel x1 x2 x3 x4 x5 x6 x7 x8 k) g = D24 fuel x1 x2 x3 x4 x5 x6 x7 x8 fun t => ob (k t) g := by
  simp only [D24, ob_bif, ob_ob, ob_none, nl24v1]

theorem f24 {ρ : Type} (fuel : Nat) (x1 : Nat) (x2 : Nat → Nat → CV) (x3 : Nat) (x4 : Nat → Nat → CV) (x5 : Nat) (x6 : Nat → Nat → CV) (x7 : Nat) (x8 : Nat → Nat → CV) (k : (Bool) → Option ρ) : D24 fuel x1 x2 x3 x4 x5 x6 x7 x8 k = ob (F24 fuel x1 x2 x3 x4 x5 x6 x7 x8) k := by
  unfold F24
  rw [n24]
  simp only [ob_some]

def s24v3 (x1 : Nat) (x2 : Nat → Nat → CV) (x3 : Nat) (x4 : Nat → Nat → CV) (x5 : Nat) (x6 : Nat → Nat → CV) (x7 : Nat) (x8 : Nat → Nat → CV) : St := ⟨[.agg [(.c (.ro false (.pr (.int .i64) (.pr (.int .i64) .nil)) x1 x2)), (.c (.ro false (.pr (.sl (.pr (.int .i64) (.pr (.int .i64) .nil))) .nil) x3 x4))], .agg [(.c (.ro false (.pr (.int .i64) (.pr (.int .i64) .nil)) x5 x6)), (.c (.ro false (.pr (.sl (.pr (.int .i64) (.pr (.int .i64) .nil))) .nil) x7 x8))], .x (.ptr 0 0), .x (.ptr 1 0), .u, .x (.c (.i .i64 0)), .u, .u, .u, .u, .u, .u, .u, .u, .u, .u, .u, .u, .u, .u, .u, .undef, .undef, .undef, .undef, .undef, .undef, .undef, .undef, .undef, .undef, .undef, .undef, .undef, .undef, .undef, .undef, .undef, .undef, .undef],
    [.box [(.c (.ro false (.pr (.int .i64) (.pr (.int .i64) .nil)) x1 x2)), (.c (.ro false (.pr (.sl (.pr (.int .i64) (.pr (.int .i64) .nil))) .nil) x3 x4))], .box [(.c (.ro false (.pr (.int .i64) (.pr (.int .i64) .nil)) x5 x6)), (.c (.ro false (.pr (.sl (.pr (.int .i64) (.pr (.int .i64) .nil))) .nil) x7 x8))]]⟩

theorem walk24 (fuel : Nat) (x1 : Nat) (x2 : Nat → Nat → CV) (x3 : Nat) (x4 : Nat → Nat → CV) (x5 : Nat) (x6 : Nat → Nat → CV) (x7 : Nat) (x8 : Nat → Nat → CV) :
    evalF (C53 fuel) fuel A24 [.agg [(.ro false (.pr (.int .i64) (.pr (.int .i64) .nil)) x1 x2), (.ro false (.pr (.sl (.pr (.int .i64) (.pr (.int .i64) .nil))) .nil) x3 x4)], .agg [(.ro false (.pr (.int .i64) (.pr (.int .i64) .nil)) x5 x6), (.ro false (.pr (.sl (.pr (.int .i64) (.pr (.int .i64) .nil))) .nil) x7 x8)]] =
    (ob (F48 fuel x1 x2 x5 x6) fun x9 => (bif ((!x9) == false) then (bif ((Int.ofNat x3) != (Int.ofNat x7)) then (some [.v (.b false)]) else (loopN (B24v1 (C53 fuel) fuel) N24v1 fuel (s24v3 x1 x2 x3 x4 x5 x6 x7 x8) (kBlk 0 (kSeq (C53 fuel) fuel [4, 5, 21, 22, 23, 24, 25, 26, 27, 28, 29, 30, 31, 32, 33, 34, 35, 36, 37, 38, 39] A24v4 (finish A24))))) else (some [.v (.b false)]))) := by kernel_rfl

theorem t24v1 (fuel : Nat) {ρ : Type} (k : Ex → St → Option ρ) (x1 : Nat) (x2 : Nat → Nat → CV) (x3 : Nat) (x4 : Nat → Nat → CV) (x5 : Nat) (x6 : Nat → Nat → CV) (x7 : Nat) (x8 : Nat → Nat → CV) :
    loopN (B24v1 (C53 fuel) fuel) N24v1 fuel (s24v3 x1 x2 x3 x4 x5 x6 x7 x8) k =
    L24v1 fuel x1 x2 x3 x4 x5 x6 x7 x8 fuel 0 (k .ret (s24v1 x1 x2 x3 x4 x5 x6 x7 x8)) (k (.exit 0) (s24v2 x1 x2 x3 x4 x5 x6 x7 x8)) :=
  (loopN_at (st' := (s24v0 0 x1 x2 x3 x4 x5 x6 x7 x8)) (by kernel_rfl)).trans (q24v1 fuel x1 x2 x3 x4 x5 x6 x7 x8 k fuel 0)

theorem g24v2 (fuel : Nat) (x1 : Nat) (x2 : Nat → Nat → CV) (x3 : Nat) (x4 : Nat → Nat → CV) (x5 : Nat) (x6 : Nat → Nat → CV) (x7 : Nat) (x8 : Nat → Nat → CV) :
    (kBlk 0 (kSeq (C53 fuel) fuel [4, 5, 21, 22, 23, 24, 25, 26, 27, 28, 29, 30, 31, 32, 33, 34, 35, 36, 37, 38, 39] A24v4 (finish A24))) .ret (s24v1 x1 x2 x3 x4 x5 x6 x7 x8) =
    (some [.v (.b false)]) := by kernel_rfl

theorem g24v3 (fuel : Nat) (x1 : Nat) (x2 : Nat → Nat → CV) (x3 : Nat) (x4 : Nat → Nat → CV) (x5 : Nat) (x6 : Nat → Nat → CV) (x7 : Nat) (x8 : Nat → Nat → CV) :
    (kBlk 0 (kSeq (C53 fuel) fuel [4, 5, 21, 22, 23, 24, 25, 26, 27, 28, 29, 30, 31, 32, 33, 34, 35, 36, 37, 38, 39] A24v4 (finish A24))) (.exit 0) (s24v2 x1 x2 x3 x4 x5 x6 x7 x8) =
    (some [.v (.b true)]) := by kernel_rfl

theorem e24 (fuel : Nat) (x1 : Nat) (x2 : Nat → Nat → CV) (x3 : Nat) (x4 : Nat → Nat → CV) (x5 : Nat) (x6 : Nat → Nat → CV) (x7 : Nat) (x8 : Nat → Nat → CV) : evalF (C53 fuel) fuel A24 [.agg [(.ro false (.pr (.int .i64) (.pr (.int .i64) .nil)) x1 x2), (.ro false (.pr (.sl (.pr (.int .i64) (.pr (.int .i64) .nil))) .nil) x3 x4)], .agg [(.ro false (.pr (.int .i64) (.pr (.int .i64) .nil)) x5 x6), (.ro false (.pr (.sl (.pr (.int .i64) (.pr (.int .i64) .nil))) .nil) x7 x8)]] = ob (F24 fuel x1 x2 x3 x4 x5 x6 x7 x8) fun t => some [.v (.b t)] := by
  rw [walk24, ← f24]
  simp only [D24, t24v1, g24v2, g24v3]

def O24 (fuel : Nat) : Ora where
  o := fun args {ρ} K =>
    wc args fun a1 l2 =>
    wagg a1 fun l3 =>
    wc l3 fun c4 l5 =>
    wL (.pr (.int .i64) (.pr (.int .i64) .nil)) c4 fun y6 y7 =>
    wc l5 fun c9 l10 =>
    wL (.pr (.sl (.pr (.int .i64) (.pr (.int .i64) .nil))) .nil) c9 fun y11 y12 =>
    wn l10 <|
    wc l2 fun a14 l15 =>
    wagg a14 fun l16 =>
    wc l16 fun c17 l18 =>
    wL (.pr (.int .i64) (.pr (.int .i64) .nil)) c17 fun y19 y20 =>
    wc l18 fun c22 l23 =>
    wL (.pr (.sl (.pr (.int .i64) (.pr (.int .i64) .nil))) .nil) c22 fun y24 y25 =>
    wn l23 <|
    wn l15 <|
    (ob (F24 fuel y6 y7 y11 y12 y19 y20 y24 y25) fun t => K [.v (.b t)])
  nat := fun args {ρ} K => by
    simp only [bind_wc, bind_wn, bind_wv, bind_wagg, bind_wI, bind_wB, bind_wS, bind_wL, bind_wP, bind_wFn, bind_ob, Option.bind_some]

theorem d24 {P : Program} (fuel : Nat) (hmix : P.follows .mixedOrders = true) (hC : Sound P (C53 fuel)) (hF : FFits P 24 A24) (args res : List A) (h : (O24 fuel).o args some = some res) : Den P 24 args res := by
  obtain ⟨a1, l2, rfl, z0⟩ := inv_wc h
  obtain ⟨l3, rfl, z1⟩ := inv_wagg z0
  obtain ⟨c4, l5, rfl, z2⟩ := inv_wc z1
  obtain ⟨y6, y7, h8, z3⟩ := inv_wL z2
  obtain ⟨c9, l10, rfl, z4⟩ := inv_wc z3
  obtain ⟨y11, y12, h13, z5⟩ := inv_wL z4
  obtain ⟨hn, z6⟩ := inv_wn z5
  cases hn
  obtain ⟨a14, l15, rfl, z7⟩ := inv_wc z6
  obtain ⟨l16, rfl, z8⟩ := inv_wagg z7
  obtain ⟨c17, l18, rfl, z9⟩ := inv_wc z8
  obtain ⟨y19, y20, h21, z10⟩ := inv_wL z9
  obtain ⟨c22, l23, rfl, z11⟩ := inv_wc z10
  obtain ⟨y24, y25, h26, z12⟩ := inv_wL z11
  obtain ⟨hn, z13⟩ := inv_wn z12
  cases hn
  obtain ⟨hn, z14⟩ := inv_wn z13
  cases hn
  exact Den.weaken (.cons (WkA.agg (.cons h8 (.cons h13 .nil))) (.cons (WkA.agg (.cons h21 (.cons h26 .nil))) .nil)) (evalF_sound hmix hC hF ((e24 fuel y6 y7 y11 y12 y19 y20 y24 y25).trans z14))

def C54 (fuel : Nat) : Oracle := (C53 fuel).add 24 (fun _ => true) (O24 fuel)

/-- shipyard/region.place -/
def A47v1 : AC := (.region 10 [
  ⟨(some 30), .binOp .add 3 (.tmp 19) (.const (.int .i64 1)) 3, none⟩,
  ⟨(some 19), .move (.tmp 30), none⟩] 0 none)
def A47v2 : AC := (.seq (.block 1
  (.seq (.region 6 [
    ⟨(some 21), .indexAddr 23 22 1 (.tmp 17) (.tmp 19), none⟩,
    ⟨(some 22), .load 22 none (.tmp 21), none⟩,
    ⟨(some 7), .assign (.tmp 22), none⟩] 0 none) []
    (.seq (.region 7 [
    ⟨(some 23), .move (.tmp 7), none⟩,
    ⟨(some 24), .load 34 (some 2) (.tmp 3), none⟩,
    ⟨(some 25), .call 65 [(.tmp 23), (.tmp 24)] [22, 34] .snap, none⟩,
    ⟨(some 8), .assign (.tmp 25), none⟩] 0 none) []
    (.seq (.region 8 [
    ⟨(some 26), .move (.tmp 8), none⟩,
    ⟨(some 27), .binOp .geq 3 (.tmp 26) (.const (.int .i64 0)) 3, none⟩] 0 none) []
    (.cond (.tmp 27)
    (.seq (.region 9 [
      ⟨(some 28), .move (.tmp 8), none⟩,
      ⟨(some 29), .unOp .neg 3 (.tmp 28), none⟩,
      ⟨(some 4), .assign (.tmp 29), none⟩] 0 none) []
      (.ret [0, 1, 2, 3, 5, 6, 7, 8, 9, 10, 11, 12, 13, 14, 15, 16, 17, 18, 19, 20, 21, 22, 23, 24, 25, 26, 27, 28, 29, 30]))
    .skip))))) [4, 7, 8, 21, 22, 23, 24, 25, 26, 27, 28, 29]
  A47v1)
def A47v3 : AC := (.seq (.region 5 [
  ⟨(some 20), .binOp .lss 3 (.tmp 19) (.tmp 18) 3, none⟩] 0 none) []
  (.seq (.cond (.tmp 20)
  .skip
  (.exit 0 [0, 1, 2, 3, 4, 5, 6, 7, 8, 9, 10, 11, 12, 13, 14, 15, 16, 17, 18, 19, 20, 21, 22, 23, 24, 25, 26, 27, 28, 29, 30])) []
  A47v2))
def A47v4 : AC := (.seq (.region 11 [
  ⟨(some 4), .assign (.const (.int .i64 1)), none⟩] 0 none) []
  (.ret [0, 1, 2, 3, 5, 6, 7, 8, 9, 10, 11, 12, 13, 14, 15, 16, 17, 18, 19, 20, 21, 22, 23, 24, 25, 26, 27, 28, 29, 30]))
def A47v5 : AC := (.seq (.seq (.region 4 [
  ⟨(some 16), .fieldAddr 25 (.tmp 2) 1 1, none⟩,
  ⟨(some 17), .load 23 none (.tmp 16), none⟩,
  ⟨(some 18), .len 23 false (.tmp 17), none⟩,
  ⟨(some 19), .move (.const (.int .i64 0)), none⟩] 0 none) []
  (.block 0
  (.loop [] [0, 1, 2, 4, 5, 6, 7, 8, 9, 10, 11, 12, 13, 14, 15, 16, 20, 21, 22, 23, 24, 25, 26, 27, 28, 29, 30]
    A47v3))) [4, 7, 8, 16, 17, 18, 19, 20, 21, 22, 23, 24, 25, 26, 27, 28, 29, 30]
  A47v4)
def A47 : AF := ⟨31, [.tmp 4],
  (.seq (.region 0 [
  ⟨(some 2), .box 0 25 (.tmp 0), none⟩,
  ⟨(some 3), .box 1 34 (.tmp 1), none⟩,
  ⟨(some 4), .assign (.const (.int .i64 0)), none⟩] 2 none) []
  (.seq (.seq (.region 1 [
  ⟨(some 9), .fieldAddr 25 (.tmp 2) 0 0, none⟩,
  ⟨(some 10), .load 22 none (.tmp 9), none⟩,
  ⟨(some 11), .load 34 (some 2) (.tmp 3), none⟩,
  ⟨(some 12), .call 65 [(.tmp 10), (.tmp 11)] [22, 34] .snap, none⟩,
  ⟨(some 5), .assign (.tmp 12), none⟩] 0 none) []
  (.seq (.region 2 [
  ⟨(some 13), .move (.tmp 5), none⟩,
  ⟨(some 14), .binOp .leq 3 (.tmp 13) (.const (.int .i64 0)) 3, none⟩] 0 none) []
  (.cond (.tmp 14)
  (.seq (.region 3 [
    ⟨(some 15), .move (.tmp 5), none⟩,
    ⟨(some 4), .assign (.tmp 15), none⟩] 0 none) []
    (.ret [0, 1, 2, 3, 5, 6, 7, 8, 9, 10, 11, 12, 13, 14, 15, 16, 17, 18, 19, 20, 21, 22, 23, 24, 25, 26, 27, 28, 29, 30]))
  .skip))) [4, 5, 9, 10, 11, 12, 13, 14, 15]
  A47v5))⟩

def B47v1 (C : Oracle) (fuel : Nat) {ρ : Type} : St → (Ex → St → Option ρ) → Option ρ := fun st k => evalC C fuel A47v3 st k
def N47v1 : St → Option St := fun s => s.norm [0, 1, 2, 4, 5, 6, 7, 8, 9, 10, 11, 12, 13, 14, 15, 16, 20, 21, 22, 23, 24, 25, 26, 27, 28, 29, 30] 2

def s47v0 (x16 : Nat) (x17 : Nat → Nat → CV) (x18 : Int) (x19 : Int) (x20 : Nat) (x21 : Nat → Nat → CV) (x22 : Int) (x23 : Int) : St := ⟨[.u, .u, .u, .x (.ptr 1 0), .u, .u, .u, .u, .u, .u, .u, .u, .u, .u, .u, .u, .u, .x (.c (.ro false (.pr (.sl (.pr (.int .i64) (.pr (.int .i64) .nil))) .nil) x16 x17)), .x (.c (.i .i64 x18)), .x (.c (.i .i64 x19)), .u, .u, .u, .u, .u, .u, .u, .u, .u, .u, .u],
    [.box [(.c (.ro false (.pr (.int .i64) (.pr (.int .i64) .nil)) x20 x21)), (.c (.ro false (.pr (.sl (.pr (.int .i64) (.pr (.int .i64) .nil))) .nil) x16 x17))], .box [(.c (.i .i64 x22)), (.c (.i .i64 x23))]]⟩

def s47v1 (x25 : Int) (x20 : Nat) (x21 : Nat → Nat → CV) (x16 : Nat) (x17 : Nat → Nat → CV) (x22 : Int) (x23 : Int) : St := ⟨[.u, .u, .u, .u, .x (.c (.i .i64 x25)), .u, .u, .u, .u, .u, .u, .u, .u, .u, .u, .u, .u, .u, .u, .u, .u, .u, .u, .u, .u, .u, .u, .u, .u, .u, .u],
    [.box [(.c (.ro false (.pr (.int .i64) (.pr (.int .i64) .nil)) x20 x21)), (.c (.ro false (.pr (.sl (.pr (.int .i64) (.pr (.int .i64) .nil))) .nil) x16 x17))], .box [(.c (.i .i64 x22)), (.c (.i .i64 x23))]]⟩

def s47v2 (x20 : Nat) (x21 : Nat → Nat → CV) (x16 : Nat) (x17 : Nat → Nat → CV) (x22 : Int) (x23 : Int) : St := ⟨[.u, .u, .u, .u, .u, .u, .u, .u, .u, .u, .u, .u, .u, .u, .u, .u, .u, .u, .u, .u, .u, .u, .u, .u, .u, .u, .u, .u, .u, .u, .u],
    [.box [(.c (.ro false (.pr (.int .i64) (.pr (.int .i64) .nil)) x20 x21)), (.c (.ro false (.pr (.sl (.pr (.int .i64) (.pr (.int .i64) .nil))) .nil) x16 x17))], .box [(.c (.i .i64 x22)), (.c (.i .i64 x23))]]⟩

def L47v1 {ρ : Type} (fuel : Nat) (x16 : Nat) (x17 : Nat → Nat → CV) (x18 : Int) (x20 : Nat) (x21 : Nat → Nat → CV) (x22 : Int) (x23 : Int) : Nat → Int → (Int → Option ρ) → (Option ρ) → Option ρ
  | 0, _, _, _ => none
  | m + 1, x19, k0, k1 =>
    (bif (decide (x19 < x18)) then (bif (inb x19 x16) then (ob (F65 fuel (CV.len (x17 (Int.toNat x19) 0)) (CV.el (x17 (Int.toNat x19) 0)) x22 x23) fun x24 => (bif (decide (x24 ≥ 0)) then (k0 (w64 (0 - x24))) else (L47v1 fuel x16 x17 x18 x20 x21 x22 x23 m (w64 (x19 + 1)) k0 k1))) else none) else k1)

theorem nl47v1 {ρ σ : Type} (fuel : Nat) (x16 : Nat) (x17 : Nat → Nat → CV) (x18 : Int) (x20 : Nat) (x21 : Nat → Nat → CV) (x22 : Int) (x23 : Int) (g : ρ → Option σ) : ∀ (m : Nat) (x19 : Int) (k0 : Int → Option ρ) (k1 : Option ρ), ob (L47v1 fuel x16 x17 x18 x20 x21 x22 x23 m x19 k0 k1) g = L47v1 fuel x16 x17 x18 x20 x21 x22 x23 m x19 (fun x25 => ob (k0 x25) g) (ob k1 g)
  | 0, _, _, _ => rfl
  | m + 1, x19, k0, k1 => by
    simp only [L47v1, ob_bif, ob_ob, ob_none, nl47v1 fuel x16 x17 x18 x20 x21 x22 x23 g m]

theorem r47v1 (fuel : Nat) (m : Nat) {ρ : Type} (k : Ex → St → Option ρ) (x16 : Nat) (x17 : Nat → Nat → CV) (x18 : Int) (x20 : Nat) (x21 : Nat → Nat → CV) (x22 : Int) (x23 : Int) (x19 : Int) :
    loopH (B47v1 (C54 fuel) fuel) N47v1 (m + 1) (s47v0 x16 x17 x18 x19 x20 x21 x22 x23) k =
    (bif (decide (x19 < x18)) then (bif (inb x19 x16) then (ob (F65 fuel (CV.len (x17 (Int.toNat x19) 0)) (CV.el (x17 (Int.toNat x19) 0)) x22 x23) fun x24 => (bif (decide (x24 ≥ 0)) then (k .ret (s47v1 (w64 (0 - x24)) x20 x21 x16 x17 x22 x23)) else (loopH (B47v1 (C54 fuel) fuel) N47v1 m (s47v0 x16 x17 x18 (w64 (x19 + 1)) x20 x21 x22 x23) k))) else none) else (k (.exit 0) (s47v2 x20 x21 x16 x17 x22 x23))) := by kernel_rfl

theorem q47v1 (fuel : Nat) (x16 : Nat) (x17 : Nat → Nat → CV) (x18 : Int) (x20 : Nat) (x21 : Nat → Nat → CV) (x22 : Int) (x23 : Int) {ρ : Type} (k : Ex → St → Option ρ) : ∀ (m : Nat) (x19 : Int),
    loopH (B47v1 (C54 fuel) fuel) N47v1 m (s47v0 x16 x17 x18 x19 x20 x21 x22 x23) k = L47v1 fuel x16 x17 x18 x20 x21 x22 x23 m x19 (fun x25 => k .ret (s47v1 x25 x20 x21 x16 x17 x22 x23)) (k (.exit 0) (s47v2 x20 x21 x16 x17 x22 x23))
  | 0, _ => rfl
  | m + 1, x19 => by
    rw [r47v1]
    simp only [L47v1, q47v1 fuel x16 x17 x18 x20 x21 x22 x23 k m]

def D47 {ρ : Type} (fuel : Nat) (x1 : Nat) (x2 : Nat → Nat → CV) (x3 : Nat) (x4 : Nat → Nat → CV) (x5 : Int) (x6 : Int) (k : Int → Option ρ) : Option ρ :=
  (ob (F65 fuel x1 x2 x5 x6) fun x7 => (bif (decide (x7 ≤ 0)) then (k x7) else (L47v1 fuel x3 x4 (Int.ofNat x3) x1 x2 x5 x6 fuel 0
    (fun x26 => (k x26))
    (k 1))))

def F47 (fuel : Nat) (x1 : Nat) (x2 : Nat → Nat → CV) (x3 : Nat) (x4 : Nat → Nat → CV) (x5 : Int) (x6 : Int) : Option (Int) := D47 fuel x1 x2 x3 x4 x5 x6 some

theorem n47 {ρ σ : Type} (fuel : Nat) (x1 : Nat) (x2 : Nat → Nat → CV) (x3 : Nat) (x4 : Nat → Nat → CV) (x5 : Int) (x6 : Int) (k : (Int) → Option ρ) (g : ρ → Option σ) : ob (D47 fuel x1 x2 x3 x4 x5 x6 k) g = D47 fuel x1 x2 x3 x4 x5 x6 fun t => ob (k t) g := by
  simp only [D47, ob_bif, ob_ob, ob_none, nl47v1]

theorem f47 {ρ : Type} (fuel : Nat) (x1 : Nat) (x2 : Nat → Nat → CV) (x3 : Nat) (x4 : Nat → Nat → CV) (x5 : Int) (x6 : Int) (k : (Int) → Option ρ) : D47 fuel x1 x2 x3 x4 x5 x6 k = ob (F47 fuel x1 x2 x3 x4 x5 x6) k := by
  unfold F47
  rw [n47]
  simp only [ob_some]

def s47v3 (x1 : Nat) (x2 : Nat → Nat → CV) (x3 : Nat) (x4 : Nat → Nat → CV) (x5 : Int) (x6 : Int) : St := ⟨[.agg [(.c (.ro false (.pr (.int .i64) (.pr (.int .i64) .nil)) x1 x2)), (.c (.ro false (.pr (.sl (.pr (.int .i64) (.pr (.int .i64) .nil))) .nil) x3 x4))], .agg [(.c (.i .i64 x5)), (.c (.i .i64 x6))], .x (.ptr 0 0), .x (.ptr 1 0), .u, .u, .undef, .undef, .undef, .u, .u, .u, .u, .u, .u, .u, .x (.ptr 0 1), .x (.c (.ro false (.pr (.sl (.pr (.int .i64) (.pr (.int .i64) .nil))) .nil) x3 x4)), .x (.c (.i .i64 (Int.ofNat x3))), .x (.c (.i .i64 0)), .undef, .undef, .undef, .undef, .undef, .undef, .undef, .undef, .undef, .undef, .undef],
    [.box [(.c (.ro false (.pr (.int .i64) (.pr (.int .i64) .nil)) x1 x2)), (.c (.ro false (.pr (.sl (.pr (.int .i64) (.pr (.int .i64) .nil))) .nil) x3 x4))], .box [(.c (.i .i64 x5)), (.c (.i .i64 x6))]]⟩

theorem walk47 (fuel : Nat) (x1 : Nat) (x2 : Nat → Nat → CV) (x3 : Nat) (x4 : Nat → Nat → CV) (x5 : Int) (x6 : Int) :
    evalF (C54 fuel) fuel A47 [.agg [(.ro false (.pr (.int .i64) (.pr (.int .i64) .nil)) x1 x2), (.ro false (.pr (.sl (.pr (.int .i64) (.pr (.int .i64) .nil))) .nil) x3 x4)], .agg [(.i .i64 x5), (.i .i64 x6)]] =
    (ob (F65 fuel x1 x2 x5 x6) fun x7 => (bif (decide (x7 ≤ 0)) then (some [.v (.i .i64 x7)]) else (loopN (B47v1 (C54 fuel) fuel) N47v1 fuel (s47v3 x1 x2 x3 x4 x5 x6) (kBlk 0 (kSeq (C54 fuel) fuel [4, 7, 8, 16, 17, 18, 19, 20, 21, 22, 23, 24, 25, 26, 27, 28, 29, 30] A47v4 (finish A47)))))) := by kernel_rfl

theorem t47v1 (fuel : Nat) {ρ : Type} (k : Ex → St → Option ρ) (x1 : Nat) (x2 : Nat → Nat → CV) (x3 : Nat) (x4 : Nat → Nat → CV) (x5 : Int) (x6 : Int) :
    loopN (B47v1 (C54 fuel) fuel) N47v1 fuel (s47v3 x1 x2 x3 x4 x5 x6) k =
    L47v1 fuel x3 x4 (Int.ofNat x3) x1 x2 x5 x6 fuel 0 (fun x25 => k .ret (s47v1 x25 x1 x2 x3 x4 x5 x6)) (k (.exit 0) (s47v2 x1 x2 x3 x4 x5 x6)) :=
  (loopN_at (st' := (s47v0 x3 x4 (Int.ofNat x3) 0 x1 x2 x5 x6)) (by kernel_rfl)).trans (q47v1 fuel x3 x4 (Int.ofNat x3) x1 x2 x5 x6 k fuel 0)

theorem g47v2 (fuel : Nat) (x26 : Int) (x1 : Nat) (x2 : Nat → Nat → CV) (x3 : Nat) (x4 : Nat → Nat → CV) (x5 : Int) (x6 : Int) :
    (kBlk 0 (kSeq (C54 fuel) fuel [4, 7, 8, 16, 17, 18, 19, 20, 21, 22, 23, 24, 25, 26, 27, 28, 29, 30] A47v4 (finish A47))) .ret (s47v1 x26 x1 x2 x3 x4 x5 x6) =
    (some [.v (.i .i64 x26)]) := by kernel_rfl

theorem g47v3 (fuel : Nat) (x1 : Nat) (x2 : Nat → Nat → CV) (x3 : Nat) (x4 : Nat → Nat → CV) (x5 : Int) (x6 : Int) :
    (kBlk 0 (kSeq (C54 fuel) fuel [4, 7, 8, 16, 17, 18, 19, 20, 21, 22, 23, 24, 25, 26, 27, 28, 29, 30] A47v4 (finish A47))) (.exit 0) (s47v2 x1 x2 x3 x4 x5 x6) =
    (some [.v (.i .i64 1)]) := by kernel_rfl

theorem e47 (fuel : Nat) (x1 : Nat) (x2 : Nat → Nat → CV) (x3 : Nat) (x4 : Nat → Nat → CV) (x5 : Int) (x6 : Int) : evalF (C54 fuel) fuel A47 [.agg [(.ro false (.pr (.int .i64) (.pr (.int .i64) .nil)) x1 x2), (.ro false (.pr (.sl (.pr (.int .i64) (.pr (.int .i64) .nil))) .nil) x3 x4)], .agg [(.i .i64 x5), (.i .i64 x6)]] = ob (F47 fuel x1 x2 x3 x4 x5 x6) fun t => some [.v (.i .i64 t)] := by
  rw [walk47, ← f47]
  simp only [D47, t47v1, g47v2, g47v3]

def O47 (fuel : Nat) : Ora where
  o := fun args {ρ} K =>
    wc args fun a1 l2 =>
    wagg a1 fun l3 =>
    wc l3 fun c4 l5 =>
    wL (.pr (.int .i64) (.pr (.int .i64) .nil)) c4 fun y6 y7 =>
    wc l5 fun c9 l10 =>
    wL (.pr (.sl (.pr (.int .i64) (.pr (.int .i64) .nil))) .nil) c9 fun y11 y12 =>
    wn l10 <|
    wc l2 fun a14 l15 =>
    wagg a14 fun l16 =>
    wc l16 fun c17 l18 =>
    wI .i64 c17 fun y19 =>
    wc l18 fun c21 l22 =>
    wI .i64 c21 fun y23 =>
    wn l22 <|
    wn l15 <|
    (ob (F47 fuel y6 y7 y11 y12 y19 y23) fun t => K [.v (.i .i64 t)])
  nat := fun args {ρ} K => by
    simp only [bind_wc, bind_wn, bind_wv, bind_wagg, bind_wI, bind_wB, bind_wS, bind_wL, bind_wP, bind_wFn, bind_ob, Option.bind_some]

theorem d47 {P : Program} (fuel : Nat) (hmix : P.follows .mixedOrders = true) (hC : Sound P (C54 fuel)) (hF : FFits P 47 A47) (args res : List A) (h : (O47 fuel).o args some = some res) : Den P 47 args res := by
  obtain ⟨a1, l2, rfl, z0⟩ := inv_wc h
  obtain ⟨l3, rfl, z1⟩ := inv_wagg z0
  obtain ⟨c4, l5, rfl, z2⟩ := inv_wc z1
  obtain ⟨y6, y7, h8, z3⟩ := inv_wL z2
  obtain ⟨c9, l10, rfl, z4⟩ := inv_wc z3
  obtain ⟨y11, y12, h13, z5⟩ := inv_wL z4
  obtain ⟨hn, z6⟩ := inv_wn z5
  cases hn
  obtain ⟨a14, l15, rfl, z7⟩ := inv_wc z6
  obtain ⟨l16, rfl, z8⟩ := inv_wagg z7
  obtain ⟨c17, l18, rfl, z9⟩ := inv_wc z8
  obtain ⟨y19, h20, z10⟩ := inv_wI z9
  obtain ⟨c21, l22, rfl, z11⟩ := inv_wc z10
  obtain ⟨y23, h24, z12⟩ := inv_wI z11
  obtain ⟨hn, z13⟩ := inv_wn z12
  cases hn
  obtain ⟨hn, z14⟩ := inv_wn z13
  cases hn
  exact Den.weaken (.cons (WkA.agg (.cons h8 (.cons h13 .nil))) (.cons (WkA.agg (.cons (Wk.i h20) (.cons (Wk.i h24) .nil))) .nil)) (evalF_sound hmix hC hF ((e47 fuel y6 y7 y11 y12 y19 y23).trans z14))

def C55 (fuel : Nat) : Oracle := (C54 fuel).add 47 (fun _ => true) (O47 fuel)

/-- shipyard/region.Where -/
def A22v1 : AC := (.seq (.region 3 [
  ⟨(some 8), .load 25 (some 2) (.tmp 2), none⟩,
  ⟨(some 9), .load 34 (some 2) (.tmp 3), none⟩,
  ⟨(some 10), .call 47 [(.tmp 8), (.tmp 9)] [25, 34] .snap, none⟩,
  ⟨(some 4), .assign (.tmp 10), none⟩] 0 none) []
  (.ret [0, 1, 2, 3, 5, 6, 7, 8, 9, 10]))
def A22 : AF := ⟨11, [.tmp 4],
  (.seq (.region 0 [
  ⟨(some 2), .box 0 25 (.tmp 0), none⟩,
  ⟨(some 3), .box 1 34 (.tmp 1), none⟩,
  ⟨(some 4), .assign (.const (.int .i64 0)), none⟩] 2 none) []
  (.seq (.seq (.region 1 [
  ⟨(some 5), .load 25 (some 2) (.tmp 2), none⟩,
  ⟨(some 6), .call 13 [(.tmp 5)] [25] .snap, none⟩,
  ⟨(some 7), .binOp .neq 27 (.tmp 6) (.const (.int .i64 0)) 27, none⟩] 0 none) []
  (.cond (.tmp 7)
  (.seq (.region 2 [
    ⟨(some 4), .assign (.const (.int .i64 (-1))), none⟩] 0 none) []
    (.ret [0, 1, 2, 3, 5, 6, 7, 8, 9, 10]))
  .skip)) [4, 5, 6, 7]
  A22v1))⟩

def D22 {ρ : Type} (fuel : Nat) (x1 : Nat) (x2 : Nat → Nat → CV) (x3 : Nat) (x4 : Nat → Nat → CV) (x5 : Int) (x6 : Int) (k : Int → Option ρ) : Option ρ :=
  (ob (F13 fuel x1 x2 x3 x4) fun x7 => (bif (x7 != 0) then (k (-1)) else (ob (F47 fuel x1 x2 x3 x4 x5 x6) fun x8 => (k x8))))

def F22 (fuel : Nat) (x1 : Nat) (x2 : Nat → Nat → CV) (x3 : Nat) (x4 : Nat → Nat → CV) (x5 : Int) (x6 : Int) : Option (Int) := D22 fuel x1 x2 x3 x4 x5 x6 some

theorem n22 {ρ σ : Type} (fuel : Nat) (x1 : Nat) (x2 : Nat → Nat → CV) (x3 : Nat) (x4 : Nat → Nat → CV) (x5 : Int) (x6 : Int) (k : (Int) → Option ρ) (g : ρ → Option σ) : ob (D22 fuel x1 x2 x3 x4 x5 x6 k) g = D22 fuel x1 x2 x3 x4 x5 x6 fun t => ob (k t) g := by
  simp only [D22, ob_bif, ob_ob, ob_none]

theorem f22 {ρ : Type} (fuel : Nat) (x1 : Nat) (x2 : Nat → Nat → CV) (x3 : Nat) (x4 : Nat → Nat → CV) (x5 : Int) (x6 : Int) (k : (Int) → Option ρ) : D22 fuel x1 x2 x3 x4 x5 x6 k = ob (F22 fuel x1 x2 x3 x4 x5 x6) k := by
  unfold F22
  rw [n22]
  simp only [ob_some]

theorem walk22 (fuel : Nat) (x1 : Nat) (x2 : Nat → Nat → CV) (x3 : Nat) (x4 : Nat → Nat → CV) (x5 : Int) (x6 : Int) :
    evalF (C55 fuel) fuel A22 [.agg [(.ro false (.pr (.int .i64) (.pr (.int .i64) .nil)) x1 x2), (.ro false (.pr (.sl (.pr (.int .i64) (.pr (.int .i64) .nil))) .nil) x3 x4)], .agg [(.i .i64 x5), (.i .i64 x6)]] =
    (ob (F13 fuel x1 x2 x3 x4) fun x7 => (bif (x7 != 0) then (some [.v (.i .i64 (-1))]) else (ob (F47 fuel x1 x2 x3 x4 x5 x6) fun x8 => (some [.v (.i .i64 x8)])))) := by kernel_rfl

theorem e22 (fuel : Nat) (x1 : Nat) (x2 : Nat → Nat → CV) (x3 : Nat) (x4 : Nat → Nat → CV) (x5 : Int) (x6 : Int) : evalF (C55 fuel) fuel A22 [.agg [(.ro false (.pr (.int .i64) (.pr (.int .i64) .nil)) x1 x2), (.ro false (.pr (.sl (.pr (.int .i64) (.pr (.int .i64) .nil))) .nil) x3 x4)], .agg [(.i .i64 x5), (.i .i64 x6)]] = ob (F22 fuel x1 x2 x3 x4 x5 x6) fun t => some [.v (.i .i64 t)] := by
  rw [walk22, ← f22]
  simp only [D22]

def O22 (fuel : Nat) : Ora where
  o := fun args {ρ} K =>
    wc args fun a1 l2 =>
    wagg a1 fun l3 =>
    wc l3 fun c4 l5 =>
    wL (.pr (.int .i64) (.pr (.int .i64) .nil)) c4 fun y6 y7 =>
    wc l5 fun c9 l10 =>
    wL (.pr (.sl (.pr (.int .i64) (.pr (.int .i64) .nil))) .nil) c9 fun y11 y12 =>
    wn l10 <|
    wc l2 fun a14 l15 =>
    wagg a14 fun l16 =>
    wc l16 fun c17 l18 =>
    wI .i64 c17 fun y19 =>
    wc l18 fun c21 l22 =>
    wI .i64 c21 fun y23 =>
    wn l22 <|
    wn l15 <|
    (ob (F22 fuel y6 y7 y11 y12 y19 y23) fun t => K [.v (.i .i64 t)])
  nat := fun args {ρ} K => by
    simp only [bind_wc, bind_wn, bind_wv, bind_wagg, bind_wI, bind_wB, bind_wS, bind_wL, bind_wP, bind_wFn, bind_ob, Option.bind_some]

theorem d22 {P : Program} (fuel : Nat) (hmix : P.follows .mixedOrders = true) (hC : Sound P (C55 fuel)) (hF : FFits P 22 A22) (args res : List A) (h : (O22 fuel).o args some = some res) : Den P 22 args res := by
  obtain ⟨a1, l2, rfl, z0⟩ := inv_wc h
  obtain ⟨l3, rfl, z1⟩ := inv_wagg z0
  obtain ⟨c4, l5, rfl, z2⟩ := inv_wc z1
  obtain ⟨y6, y7, h8, z3⟩ := inv_wL z2
  obtain ⟨c9, l10, rfl, z4⟩ := inv_wc z3
  obtain ⟨y11, y12, h13, z5⟩ := inv_wL z4
  obtain ⟨hn, z6⟩ := inv_wn z5
  cases hn
  obtain ⟨a14, l15, rfl, z7⟩ := inv_wc z6
  obtain ⟨l16, rfl, z8⟩ := inv_wagg z7
  obtain ⟨c17, l18, rfl, z9⟩ := inv_wc z8
  obtain ⟨y19, h20, z10⟩ := inv_wI z9
  obtain ⟨c21, l22, rfl, z11⟩ := inv_wc z10
  obtain ⟨y23, h24, z12⟩ := inv_wI z11
  obtain ⟨hn, z13⟩ := inv_wn z12
  cases hn
  obtain ⟨hn, z14⟩ := inv_wn z13
  cases hn
  exact Den.weaken (.cons (WkA.agg (.cons h8 (.cons h13 .nil))) (.cons (WkA.agg (.cons (Wk.i h20) (.cons (Wk.i h24) .nil))) .nil)) (evalF_sound hmix hC hF ((e22 fuel y6 y7 y11 y12 y19 y23).trans z14))

def C56 (fuel : Nat) : Oracle := (C55 fuel).add 22 (fun _ => true) (O22 fuel)

/-- shipyard/num.Root -/
def A85v1 : AC := (.region 10 [
  ⟨(some 22), .binOp .add 3 (.tmp 8) (.const (.int .i64 1)) 3, none⟩,
  ⟨(some 8), .move (.tmp 22), none⟩] 0 none)
def A85v2 : AC := (.seq (.block 1
  (.seq (.region 6 [
    ⟨(some 10), .move (.tmp 8), none⟩,
    ⟨(some 4), .assign (.tmp 10), none⟩] 0 none) []
    (.seq (.region 7 [
    ⟨(some 11), .move (.tmp 3), none⟩,
    ⟨(some 12), .move (.tmp 4), none⟩,
    ⟨(some 13), .binOp .sub 3 (.const (.int .i64 31)) (.tmp 12) 3, none⟩,
    ⟨(some 14), .binOp .shl 3 (.const (.int .i64 1)) (.tmp 13) 3, none⟩,
    ⟨(some 15), .binOp .or 3 (.tmp 11) (.tmp 14) 3, none⟩,
    ⟨(some 5), .assign (.tmp 15), none⟩] 0 none) []
    (.seq (.region 8 [
    ⟨(some 16), .move (.tmp 5), none⟩,
    ⟨(some 17), .move (.tmp 0), none⟩,
    ⟨(some 18), .move (.tmp 5), none⟩,
    ⟨(some 19), .binOp .quo 3 (.tmp 17) (.tmp 18) 3, none⟩,
    ⟨(some 20), .binOp .leq 3 (.tmp 16) (.tmp 19) 3, none⟩] 0 none) []
    (.cond (.tmp 20)
    (.region 9 [
      ⟨(some 21), .move (.tmp 5), none⟩,
      ⟨(some 3), .assign (.tmp 21), none⟩] 0 none)
    .skip))))) [4, 5, 10, 11, 12, 13, 14, 15, 16, 17, 18, 19, 20, 21]
  A85v1)
def A85v3 : AC := (.seq (.region 5 [
  ⟨(some 9), .binOp .lss 3 (.tmp 8) (.const (.int .i64 32)) 3, none⟩] 0 none) []
  (.seq (.cond (.tmp 9)
  .skip
  (.exit 0 [0, 1, 2, 4, 5, 6, 7, 8, 9, 10, 11, 12, 13, 14, 15, 16, 17, 18, 19, 20, 21, 22, 23])) []
  A85v2))
def A85v4 : AC := (.seq (.region 11 [
  ⟨(some 23), .move (.tmp 3), none⟩,
  ⟨(some 2), .assign (.tmp 23), none⟩] 0 none) []
  (.ret [0, 1, 3, 4, 5, 6, 7, 8, 9, 10, 11, 12, 13, 14, 15, 16, 17, 18, 19, 20, 21, 22, 23]))
def A85v5 : AC := (.seq (.region 3 [
  ⟨(some 3), .assign (.const (.int .i64 0)), none⟩] 0 none) []
  (.seq (.seq (.region 4 [
  ⟨(some 8), .move (.const (.int .i64 0)), none⟩] 0 none) []
  (.block 0
  (.loop [] [1, 2, 4, 5, 6, 7, 9, 10, 11, 12, 13, 14, 15, 16, 17, 18, 19, 20, 21, 22, 23]
    A85v3))) [4, 5, 8, 9, 10, 11, 12, 13, 14, 15, 16, 17, 18, 19, 20, 21, 22]
  A85v4))
def A85 : AF := ⟨24, [.tmp 2],
  (.seq (.region 0 [
  ⟨(some 2), .assign (.const (.int .i64 0)), none⟩] 0 none) []
  (.seq (.seq (.region 1 [
  ⟨(some 6), .move (.tmp 0), none⟩,
  ⟨(some 7), .binOp .lss 3 (.tmp 6) (.const (.int .i64 0)) 3, none⟩] 0 none) []
  (.cond (.tmp 7)
  (.seq (.region 2 [
    ⟨(some 2), .assign (.const (.int .i64 0)), none⟩] 0 none) []
    (.ret [0, 1, 3, 4, 5, 6, 7, 8, 9, 10, 11, 12, 13, 14, 15, 16, 17, 18, 19, 20, 21, 22, 23]))
  .skip)) [2, 6, 7]
  A85v5))⟩

def B85v1 (C : Oracle) (fuel : Nat) {ρ : Type} : St → (Ex → St → Option ρ) → Option ρ := fun st k => evalC C fuel A85v3 st k
def N85v1 : St → Option St := fun s => s.norm [1, 2, 4, 5, 6, 7, 9, 10, 11, 12, 13, 14, 15, 16, 17, 18, 19, 20, 21, 22, 23] 0

def s85v0 (x3 : Int) (x4 : Int) (x5 : Int) : St := ⟨[.x (.c (.i .i64 x3)), .u, .u, .x (.c (.i .i64 x4)), .u, .u, .u, .u, .x (.c (.i .i64 x5)), .u, .u, .u, .u, .u, .u, .u, .u, .u, .u, .u, .u, .u, .u, .u],
    []⟩

def s85v1 (x6 : Int) : St := ⟨[.u, .u, .u, .x (.c (.i .i64 x6)), .u, .u, .u, .u, .u, .u, .u, .u, .u, .u, .u, .u, .u, .u, .u, .u, .u, .u, .u, .u],
    []⟩

def L85v1 {ρ : Type} (fuel : Nat) (x3 : Int) : Nat → Int → Int → (Int → Option ρ) → Option ρ
  | 0, _, _, _ => none
  | m + 1, x4, x5, k0 =>
    (bif (decide (x5 < 32)) then (bif (decide (0 ≤ (w64 (31 - x5))) && decide ((w64 (31 - x5)) ≤ 64)) then (bif ((bits .or .i64 x4 (w64 (1 * 2 ^ (Int.toNat (w64 (31 - x5)))))) == 0) then none else (bif (decide ((bits .or .i64 x4 (w64 (1 * 2 ^ (Int.toNat (w64 (31 - x5)))))) ≤ (w64 (Int.tdiv x3 (bits .or .i64 x4 (w64 (1 * 2 ^ (Int.toNat (w64 (31 - x5)))))))))) then (L85v1 fuel x3 m (bits .or .i64 x4 (w64 (1 * 2 ^ (Int.toNat (w64 (31 - x5)))))) (w64 (x5 + 1)) k0) else (L85v1 fuel x3 m x4 (w64 (x5 + 1)) k0))) else none) else (k0 x4))

theorem nl85v1 {ρ σ : Type} (fuel : Nat) (x3 : Int) (g : ρ → Option σ) : ∀ (m : Nat) (x4 : Int) (x5 : Int) (k0 : Int → Option ρ), ob (L85v1 fuel x3 m x4 x5 k0) g = L85v1 fuel x3 m x4 x5 (fun x6 => ob (k0 x6) g)
  | 0, _, _, _ => rfl
  | m + 1, x4, x5, k0 => by
    simp only [L85v1, ob_bif, ob_ob, ob_none, nl85v1 fuel x3 g m]

theorem r85v1 (fuel : Nat) (m : Nat) {ρ : Type} (k : Ex → St → Option ρ) (x3 : Int) (x4 : Int) (x5 : Int) :
    loopH (B85v1 (C56 fuel) fuel) N85v1 (m + 1) (s85v0 x3 x4 x5) k =
    (bif (decide (x5 < 32)) then (bif (decide (0 ≤ (w64 (31 - x5))) && decide ((w64 (31 - x5)) ≤ 64)) then (bif ((bits .or .i64 x4 (w64 (1 * 2 ^ (Int.toNat (w64 (31 - x5)))))) == 0) then none else (bif (decide ((bits .or .i64 x4 (w64 (1 * 2 ^ (Int.toNat (w64 (31 - x5)))))) ≤ (w64 (Int.tdiv x3 (bits .or .i64 x4 (w64 (1 * 2 ^ (Int.toNat (w64 (31 - x5)))))))))) then (loopH (B85v1 (C56 fuel) fuel) N85v1 m (s85v0 x3 (bits .or .i64 x4 (w64 (1 * 2 ^ (Int.toNat (w64 (31 - x5)))))) (w64 (x5 + 1))) k) else (loopH (B85v1 (C56 fuel) fuel) N85v1 m (s85v0 x3 x4 (w64 (x5 + 1))) k))) else none) else (k (.exit 0) (s85v1 x4))) := by kernel_rfl

theorem q85v1 (fuel : Nat) (x3 : Int) {ρ : Type} (k : Ex → St → Option ρ) : ∀ (m : Nat) (x4 : Int) (x5 : Int),
    loopH (B85v1 (C56 fuel) fuel) N85v1 m (s85v0 x3 x4 x5) k = L85v1 fuel x3 m x4 x5 (fun x6 => k (.exit 0) (s85v1 x6))
  | 0, _, _ => rfl
  | m + 1, x4, x5 => by
    rw [r85v1]
    simp only [L85v1, q85v1 fuel x3 k m]

def D85 {ρ : Type} (fuel : Nat) (x1 : Int) (k : Int → Option ρ) : Option ρ :=
  (bif (decide (x1 < 0)) then (k 0) else (L85v1 fuel x1 fuel 0 0
    (fun x7 => (k x7))))

def F85 (fuel : Nat) (x1 : Int) : Option (Int) := D85 fuel x1 some

theorem n85 {ρ σ : Type} (fuel : Nat) (x1 : Int) (k : (Int) → Option ρ) (g : ρ → Option σ) : ob (D85 fuel x1 k) g = D85 fuel x1 fun t => ob (k t) g := by
  simp only [D85, ob_bif, ob_ob, ob_none, nl85v1]

theorem f85 {ρ : Type} (fuel : Nat) (x1 : Int) (k : (Int) → Option ρ) : D85 fuel x1 k = ob (F85 fuel x1) k := by
  unfold F85
  rw [n85]
  simp only [ob_some]

def s85v2 (x1 : Int) : St := ⟨[.x (.c (.i .i64 x1)), .undef, .u, .x (.c (.i .i64 0)), .undef, .undef, .u, .u, .x (.c (.i .i64 0)), .undef, .undef, .undef, .undef, .undef, .undef, .undef, .undef, .undef, .undef, .undef, .undef, .undef, .undef, .undef],
    []⟩

theorem walk85 (fuel : Nat) (x1 : Int) :
    evalF (C56 fuel) fuel A85 [.v (.i .i64 x1)] =
    (bif (decide (x1 < 0)) then (some [.v (.i .i64 0)]) else (loopN (B85v1 (C56 fuel) fuel) N85v1 fuel (s85v2 x1) (kBlk 0 (kSeq (C56 fuel) fuel [4, 5, 8, 9, 10, 11, 12, 13, 14, 15, 16, 17, 18, 19, 20, 21, 22] A85v4 (finish A85))))) := by kernel_rfl

theorem t85v1 (fuel : Nat) {ρ : Type} (k : Ex → St → Option ρ) (x1 : Int) :
    loopN (B85v1 (C56 fuel) fuel) N85v1 fuel (s85v2 x1) k =
    L85v1 fuel x1 fuel 0 0 (fun x6 => k (.exit 0) (s85v1 x6)) :=
  (loopN_at (st' := (s85v0 x1 0 0)) (by kernel_rfl)).trans (q85v1 fuel x1 k fuel 0 0)

theorem g85v2 (fuel : Nat) (x7 : Int) :
    (kBlk 0 (kSeq (C56 fuel) fuel [4, 5, 8, 9, 10, 11, 12, 13, 14, 15, 16, 17, 18, 19, 20, 21, 22] A85v4 (finish A85))) (.exit 0) (s85v1 x7) =
    (some [.v (.i .i64 x7)]) := by kernel_rfl

theorem e85 (fuel : Nat) (x1 : Int) : evalF (C56 fuel) fuel A85 [.v (.i .i64 x1)] = ob (F85 fuel x1) fun t => some [.v (.i .i64 t)] := by
  rw [walk85, ← f85]
  simp only [D85, t85v1, g85v2]

def O85 (fuel : Nat) : Ora where
  o := fun args {ρ} K =>
    wc args fun a1 l2 =>
    wv a1 fun c3 =>
    wI .i64 c3 fun y4 =>
    wn l2 <|
    (ob (F85 fuel y4) fun t => K [.v (.i .i64 t)])
  nat := fun args {ρ} K => by
    simp only [bind_wc, bind_wn, bind_wv, bind_wagg, bind_wI, bind_wB, bind_wS, bind_wL, bind_wP, bind_wFn, bind_ob, Option.bind_some]

theorem d85 {P : Program} (fuel : Nat) (hmix : P.follows .mixedOrders = true) (hC : Sound P (C56 fuel)) (hF : FFits P 85 A85) (args res : List A) (h : (O85 fuel).o args some = some res) : Den P 85 args res := by
  obtain ⟨a1, l2, rfl, z0⟩ := inv_wc h
  obtain ⟨c3, rfl, z1⟩ := inv_wv z0
  obtain ⟨y4, h5, z2⟩ := inv_wI z1
  obtain ⟨hn, z3⟩ := inv_wn z2
  cases hn
  exact Den.weaken (.cons (WkA.v (Wk.i h5)) .nil) (evalF_sound hmix hC hF ((e85 fuel y4).trans z3))

def C57 (fuel : Nat) : Oracle := (C56 fuel).add 85 (fun _ => true) (O85 fuel)

/-- shipyard/region.root -/
def A77v1 : AC := (.seq (.region 4 [
  ⟨(some 13), .move (.tmp 3), none⟩,
  ⟨(some 2), .assign (.tmp 13), none⟩] 0 none) []
  (.ret [0, 1, 3, 4, 5, 6, 7, 8, 9, 10, 11, 12, 13]))
def A77 : AF := ⟨14, [.tmp 2],
  (.seq (.region 0 [
  ⟨(some 2), .assign (.const (.int .i64 0)), none⟩] 0 none) []
  (.seq (.region 1 [
  ⟨(some 4), .move (.tmp 0), none⟩,
  ⟨(some 5), .call 85 [(.tmp 4)] [3] .snap, none⟩,
  ⟨(some 3), .assign (.tmp 5), none⟩] 0 none) []
  (.seq (.seq (.region 2 [
  ⟨(some 6), .move (.tmp 3), none⟩,
  ⟨(some 7), .move (.tmp 3), none⟩,
  ⟨(some 8), .binOp .mul 3 (.tmp 6) (.tmp 7) 3, none⟩,
  ⟨(some 9), .move (.tmp 0), none⟩,
  ⟨(some 10), .binOp .lss 3 (.tmp 8) (.tmp 9) 3, none⟩] 0 none) []
  (.cond (.tmp 10)
  (.region 3 [
    ⟨(some 11), .move (.tmp 3), none⟩,
    ⟨(some 12), .binOp .add 3 (.tmp 11) (.const (.int .i64 1)) 3, none⟩,
    ⟨(some 3), .assign (.tmp 12), none⟩] 0 none)
  .skip)) [6, 7, 8, 9, 10, 11, 12]
  A77v1)))⟩

def D77 {ρ : Type} (fuel : Nat) (x1 : Int) (k : Int → Option ρ) : Option ρ :=
  (ob (F85 fuel x1) fun x2 => (bif (decide ((w64 (x2 * x2)) < x1)) then (k (w64 (x2 + 1))) else (k x2)))

def F77 (fuel : Nat) (x1 : Int) : Option (Int) := D77 fuel x1 some

theorem n77 {ρ σ : Type} (fuel : Nat) (x1 : Int) (k : (Int) → Option ρ) (g : ρ → Option σ) : ob (D77 fuel x1 k) g = D77 fuel x1 fun t => ob (k t) g := by
  simp only [D77, ob_bif, ob_ob, ob_none]

theorem f77 {ρ : Type} (fuel : Nat) (x1 : Int) (k : (Int) → Option ρ) : D77 fuel x1 k = ob (F77 fuel x1) k := by
  unfold F77
  rw [n77]
  simp only [ob_some]

theorem walk77 (fuel : Nat) (x1 : Int) :
    evalF (C57 fuel) fuel A77 [.v (.i .i64 x1)] =
    (ob (F85 fuel x1) fun x2 => (bif (decide ((w64 (x2 * x2)) < x1)) then (some [.v (.i .i64 (w64 (x2 + 1)))]) else (some [.v (.i .i64 x2)]))) := by kernel_rfl

theorem e77 (fuel : Nat) (x1 : Int) : evalF (C57 fuel) fuel A77 [.v (.i .i64 x1)] = ob (F77 fuel x1) fun t => some [.v (.i .i64 t)] := by
  rw [walk77, ← f77]
  simp only [D77]

def O77 (fuel : Nat) : Ora where
  o := fun args {ρ} K =>
    wc args fun a1 l2 =>
    wv a1 fun c3 =>
    wI .i64 c3 fun y4 =>
    wn l2 <|
    (ob (F77 fuel y4) fun t => K [.v (.i .i64 t)])
  nat := fun args {ρ} K => by
    simp only [bind_wc, bind_wn, bind_wv, bind_wagg, bind_wI, bind_wB, bind_wS, bind_wL, bind_wP, bind_wFn, bind_ob, Option.bind_some]

theorem d77 {P : Program} (fuel : Nat) (hmix : P.follows .mixedOrders = true) (hC : Sound P (C57 fuel)) (hF : FFits P 77 A77) (args res : List A) (h : (O77 fuel).o args some = some res) : Den P 77 args res := by
  obtain ⟨a1, l2, rfl, z0⟩ := inv_wc h
  obtain ⟨c3, rfl, z1⟩ := inv_wv z0
  obtain ⟨y4, h5, z2⟩ := inv_wI z1
  obtain ⟨hn, z3⟩ := inv_wn z2
  cases hn
  exact Den.weaken (.cons (WkA.v (Wk.i h5)) .nil) (evalF_sound hmix hC hF ((e77 fuel y4).trans z3))

def C58 (fuel : Nat) : Oracle := (C57 fuel).add 77 (fun _ => true) (O77 fuel)

end Go.Eng.R13
