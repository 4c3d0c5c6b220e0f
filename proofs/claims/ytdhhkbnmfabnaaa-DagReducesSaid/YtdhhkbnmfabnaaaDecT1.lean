/-
 The functions of the program,run on symbols; printed by decomp.py.
-/
import Derived.Test.YtdhhkbnmfabnaaaDecT0
set_option linter.all false
set_option maxRecDepth 1000000
set_option maxHeartbeats 4000000
namespace Go.Eng.R13
open Go Go.RowKit Go.Eng
variable {ρ σ : Type} (u m : Nat) (k : Ex → St → Option ρ) (ng : ρ → Option σ) (n0 n1 n2 n3 : Nat) (f0 f1 f2 f3 f4 : FF) (i0 i1 i2 i3 i4 i5 i6 i7 : Int) (b0 : Bool) (u0 : Nat → Nat)
def A25v1 : AC := (.seq (.block 1
 (.seq (.region 10 [mv 41 9,mv 42 11,mv 43 0,o1 44 (.makeSlice 0 42 4 (.pr .bool .nil) 1 [(.b false)] (tm 43) (tm 43)),o1 45 (.indexAddr 46 42 1 (tm 41) (tm 42)),o0 (.storeRow 42 (tm 45) (tm 44))] 1 none) []
  (.region 11 [mv 46 10,mv 47 11,mv 48 0,o1 49 (.makeSlice 0 42 4 (.pr .bool .nil) 1 [(.b false)] (tm 48) (tm 48)),o1 50 (.indexAddr 46 42 1 (tm 46) (tm 47)),o0 (.storeRow 42 (tm 50) (tm 49))] 1 none))) []
 (.region 9 [mv 39 11,o1 40 (bk .add 3 39 1),o1 11 (sg 40)] 0 none))
def A25v2 : AC := (.seq (.seq (.region 8 [mv 36 11,mv 37 0,o1 38 (bt .lss 3 36 37)] 0 none) []
 (.cond (tm 38)
 .skip
 (.exit 0 (rl 2 6 (rl 11 123 []))))) [36,37,38]
 A25v1)
def A25v3 : AC := (.seq (.block 5
 (.region 20 [mv 78 10,mv 79 13,o1 80 (.indexAddr 46 42 1 (tm 78) (tm 79)),o1 81 (lo 42 80),mv 82 15,mv 83 10,mv 84 13,o1 85 (.indexAddr 46 42 1 (tm 83) (tm 84)),o1 86 (lo 42 85),mv 87 15,o1 88 (.indexAddr 42 4 1 (tm 86) (tm 87)),o1 89 (lo 4 88),mv 90 89,og 91 (.move (tm 8)) 90 false,og 92 (.move (tm 14)) 90 false,og 93 (.indexAddr 46 42 1 (tm 91) (tm 92)) 90 false,og 94 (lo 42 93) 90 false,og 95 (.move (tm 15)) 90 false,og 96 (.indexAddr 42 4 1 (tm 94) (tm 95)) 90 false,og 97 (lo 4 96) 90 false,o1 98 (pa 90 97),o1 99 (.indexAddr 42 4 1 (tm 81) (tm 82)),o0 (.store 4 1 (tm 99) (tm 98))] 0 (some [[],[],[0,1],[0,1,2],[],[],[],[5,6],[5,6,7],[],(rl 5 5 []),(rl 5 6 []),(rl 5 7 []),(rl 5 8 []),(rl 5 8 []),(rl 5 10 []),(rl 5 11 []),(rl 5 8 []),(rl 5 13 []),(rl 5 14 []),(rl 5 15 []),(rl 0 21 []),(rl 0 22 [])]))) []
 (.region 19 [mv 76 15,o1 77 (bk .add 3 76 1),o1 15 (sg 77)] 0 none))
def A25v4 : AC := (.seq (.seq (.region 18 [mv 73 15,mv 74 0,o1 75 (bt .lss 3 73 74)] 0 none) []
 (.cond (tm 75)
 .skip
 (.exit 4 (rl 2 6 (11 :: (rl 13 121 [])))))) [73,74,75]
 A25v3)
def A25v5 : AC := (.region 14 [mv 55 12,o1 56 (bk .add 3 55 1),o1 12 (sg 56)] 0 none)
def A25v6 : AC := (.seq (.block 3
 (.seq (.region 15 [mv 57 1,mv 58 12,o1 59 (.indexAddr 22 31 2 (tm 57) (tm 58)),o1 60 (.indexAddrA 31 3 2 1 (tm 59) (ic 0)),o1 61 (lo 3 60),mv 62 1,mv 63 12,o1 64 (.indexAddr 22 31 2 (tm 62) (tm 63)),o1 65 (.indexAddrA 31 3 2 1 (tm 64) (ic 1)),o1 66 (lo 3 65),o1 13 (sg 61),o1 14 (sg 66)] 0 (some [[],[],[0,1],[0,1,2],(rl 0 4 []),[],[],[5,6],[5,6,7],(rl 5 4 []),(rl 0 5 []),(rl 0 11 [])])) []
  (.seq (.region 16 [mv 67 9,mv 68 13,o1 69 (.indexAddr 46 42 1 (tm 67) (tm 68)),o1 70 (lo 42 69),mv 71 14,o1 72 (.indexAddr 42 4 1 (tm 70) (tm 71)),o0 (.store 4 1 (tm 72) (.const (.bool true)))] 0 none) []
  (.seq (.region 17 [o1 15 (sk 0)] 0 none) []
  (.block 4
  (.loop [] (rl 2 6 (11 :: (rl 16 118 [])))
   A25v4)))))) (13 :: 14 :: 15 :: (rl 57 43 []))
 A25v5)
def A25v7 : AC := (.seq (.seq (.region 13 [mv 51 12,mv 52 1,o1 53 (.len 22 false (tm 52)),o1 54 (bt .lss 3 51 53)] 0 none) []
 (.cond (tm 54)
 .skip
 (.exit 2 (rl 1 8 (rl 11 123 []))))) (rl 51 4 [])
 A25v6)
def A25v8 : AC := (.region 27 [mv 108 18,o1 109 (bk .add 3 108 1),o1 18 (sg 109)] 0 none)
def A25v9 : AC := (.seq (.block 9
 (.seq (.region 28 [mv 110 9,mv 111 17,o1 112 (.indexAddr 46 42 1 (tm 110) (tm 111)),o1 113 (lo 42 112),mv 114 18,o1 115 (.indexAddr 42 4 1 (tm 113) (tm 114)),o1 116 (lo 4 115),mv 117 116,og 118 (.move (tm 10)) 117 true,og 119 (.move (tm 17)) 117 true,og 120 (.indexAddr 46 42 1 (tm 118) (tm 119)) 117 true,og 121 (lo 42 120) 117 true,og 122 (.move (tm 18)) 117 true,og 123 (.indexAddr 42 4 1 (tm 121) (tm 122)) 117 true,og 124 (lo 4 123) 117 true,og 125 (.unOp .not 4 (tm 124)) 117 true,o1 126 (po 117 125)] 0 none) []
  (.cond (tm 126)
  (.region 29 [mv 127 16,mv 128 17,mv 129 18,o1 130 (.build 31 [vci 0,vci 0] [] 1 [(0,(tm 128)),(1,(tm 129))]),o1 131 (.buildSlice 0 22 31 kP 1 [vci 0,vci 0] [(0,(tm 130))]),o1 132 (.append 1 22 31 kP 16 (tm 127) (tm 131)),o1 16 (sg 132)] 2 none)
  .skip))) (rl 110 23 [])
 A25v8)
def A25v10 : AC := (.seq (.seq (.region 26 [mv 105 18,mv 106 0,o1 107 (bt .lss 3 105 106)] 0 none) []
 (.cond (tm 107)
 .skip
 (.exit 8 (rl 1 8 (rl 11 5 (rl 18 116 [])))))) [105,106,107]
 A25v9)
def A25v11 : AC := (.region 24 [mv 103 17,o1 104 (bk .add 3 103 1),o1 17 (sg 104)] 0 none)
def A25v12 : AC := (.seq (.block 7
 (.seq (.region 25 [o1 18 (sk 0)] 0 none) []
  (.block 8
  (.loop [.slot 16 kP] (rl 1 8 (rl 11 5 (rl 19 115 [])))
   A25v10)))) (18 :: (rl 105 28 []))
 A25v11)
def A25v13 : AC := (.seq (.seq (.region 23 [mv 100 17,mv 101 0,o1 102 (bt .lss 3 100 101)] 0 none) []
 (.cond (tm 102)
 .skip
 (.exit 6 (rl 0 16 (rl 17 117 []))))) [100,101,102]
 A25v12)
def A25v14 : AC := (.seq (.region 30 [mv 133 16,o1 4 (sg 133),o1 5 (sk 0)] 0 none) []
 (.ret (rl 0 4 (rl 6 128 []))))
def A25v15 : AC := (.seq (.region 21 [o1 16 (.assign (.const (.slice none 0 0)))] 0 none) []
 (.seq (.seq (.region 22 [o1 17 (sk 0)] 0 none) []
 (.block 6
 (.loop [.slot 16 kP] (rl 1 8 (rl 11 5 (rl 18 116 [])))
  A25v13))) (17 :: 18 :: (rl 100 33 []))
 A25v14))
def A25v16 : AC := (.seq (.seq (.region 12 [o1 12 (sk 0)] 0 none) []
 (.block 2
 (.loop [] (rl 2 6 (11 :: (rl 13 121 [])))
  A25v7))) (rl 12 4 (rl 51 49 []))
 A25v15)
def A25v17 : AC := (.seq (.region 4 [mv 28 0,mv 29 1,mv 30 6,o1 31 (cf 30 [28,29,30] [3,22,25]),o1 8 (sg 31)] 0 none) []
 (.seq (.region 5 [mv 32 0,o1 33 (.makeMat 0 46 42 .bool 24 (tm 32) (tm 32)),o1 9 (sg 33)] 1 none) []
 (.seq (.region 6 [mv 34 0,o1 35 (.makeMat 0 46 42 .bool 24 (tm 34) (tm 34)),o1 10 (sg 35)] 1 none) []
 (.seq (.seq (.region 7 [o1 11 (sk 0)] 0 none) []
 (.block 0
 (.loop [] (rl 2 6 (rl 12 122 []))
  A25v2))) (11 :: (rl 36 15 []))
 A25v16))))
def A25 : AF := ⟨134,[.tmp 4,.tmp 5],
 (.seq (.region 0 [o1 4 (.assign (.const (.slice none 0 0))),o1 5 (sk 0)] 0 none) []
 (.seq (.region 1 [mv 20 0,mv 21 1,o1 22 (cf 14 [20,21] [3,22]),mv 19 22,o1 23 (.extract (tm 19) 0),o1 24 (.extract (tm 19) 1),o1 6 (sg 23),o1 7 (sg 24)] 0 none) []
 (.seq (.seq (.region 2 [mv 25 7,o1 26 (bk .neq 26 25 0)] 0 none) []
 (.cond (tm 26)
 (.seq (.region 3 [mv 27 7,o1 4 (.assign (.const (.slice none 0 0))),o1 5 (sg 27)] 0 none) []
  (.ret (rl 0 4 (rl 6 128 []))))
 .skip)) [4,5,25,26,27]
 A25v17)))⟩
def N298v1 : St → Option St := nN 2 (rl 2 6 (rl 12 122 []))
def s298v0 : St := ⟨(vxi i0 :: .x (.c (ro kP n0 f0)) :: (us 6 (.x (.c (ro kB n1 f1)) :: .x (.own 0 0 n2) :: .x (.own 1 0 n2) :: vxi i1 :: (us 122 [])))),[.mat .bool n2 u0 f2,.mat .bool n2 u0 f2]⟩
def s298v1 : St := ⟨(vxi i0 :: .x (.c (ro kP n0 f0)) :: (us 6 (.x (.c (ro kB n1 f1)) :: .x (.own 0 0 n2) :: .x (.own 1 0 n2) :: (us 123 [])))),[.mat .bool n2 u0 f2,.mat .bool n2 u0 f2]⟩
def L298v1 {ρ : Type} (u : Nat) (x0 : Int) (x1 : Nat) (x2 : FF) (x3 : Nat) (x4 : FF) (x5 : Nat) : Nat → Int → (Nat → Nat) → FF → ((Nat → Nat) → FF → Option ρ) → Option ρ
 | 0,_,_,_,_ => none
 | m + 1,x6,x7,x8,k0 =>
  (bif (decide (x6 < x0)) then (bif (decide (0 ≤ x0) && decide (x0 ≤ x0) && decide (x0 ≤ 1073741824) && true) then (bif (inb x6 x5) then (bif (Nat.beq x0.toNat x0.toNat && Nat.blt x6.toNat x5) then (bif (decide (0 ≤ x0) && decide (x0 ≤ x0) && decide (x0 ≤ 1073741824) && true) then (bif (inb x6 x5) then (bif (Nat.beq x0.toNat x0.toNat && Nat.blt x6.toNat x5) then (L298v1 u x0 x1 x2 x3 x4 x5 m (w64 (x6 + 1)) (updN x7 x6.toNat x0.toNat) (updM x8 x6.toNat (fun _ j => listF [(.b false)] j)) k0) else none) else none) else none) else none) else none) else none) else (k0 x7 x8))
theorem nl298v1 : ∀ (m : Nat) (x0 : Int) (x1 : Nat → Nat) (x2 : FF) (k0 : (Nat → Nat) → FF → Option ρ),ob (L298v1 u i0 n0 f0 n1 f1 n2 m x0 x1 x2 k0) ng = L298v1 u i0 n0 f0 n1 f1 n2 m x0 x1 x2 (fun x3 x4 => ob (k0 x3 x4) ng)
 | 0,_,_,_,_ => rfl
 | m + 1,x0,x1,x2,k0 => by
  simp only [L298v1,ob_bif,ob_ob,ob_none,nl298v1 m]
theorem r298v1 :
  loopH (eB A25v2 (C21 u) u) N298v1 (m + 1) (s298v0 n0 n1 n2 f0 f1 f2 i0 i1 u0) k =
  (bif (decide (i1 < i0)) then (bif (decide (0 ≤ i0) && decide (i0 ≤ i0) && decide (i0 ≤ 1073741824) && true) then (bif (inb i1 n2) then (bif (Nat.beq i0.toNat i0.toNat && Nat.blt i1.toNat n2) then (bif (decide (0 ≤ i0) && decide (i0 ≤ i0) && decide (i0 ≤ 1073741824) && true) then (bif (inb i1 n2) then (bif (Nat.beq i0.toNat i0.toNat && Nat.blt i1.toNat n2) then (loopH (eB A25v2 (C21 u) u) N298v1 m (s298v0 n0 n1 n2 f0 f1 (updM f2 i1.toNat (fun _ j => listF [(.b false)] j)) i0 (w64 (i1 + 1)) (updN u0 i1.toNat i0.toNat)) k) else none) else none) else none) else none) else none) else none) else (k (.exit 0) (s298v1 n0 n1 n2 f0 f1 f2 i0 u0))) := by kernel_rfl
theorem q298v1 : ∀ (m : Nat) (x0 : Int) (x1 : Nat → Nat) (x2 : FF),
  loopH (eB A25v2 (C21 u) u) N298v1 m (s298v0 n0 n1 n2 f0 f1 x2 i0 x0 x1) k = L298v1 u i0 n0 f0 n1 f1 n2 m x0 x1 x2 (fun x3 x4 => k (.exit 0) (s298v1 n0 n1 n2 f0 f1 x4 i0 x3))
 | 0,_,_,_ => rfl
 | m + 1,x0,x1,x2 => by
  rw [r298v1]
  simp only [L298v1,q298v1 m]
def N298v3 : St → Option St := nN 2 (rl 2 6 (11 :: (rl 16 118 [])))
def s298v2 : St := ⟨(vxi i0 :: .x (.c (ro kP n0 f0)) :: (us 6 (.x (.c (ro kB n1 f1)) :: .x (.own 0 0 n2) :: .x (.own 1 0 n2) :: .u :: vxi i1 :: vxi i2 :: vxi i3 :: vxi i4 :: (us 118 [])))),[.mat .bool n2 u0 f2,.mat .bool n2 u0 f3]⟩
def s298v3 : St := ⟨(vxi i0 :: .x (.c (ro kP n0 f0)) :: (us 6 (.x (.c (ro kB n1 f1)) :: .x (.own 0 0 n2) :: .x (.own 1 0 n2) :: .u :: vxi i1 :: (us 121 [])))),[.mat .bool n2 u0 f2,.mat .bool n2 u0 f3]⟩
def L298v3 {ρ : Type} (u : Nat) (x0 : Int) (x1 : Nat) (x2 : FF) (x3 : Nat) (x4 : FF) (x5 : Nat) (x6 x7 x8 : Int) (x9 : Nat → Nat) (xA : FF) : Nat → Int → FF → (FF → Option ρ) → Option ρ
 | 0,_,_,_ => none
 | m + 1,xB,xC,k0 =>
  (bif (decide (xB < x0)) then (bif (inb x7 x5) then (bif (Nat.blt x7.toNat x5 && true) then (bif (inb x7 x5) then (bif (Nat.blt x7.toNat x5 && true) then (bif (inb xB (x9 x7.toNat)) then (bif ((xC x7.toNat xB.toNat).bool == false) then (bif (inb x8 x3) then (bif (inb xB (x4 x8.toNat 0).len) then (bif (inb xB (x9 x7.toNat)) then (L298v3 u x0 x1 x2 x3 x4 x5 x6 x7 x8 x9 xA m (w64 (xB + 1)) (setM xC x7.toNat xB.toNat (.b ((x4 x8.toNat 0).el xB.toNat 0).bool)) k0) else none) else none) else none) else (bif (inb xB (x9 x7.toNat)) then (L298v3 u x0 x1 x2 x3 x4 x5 x6 x7 x8 x9 xA m (w64 (xB + 1)) (setM xC x7.toNat xB.toNat (.b true)) k0) else none)) else none) else none) else none) else none) else none) else (k0 xC))
theorem nl298v3 : ∀ (m : Nat) (x0 : Int) (x1 : FF) (k0 : FF → Option ρ),ob (L298v3 u i0 n0 f0 n1 f1 n2 i1 i2 i3 u0 f2 m x0 x1 k0) ng = L298v3 u i0 n0 f0 n1 f1 n2 i1 i2 i3 u0 f2 m x0 x1 (fun x2 => ob (k0 x2) ng)
 | 0,_,_,_ => rfl
 | m + 1,x0,x1,k0 => by
  simp only [L298v3,ob_bif,ob_ob,ob_none,nl298v3 m]
theorem r298v3 :
  loopH (eB A25v4 (C21 u) u) N298v3 (m + 1) (s298v2 n0 n1 n2 f0 f1 f2 f3 i0 i1 i2 i3 i4 u0) k =
  (bif (decide (i4 < i0)) then (bif (inb i2 n2) then (bif (Nat.blt i2.toNat n2 && true) then (bif (inb i2 n2) then (bif (Nat.blt i2.toNat n2 && true) then (bif (inb i4 (u0 i2.toNat)) then (bif ((f3 i2.toNat i4.toNat).bool == false) then (bif (inb i3 n1) then (bif (inb i4 (f1 i3.toNat 0).len) then (bif (inb i4 (u0 i2.toNat)) then (loopH (eB A25v4 (C21 u) u) N298v3 m (s298v2 n0 n1 n2 f0 f1 f2 (setM f3 i2.toNat i4.toNat (.b ((f1 i3.toNat 0).el i4.toNat 0).bool)) i0 i1 i2 i3 (w64 (i4 + 1)) u0) k) else none) else none) else none) else (bif (inb i4 (u0 i2.toNat)) then (loopH (eB A25v4 (C21 u) u) N298v3 m (s298v2 n0 n1 n2 f0 f1 f2 (setM f3 i2.toNat i4.toNat (.b true)) i0 i1 i2 i3 (w64 (i4 + 1)) u0) k) else none)) else none) else none) else none) else none) else none) else (k (.exit 4) (s298v3 n0 n1 n2 f0 f1 f2 f3 i0 i1 u0))) := by kernel_rfl
theorem q298v3 : ∀ (m : Nat) (x0 : Int) (x1 : FF),
  loopH (eB A25v4 (C21 u) u) N298v3 m (s298v2 n0 n1 n2 f0 f1 f2 x1 i0 i1 i2 i3 x0 u0) k = L298v3 u i0 n0 f0 n1 f1 n2 i1 i2 i3 u0 f2 m x0 x1 (fun x2 => k (.exit 4) (s298v3 n0 n1 n2 f0 f1 f2 x2 i0 i1 u0))
 | 0,_,_ => rfl
 | m + 1,x0,x1 => by
  rw [r298v3]
  simp only [L298v3,q298v3 m]
def N298v4 : St → Option St := nN 2 (rl 2 6 (11 :: (rl 13 121 [])))
def s298v4 : St := ⟨(vxi i0 :: .x (.c (ro kP n0 f0)) :: (us 6 (.x (.c (ro kB n1 f1)) :: .x (.own 0 0 n2) :: .x (.own 1 0 n2) :: .u :: vxi i1 :: (us 121 [])))),[.mat .bool n2 u0 f2,.mat .bool n2 u0 f3]⟩
def s298v5 : St := ⟨(vxi i0 :: (us 8 (.x (.own 0 0 n0) :: .x (.own 1 0 n0) :: (us 123 [])))),[.mat .bool n0 u0 f0,.mat .bool n0 u0 f1]⟩
def L298v4 {ρ : Type} (u : Nat) (x0 : Int) (x1 : Nat) (x2 : FF) (x3 : Nat) (x4 : FF) (x5 : Nat) (x6 : Nat → Nat) : Nat → Int → FF → FF → (FF → FF → Option ρ) → Option ρ
 | 0,_,_,_,_ => none
 | m + 1,x7,x8,x9,k0 =>
  (bif (decide (x7 < (Int.ofNat x1))) then (bif (inb x7 x1) then (bif (inb x7 x1) then (bif (inb (x2 x7.toNat 0).int x5) then (bif (Nat.blt (Int.toNat (x2 x7.toNat 0).int) x5 && true) then (bif (inb (x2 x7.toNat 1).int (x6 (Int.toNat (x2 x7.toNat 0).int))) then (L298v3 u x0 x1 x2 x3 x4 x5 x7 (x2 x7.toNat 0).int (x2 x7.toNat 1).int x6 (setM x8 (Int.toNat (x2 x7.toNat 0).int) (Int.toNat (x2 x7.toNat 1).int) (.b true)) u 0 x9
  (fun xA => (L298v4 u x0 x1 x2 x3 x4 x5 x6 m (w64 (x7 + 1)) (setM x8 (Int.toNat (x2 x7.toNat 0).int) (Int.toNat (x2 x7.toNat 1).int) (.b true)) xA k0))) else none) else none) else none) else none) else none) else (k0 x8 x9))
theorem nl298v4 : ∀ (m : Nat) (x0 : Int) (x1 x2 : FF) (k0 : FF → FF → Option ρ),ob (L298v4 u i0 n0 f0 n1 f1 n2 u0 m x0 x1 x2 k0) ng = L298v4 u i0 n0 f0 n1 f1 n2 u0 m x0 x1 x2 (fun x3 x4 => ob (k0 x3 x4) ng)
 | 0,_,_,_,_ => rfl
 | m + 1,x0,x1,x2,k0 => by
  simp only [L298v4,ob_bif,ob_ob,ob_none,nl298v4 m,nl298v3]
def s298v6 : St := ⟨(vxi i0 :: .x (.c (ro kP n0 f0)) :: (us 6 (.x (.c (ro kB n1 f1)) :: .x (.own 0 0 n2) :: .x (.own 1 0 n2) :: .u :: vxi i1 :: vxi (f0 i1.toNat 0).int :: vxi (f0 i1.toNat 1).int :: vxi 0 :: (us 41 (.x (.c (ro kP n0 f0)) :: vxi i1 :: .x (.c (.rp kP (f0 i1.toNat))) :: .x (.c (.rp kP (f0 i1.toNat))) :: vxi (f0 i1.toNat 0).int :: .x (.c (ro kP n0 f0)) :: vxi i1 :: .x (.c (.rp kP (f0 i1.toNat))) :: .x (.c (.rp (.pr (.int .i64) .nil) (fun j => f0 i1.toNat (1 + j)))) :: vxi (f0 i1.toNat 1).int :: .x (.own 0 0 n2) :: vxi (f0 i1.toNat 0).int :: .x (.aptr 0 (Int.toNat (f0 i1.toNat 0).int) 0) :: .x (.mrow 0 (Int.toNat (f0 i1.toNat 0).int)) :: vxi (f0 i1.toNat 1).int :: .x (.mptr 0 (Int.toNat (f0 i1.toNat 0).int) (Int.toNat (f0 i1.toNat 1).int)) :: (us 61 [])))))),[.mat .bool n2 u0 (setM f2 (Int.toNat (f0 i1.toNat 0).int) (Int.toNat (f0 i1.toNat 1).int) (.b true)),.mat .bool n2 u0 f3]⟩
theorem r298v4 :
  loopH (eB A25v7 (C21 u) u) N298v4 (m + 1) (s298v4 n0 n1 n2 f0 f1 f2 f3 i0 i1 u0) k =
  (bif (decide (i1 < (Int.ofNat n0))) then (bif (inb i1 n0) then (bif (inb i1 n0) then (bif (inb (f0 i1.toNat 0).int n2) then (bif (Nat.blt (Int.toNat (f0 i1.toNat 0).int) n2 && true) then (bif (inb (f0 i1.toNat 1).int (u0 (Int.toNat (f0 i1.toNat 0).int))) then (loopN (eB A25v4 (C21 u) u) N298v3 u (s298v6 n0 n1 n2 f0 f1 f2 f3 i0 i1 u0) (kBlk 4 (kBlk 3 (kSeq (C21 u) u (13 :: 14 :: 15 :: (rl 57 43 [])) A25v5 (kLoop (eB A25v7 (C21 u) u) N298v4 m k))))) else none) else none) else none) else none) else none) else (k (.exit 2) (s298v5 n2 f2 f3 i0 u0))) := by kernel_rfl
theorem t298v1 :
  loopN (eB A25v4 (C21 u) u) N298v3 u (s298v6 n0 n1 n2 f0 f1 f2 f3 i0 i1 u0) k =
  L298v3 u i0 n0 f0 n1 f1 n2 i1 (f0 i1.toNat 0).int (f0 i1.toNat 1).int u0 (setM f2 (Int.toNat (f0 i1.toNat 0).int) (Int.toNat (f0 i1.toNat 1).int) (.b true)) u 0 f3 (fun x0 => k (.exit 4) (s298v3 n0 n1 n2 f0 f1 (setM f2 (Int.toNat (f0 i1.toNat 0).int) (Int.toNat (f0 i1.toNat 1).int) (.b true)) x0 i0 i1 u0)) :=
 Eq.trans (loopN_at (by kernel_rfl)) (q298v3 ..)
theorem g298v2 :
  (kBlk 4 (kBlk 3 (kSeq (C21 u) u (13 :: 14 :: 15 :: (rl 57 43 [])) A25v5 (kLoop (eB A25v7 (C21 u) u) N298v4 m k)))) (.exit 4) (s298v3 n0 n1 n2 f0 f1 (setM f2 (Int.toNat (f0 i1.toNat 0).int) (Int.toNat (f0 i1.toNat 1).int) (.b true)) f3 i0 i1 u0) =
  (loopH (eB A25v7 (C21 u) u) N298v4 m (s298v4 n0 n1 n2 f0 f1 (setM f2 (Int.toNat (f0 i1.toNat 0).int) (Int.toNat (f0 i1.toNat 1).int) (.b true)) f3 i0 (w64 (i1 + 1)) u0) k) := by kernel_rfl
theorem q298v4 : ∀ (m : Nat) (x0 : Int) (x1 x2 : FF),
  loopH (eB A25v7 (C21 u) u) N298v4 m (s298v4 n0 n1 n2 f0 f1 x1 x2 i0 x0 u0) k = L298v4 u i0 n0 f0 n1 f1 n2 u0 m x0 x1 x2 (fun x3 x4 => k (.exit 2) (s298v5 n2 x3 x4 i0 u0))
 | 0,_,_,_ => rfl
 | m + 1,x0,x1,x2 => by
  rw [r298v4]
  simp only [L298v4,q298v4 m,t298v1,g298v2]
def N298v6 : St → Option St := nN 3 (rl 1 8 (rl 11 5 (rl 19 115 [])))
def s298v7 : St := ⟨(vxi i0 :: (us 8 (.x (.own 0 0 n0) :: .x (.own 1 0 n0) :: (us 5 (.x (.own 2 0 n1) :: vxi i1 :: vxi i2 :: (us 115 [])))))),[.mat .bool n0 u0 f0,.mat .bool n0 u0 f1,.arr kP n1 f2]⟩
def s298v8 : St := ⟨(vxi i0 :: (us 8 (.x (.own 0 0 n0) :: .x (.own 1 0 n0) :: (us 5 (.x (.own 2 0 n1) :: vxi i1 :: (us 116 [])))))),[.mat .bool n0 u0 f0,.mat .bool n0 u0 f1,.arr kP n1 f2]⟩
def L298v6 {ρ : Type} (u : Nat) (x0 : Int) (x1 : Nat) (x2 : Int) (x3 : Nat → Nat) (x4 x5 : FF) : Nat → Nat → Int → FF → (Nat → FF → Option ρ) → Option ρ
 | 0,_,_,_,_ => none
 | m + 1,x6,x7,x8,k0 =>
  (bif (decide (x7 < x0)) then (bif (inb x2 x1) then (bif (Nat.blt x2.toNat x1 && true) then (bif (inb x7 (x3 x2.toNat)) then (bif ((x4 x2.toNat x7.toNat).bool == true) then (bif (inb x2 x1) then (bif (Nat.blt x2.toNat x1 && true) then (bif (inb x7 (x3 x2.toNat)) then (bif (!(x5 x2.toNat x7.toNat).bool) then (bif (Nat.ble (x6 + 1) 1073741824) then (L298v6 u x0 x1 x2 x3 x4 x5 m (x6 + 1) (w64 (x7 + 1)) (joinF x6 x8 (rowsF 2 [(.i .i64 x2),(.i .i64 x7)])) k0) else none) else (L298v6 u x0 x1 x2 x3 x4 x5 m x6 (w64 (x7 + 1)) x8 k0)) else none) else none) else none) else (L298v6 u x0 x1 x2 x3 x4 x5 m x6 (w64 (x7 + 1)) x8 k0)) else none) else none) else none) else (k0 x6 x8))
theorem nl298v6 : ∀ (m : Nat) (x0 : Nat) (x1 : Int) (x2 : FF) (k0 : Nat → FF → Option ρ),ob (L298v6 u i0 n0 i1 u0 f0 f1 m x0 x1 x2 k0) ng = L298v6 u i0 n0 i1 u0 f0 f1 m x0 x1 x2 (fun x3 x4 => ob (k0 x3 x4) ng)
 | 0,_,_,_,_ => rfl
 | m + 1,x0,x1,x2,k0 => by
  simp only [L298v6,ob_bif,ob_ob,ob_none,nl298v6 m]
theorem r298v6 :
  loopH (eB A25v10 (C21 u) u) N298v6 (m + 1) (s298v7 n0 n1 f0 f1 f2 i0 i1 i2 u0) k =
  (bif (decide (i2 < i0)) then (bif (inb i1 n0) then (bif (Nat.blt i1.toNat n0 && true) then (bif (inb i2 (u0 i1.toNat)) then (bif ((f0 i1.toNat i2.toNat).bool == true) then (bif (inb i1 n0) then (bif (Nat.blt i1.toNat n0 && true) then (bif (inb i2 (u0 i1.toNat)) then (bif (!(f1 i1.toNat i2.toNat).bool) then (bif (Nat.ble (n1 + 1) 1073741824) then (loopH (eB A25v10 (C21 u) u) N298v6 m (s298v7 n0 (n1 + 1) f0 f1 (joinF n1 f2 (rowsF 2 [(vi i1),(vi i2)])) i0 i1 (w64 (i2 + 1)) u0) k) else none) else (loopH (eB A25v10 (C21 u) u) N298v6 m (s298v7 n0 n1 f0 f1 f2 i0 i1 (w64 (i2 + 1)) u0) k)) else none) else none) else none) else (loopH (eB A25v10 (C21 u) u) N298v6 m (s298v7 n0 n1 f0 f1 f2 i0 i1 (w64 (i2 + 1)) u0) k)) else none) else none) else none) else (k (.exit 8) (s298v8 n0 n1 f0 f1 f2 i0 i1 u0))) := by kernel_rfl
theorem q298v6 : ∀ (m : Nat) (x0 : Nat) (x1 : Int) (x2 : FF),
  loopH (eB A25v10 (C21 u) u) N298v6 m (s298v7 n0 x0 f0 f1 x2 i0 i1 x1 u0) k = L298v6 u i0 n0 i1 u0 f0 f1 m x0 x1 x2 (fun x3 x4 => k (.exit 8) (s298v8 n0 x3 f0 f1 x4 i0 i1 u0))
 | 0,_,_,_ => rfl
 | m + 1,x0,x1,x2 => by
  rw [r298v6]
  simp only [L298v6,q298v6 m]
def N298v7 : St → Option St := nN 3 (rl 1 8 (rl 11 5 (rl 18 116 [])))
def s298v9 : St := ⟨(vxi i0 :: (us 8 (.x (.own 0 0 n0) :: .x (.own 1 0 n0) :: (us 5 (.x (.own 2 0 n1) :: vxi i1 :: (us 116 [])))))),[.mat .bool n0 u0 f0,.mat .bool n0 u0 f1,.arr kP n1 f2]⟩
def s298v10 : St := ⟨(us 16 (.x (.own 2 0 n0) :: (us 117 []))),[.mat .bool n1 u0 f0,.mat .bool n1 u0 f1,.arr kP n0 f2]⟩
def L298v7 {ρ : Type} (u : Nat) (x0 : Int) (x1 : Nat) (x2 : Nat → Nat) (x3 x4 : FF) : Nat → Nat → Int → FF → (Nat → FF → Option ρ) → Option ρ
 | 0,_,_,_,_ => none
 | m + 1,x5,x6,x7,k0 =>
  (bif (decide (x6 < x0)) then (L298v6 u x0 x1 x6 x2 x3 x4 u x5 0 x7
  (fun x8 x9 => (L298v7 u x0 x1 x2 x3 x4 m x8 (w64 (x6 + 1)) x9 k0))) else (k0 x5 x7))
theorem nl298v7 : ∀ (m : Nat) (x0 : Nat) (x1 : Int) (x2 : FF) (k0 : Nat → FF → Option ρ),ob (L298v7 u i0 n0 u0 f0 f1 m x0 x1 x2 k0) ng = L298v7 u i0 n0 u0 f0 f1 m x0 x1 x2 (fun x3 x4 => ob (k0 x3 x4) ng)
 | 0,_,_,_,_ => rfl
 | m + 1,x0,x1,x2,k0 => by
  simp only [L298v7,ob_bif,ob_ob,ob_none,nl298v7 m,nl298v6]
def s298v11 : St := ⟨(vxi i0 :: (us 8 (.x (.own 0 0 n0) :: .x (.own 1 0 n0) :: (us 5 (.x (.own 2 0 n1) :: vxi i1 :: vxi 0 :: (us 115 [])))))),[.mat .bool n0 u0 f0,.mat .bool n0 u0 f1,.arr kP n1 f2]⟩
theorem r298v7 :
  loopH (eB A25v13 (C21 u) u) N298v7 (m + 1) (s298v9 n0 n1 f0 f1 f2 i0 i1 u0) k =
  (bif (decide (i1 < i0)) then (loopN (eB A25v10 (C21 u) u) N298v6 u (s298v11 n0 n1 f0 f1 f2 i0 i1 u0) (kBlk 8 (kBlk 7 (kSeq (C21 u) u (18 :: (rl 105 28 [])) A25v11 (kLoop (eB A25v13 (C21 u) u) N298v7 m k))))) else (k (.exit 6) (s298v10 n1 n0 f0 f1 f2 u0))) := by kernel_rfl
theorem t298v3 :
  loopN (eB A25v10 (C21 u) u) N298v6 u (s298v11 n0 n1 f0 f1 f2 i0 i1 u0) k =
  L298v6 u i0 n0 i1 u0 f0 f1 u n1 0 f2 (fun x0 x1 => k (.exit 8) (s298v8 n0 x0 f0 f1 x1 i0 i1 u0)) :=
 Eq.trans (loopN_at (by kernel_rfl)) (q298v6 ..)
theorem g298v4 :
  (kBlk 8 (kBlk 7 (kSeq (C21 u) u (18 :: (rl 105 28 [])) A25v11 (kLoop (eB A25v13 (C21 u) u) N298v7 m k)))) (.exit 8) (s298v8 n0 n1 f0 f1 f2 i0 i1 u0) =
  (loopH (eB A25v13 (C21 u) u) N298v7 m (s298v9 n0 n1 f0 f1 f2 i0 (w64 (i1 + 1)) u0) k) := by kernel_rfl
theorem q298v7 : ∀ (m : Nat) (x0 : Nat) (x1 : Int) (x2 : FF),
  loopH (eB A25v13 (C21 u) u) N298v7 m (s298v9 n0 x0 f0 f1 x2 i0 x1 u0) k = L298v7 u i0 n0 u0 f0 f1 m x0 x1 x2 (fun x3 x4 => k (.exit 6) (s298v10 x3 n0 f0 f1 x4 u0))
 | 0,_,_,_ => rfl
 | m + 1,x0,x1,x2 => by
  rw [r298v7]
  simp only [L298v7,q298v7 m,t298v3,g298v4]
def FT298 (x0 : Int) (x1 : Nat) (x2 : FF) : Option (Bool × Nat × FF × Int) :=
 (ob (F229 u x0 x1 x2) fun x3 => (bif (x3.2.2 != 0) then (some (true,0,(fun _ _ => .any),x3.2.2)) else (ob (F295 u x0 x1 x2 x3.1 x3.2.1) fun x4 => (bif (decide (0 ≤ x0) && decide (x0 = x0) && decide (x0 ≤ 1073741824)) then (bif (decide (0 ≤ x0) && decide (x0 = x0) && decide (x0 ≤ 1073741824)) then (L298v1 u x0 x1 x2 x4.1 x4.2 x0.toNat u 0 (fun _ => 0) (fun _ _ => .any)
  (fun x5 x6 => (L298v4 u x0 x1 x2 x4.1 x4.2 x0.toNat x5 u 0 x6 x6
  (fun x7 x8 => (L298v7 u x0 x0.toNat x5 x7 x8 u 0 0 (fun _ _ => .any)
  (fun x9 xA => (some (false,x9,xA,0)))))))) else none) else none))))
def s298v12 (x0 : Nat × FF × Int) (x1 : Nat × FF) : St := ⟨(vxi i0 :: .x (.c (ro kP n0 f0)) :: uu :: uu :: .u :: .u :: .x (.c (ro (.pr (.int .i64) .nil) x0.1 x0.2.1)) :: vxi x0.2.2 :: .x (.c (ro kB x1.1 x1.2)) :: .x (.own 0 0 i0.toNat) :: .x (.own 1 0 i0.toNat) :: vxi 0 :: uu :: uu :: uu :: uu :: uu :: uu :: uu :: .tup [.v (ro (.pr (.int .i64) .nil) x0.1 x0.2.1),.v (vi x0.2.2)] :: vxi i0 :: .x (.c (ro kP n0 f0)) :: .tup [.v (ro (.pr (.int .i64) .nil) x0.1 x0.2.1),.v (vi x0.2.2)] :: .x (.c (ro (.pr (.int .i64) .nil) x0.1 x0.2.1)) :: vxi x0.2.2 :: (us 3 [vxi i0,.x (.c (ro kP n0 f0)),.x (.c (ro (.pr (.int .i64) .nil) x0.1 x0.2.1)),.x (.c (ro kB x1.1 x1.2)),vxi i0,.x (.own 0 0 i0.toNat),vxi i0,.x (.own 1 0 i0.toNat),uu,uu,uu,uu,uu,uu,uu,uu,uu,uu,uu,uu,uu,uu,uu,uu,uu,uu,uu,uu,uu,uu,uu,uu,uu,uu,uu,uu,uu,uu,uu,uu,uu,uu,uu,uu,uu,uu,uu,uu,uu,uu,uu,uu,uu,uu,uu,uu,uu,uu,uu,uu,uu,uu,uu,uu,uu,uu,uu,uu,uu,uu,uu,uu,uu,uu,uu,uu,uu,uu,uu,uu,uu,uu,uu,uu,uu,uu,uu,uu,uu,uu,uu,uu,uu,uu,uu,uu,uu,uu,uu,uu,uu,uu,uu,uu,uu,uu])),[.mat .bool i0.toNat (fun _ => 0) nilF,.mat .bool i0.toNat (fun _ => 0) nilF]⟩
theorem t298v5 (x0 : Nat × FF × Int) (x1 : Nat × FF) :
  loopN (eB A25v2 (C21 u) u) N298v1 u (s298v12 n0 f0 i0 x0 x1) k =
  L298v1 u i0 n0 f0 x1.1 x1.2 i0.toNat u 0 (fun _ => 0) nilF (fun x2 x3 => k (.exit 0) (s298v1 n0 x1.1 i0.toNat f0 x1.2 x3 i0 x2)) :=
 Eq.trans (loopN_at (by kernel_rfl)) (q298v1 ..)
def s298v13 (x0 : Nat × FF) : St := ⟨(vxi i0 :: .x (.c (ro kP n0 f0)) :: (us 6 (.x (.c (ro kB x0.1 x0.2)) :: .x (.own 0 0 i0.toNat) :: .x (.own 1 0 i0.toNat) :: .u :: vxi 0 :: (us 121 [])))),[.mat .bool i0.toNat u0 f1,.mat .bool i0.toNat u0 f1]⟩
theorem g298v6 (x0 : Nat × FF) :
  (kBlk 0 (kSeq (C21 u) u (11 :: (rl 36 15 [])) A25v16 (finish A25))) (.exit 0) (s298v1 n0 x0.1 i0.toNat f0 x0.2 f1 i0 u0) =
  (loopN (eB A25v7 (C21 u) u) N298v4 u (s298v13 n0 f0 f1 i0 u0 x0) (kBlk 2 (kSeq (C21 u) u (rl 12 4 (rl 51 49 [])) A25v15 (finish A25)))) := by kernel_rfl
theorem t298v7 (x0 : Nat × FF) :
  loopN (eB A25v7 (C21 u) u) N298v4 u (s298v13 n0 f0 f1 i0 u0 x0) k =
  L298v4 u i0 n0 f0 x0.1 x0.2 i0.toNat u0 u 0 f1 f1 (fun x1 x2 => k (.exit 2) (s298v5 i0.toNat x1 x2 i0 u0)) :=
 Eq.trans (loopN_at (by kernel_rfl)) (q298v4 ..)
def s298v14 : St := ⟨(vxi i0 :: (us 8 (.x (.own 0 0 i0.toNat) :: .x (.own 1 0 i0.toNat) :: (us 5 (.x (.own 2 0 0) :: vxi 0 :: (us 116 [])))))),[.mat .bool i0.toNat u0 f0,.mat .bool i0.toNat u0 f1,.arr kP 0 nilF]⟩
theorem g298v8 :
  (kBlk 2 (kSeq (C21 u) u (rl 12 4 (rl 51 49 [])) A25v15 (finish A25))) (.exit 2) (s298v5 i0.toNat f0 f1 i0 u0) =
  (loopN (eB A25v13 (C21 u) u) N298v7 u (s298v14 f0 f1 i0 u0) (kBlk 6 (kSeq (C21 u) u (17 :: 18 :: (rl 100 33 [])) A25v14 (finish A25)))) := by kernel_rfl
theorem t298v9 :
  loopN (eB A25v13 (C21 u) u) N298v7 u (s298v14 f0 f1 i0 u0) k =
  L298v7 u i0 i0.toNat u0 f0 f1 u 0 0 nilF (fun x0 x1 => k (.exit 6) (s298v10 x0 i0.toNat f0 f1 x1 u0)) :=
 Eq.trans (loopN_at (by kernel_rfl)) (q298v7 ..)
theorem g298v10 :
  (kBlk 6 (kSeq (C21 u) u (17 :: 18 :: (rl 100 33 [])) A25v14 (finish A25))) (.exit 6) (s298v10 n0 i0.toNat f0 f1 f2 u0) =
  (some [.v (ro kP n0 f2),.v (vi 0)]) := by kernel_rfl
theorem e298 : evalF (C21 u) u A25 [.v (vi i0),.v (ro kP n0 f0)] = ob (FT298 u i0 n0 f0) fun t => some (bif t.1 then [.v (.ro true .nil 0 nilF),.v (vi t.2.2.2)] else [.v (ro kP t.2.1 t.2.2.1),.v (vi 0)]) := Eq.trans (b := (ob (F229 u i0 n0 f0) fun x0 => (bif (x0.2.2 != 0) then (some [.v (.ro true .nil 0 nilF),.v (vi x0.2.2)]) else (ob (F295 u i0 n0 f0 x0.1 x0.2.1) fun x1 => (bif (decide (0 ≤ i0) && decide (i0 = i0) && decide (i0 ≤ 1073741824)) then (bif (decide (0 ≤ i0) && decide (i0 = i0) && decide (i0 ≤ 1073741824)) then (loopN (eB A25v2 (C21 u) u) N298v1 u (s298v12 n0 f0 i0 x0 x1) (kBlk 0 (kSeq (C21 u) u (11 :: (rl 36 15 [])) A25v16 (finish A25)))) else none) else none))))) (by kernel_rfl) (by
 simp only [FT298,ob_bif,ob_ob,ob_none,ob_some,nl298v1,nl298v4,nl298v7,t298v5,g298v6,t298v7,g298v8,t298v9,g298v10,cond_true,cond_false])
def F298 (x0 : Int) (x1 : Nat) (x2 : FF) : Option (Nat × FF × Int) := ob (FT298 u x0 x1 x2) fun t => some (bif t.1 then (0,(fun _ _ => .any),t.2.2.2) else (t.2.1,t.2.2.1,0))
def O298 : Ora := mkO (qc (av ci) (q1 (av (cL kP)))) (fun x => F298 u x.1 x.2.1 x.2.2) fun t => [.v (ro kP t.1 t.2.1),.v (vi t.2.2)]
theorem d298 : DO (O298 u) (C21 u) 25 A25 := dW u (fun x => by exact e298 u x.2.1 x.2.2 x.1) (fun _ => rfl) fun t => by
 obtain ⟨b,t⟩ := t
 cases b with
 | true => exact (.cons (WkA.v (Wk.ro (by rfl))) (.cons (WkA.v (Wk.refl _)) .nil))
 | false =>
  exact (.cons (WkA.v (Wk.refl _)) (.cons (WkA.v (Wk.refl _)) .nil))
def C22 : Oracle := (C21 u).add 25 (fun _ => true) (O298 u)
def A6v1 : AC := (.seq (.region 3 [mv 13 0,mv 14 1,o1 15 (cf 24 [13,14] [3,22]),mv 12 15,o1 16 (.extract (tm 12) 0),o1 17 (.extract (tm 12) 1),o1 5 (sg 16),o1 6 (sg 17)] 0 none) []
 (.seq (.region 4 [mv 19 0,mv 20 1,o1 21 (cf 25 [19,20] [3,22]),mv 18 21,o1 22 (.extract (tm 18) 0),o1 23 (.extract (tm 18) 1),o1 7 (sg 22),o1 8 (sg 23)] 0 none) []
 (.seq (.region 5 [mv 24 5,mv 25 7,o1 26 (cs 26 [24,25] [22,22]),mv 27 26,og 28 (.move (tm 6)) 27 true,og 29 (.move (tm 8)) 27 true,og 30 (bt .eql 26 28 29) 27 true,o1 31 (po 27 30),mv 32 31,og 33 (cs 12 [] []) 32 true,o1 34 (po 32 33),o1 4 (sg 34)] 0 none) []
 (.ret (rl 0 4 (rl 5 30 []))))))
def A6 : AF := ⟨35,[.tmp 4],
 (.seq (.region 0 [o1 4 (sb false)] 0 none) []
 (.seq (.seq (.region 1 [mv 9 1,o1 10 (cs 11 [9] [22])] 0 none) []
 (.cond (tm 10)
 (.seq (.region 2 [o1 11 (cs 12 [] []),o1 4 (sg 11)] 0 none) []
  (.ret (rl 0 4 (rl 5 30 []))))
 .skip)) [4,9,10,11]
 A6v1))⟩
def F299 (x0 : Int) (x1 : Nat) (x2 : FF) : Option (Bool) :=
 (ob (F223 u x1 x2) fun x3 => (bif x3 then (ob (F243 u) fun x4 => (some x4)) else (ob (F242 u x0 x1 x2) fun x5 => (ob (F298 u x0 x1 x2) fun x6 => (ob (F240 u x5.1 x5.2.1 x6.1 x6.2.1) fun x7 => (bif (x7 == true) then (bif ((x5.2.2 == x6.2.2) == true) then (ob (F243 u) fun x8 => (some x8)) else (some false)) else (some false)))))))
theorem e299 : evalF (C22 u) u A6 [.v (vi i0),.v (ro kP n0 f0)] = ob (F299 u i0 n0 f0) fun t => some [.v (.b t)] := Eq.trans (b := (ob (F223 u n0 f0) fun x0 => (bif x0 then (ob (F243 u) fun x1 => (some [.v (.b x1)])) else (ob (F242 u i0 n0 f0) fun x2 => (ob (F298 u i0 n0 f0) fun x3 => (ob (F240 u x2.1 x2.2.1 x3.1 x3.2.1) fun x4 => (bif (x4 == true) then (bif ((x2.2.2 == x3.2.2) == true) then (ob (F243 u) fun x5 => (some [.v (.b x5)])) else (some [.v (.b false)])) else (some [.v (.b false)])))))))) (by kernel_rfl) (by
 simp only [F299,ob_bif,ob_ob,ob_none,ob_some])
def O299 : Ora := mkO (qc (av ci) (q1 (av (cL kP)))) (fun x => F299 u x.1 x.2.1 x.2.2) fun t => [.v (.b t)]
theorem d299 : DO (O299 u) (C22 u) 6 A6 := dO u (fun x => by exact e299 u x.2.1 x.2.2 x.1)
/- Functions that the plain texts alone name. -/
end Go.Eng.R13
