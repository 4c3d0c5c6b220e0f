/-
 The functions of the program,run on symbols; printed by decomp.py.
-/
import Derived.Test.YtmpnfnngjeojlaaDecT1
set_option linter.all false
set_option maxRecDepth 1000000
set_option maxHeartbeats 4000000
namespace Go.Eng.R13
open Go Go.RowKit Go.Eng
variable {ρ σ : Type} (u m : Nat) (k : Ex → St → Option ρ) (ng : ρ → Option σ) (n0 n1 n2 n3 n4 n5 n6 : Nat) (f0 f1 f2 f3 f4 f5 f6 : FF) (i0 i1 i2 i3 i4 i5 i6 i7 i8 i9 iA iB iC iD iE iF iG iH iI iJ iK iL iM : Int) (b0 b1 : Bool) (w0 w1 w2 w3 w4 w5 w6 w7 w8 : ByteArray) (g0 g1 : Nat → CV)
def A36v1 : AC := (.seq (.block 3
 (.region 9 [mv 41 6,mv 42 41,og 43 (.move (tm 5)) 42 false,og 44 (.move (tm 7)) 42 false,og 45 (.indexAddr 48 47 1 (tm 43) (tm 44)) 42 false,og 46 (lo 47 45) 42 false,og 47 (.move (tm 8)) 42 false,og 48 (.indexAddr 47 41 2 (tm 46) (tm 47)) 42 false,og 49 (ln 41 2 48) 42 false,og 50 (cs 63 [49] [41]) 42 false,o1 51 (pa 42 50),o1 6 (sg 51)] 0 none)) []
 (.region 8 [mv 39 8,o1 40 (bk .add 3 39 1),o1 8 (sg 40)] 0 none))
def A36v2 : AC := (.seq (.seq (.region 7 [mv 32 8,mv 33 5,mv 34 7,o1 35 (.indexAddr 48 47 1 (tm 33) (tm 34)),o1 36 (lo 47 35),o1 37 (.len 47 false (tm 36)),o1 38 (bt .lss 3 32 37)] 0 none) []
 (.cond (tm 38)
 .skip
 (.exit 2 (0 :: 1 :: (rl 8 71 []))))) (rl 32 7 [])
 A36v1)
def A36v3 : AC := (.region 5 [mv 30 7,o1 31 (bk .add 3 30 1),o1 7 (sg 31)] 0 none)
def A36v4 : AC := (.seq (.block 1
 (.seq (.region 6 [o1 8 (sk 0)] 0 none) []
  (.block 2
  (.loop [] (0 :: 1 :: (rl 9 70 []))
   A36v2)))) (8 :: (rl 32 20 []))
 A36v3)
def A36v5 : AC := (.seq (.seq (.region 4 [mv 26 7,mv 27 5,o1 28 (.len 48 false (tm 27)),o1 29 (bt .lss 3 26 28)] 0 none) []
 (.cond (tm 29)
 .skip
 (.exit 0 (0 :: 1 :: 5 :: (rl 7 72 []))))) (rl 26 4 [])
 A36v4)
def A36v6 : AC := (.seq (.block 5
 (.region 16 [o1 66 (fa 50 9 1 1),o1 67 (lo 48 66),o1 68 (fa 50 2 1 1),o1 69 (lo 48 68),mv 70 10,o1 71 (.indexAddr 48 47 1 (tm 69) (tm 70)),o1 72 (lo 47 71),o1 73 (ln 43 5 3),o1 74 (cf 64 [72,73] [47,43]),o1 75 (.buildSlice 0 48 47 (.pr (.sl kP) .nil) 1 [vcn] [(0,(tm 74))]),o1 76 (.append 1 48 47 (.pr (.sl kP) .nil) 24 (tm 67) (tm 75)),o1 77 (fa 50 9 1 1),o0 (.store 48 1 (tm 77) (tm 76))] 2 (some [[],[0],[],[2],[],[2,3,4],(rl 2 4 []),[],(rl 2 6 []),(rl 2 7 []),(rl 0 10 []),(rl 0 11 []),(rl 0 12 [])]))) []
 (.region 15 [mv 64 10,o1 65 (bk .add 3 64 1),o1 10 (sg 65)] 0 none))
def A36v7 : AC := (.seq (.seq (.region 14 [mv 59 10,o1 60 (fa 50 2 1 1),o1 61 (lo 48 60),o1 62 (.len 48 false (tm 61)),o1 63 (bt .lss 3 59 62)] 0 none) []
 (.cond (tm 63)
 .skip
 (.exit 4 (rl 0 4 (rl 5 4 (rl 10 69 [])))))) (rl 59 5 [])
 A36v6)
def A36v8 : AC := (.seq (.region 17 [o1 78 (ln 50 2 9),o0 (.store 50 2 (tm 4) (tm 78))] 0 none) []
 (.ret (rl 0 4 (rl 5 74 []))))
def A36v9 : AC := (.seq (.region 12 [o1 54 (fa 50 2 0 0),o1 55 (lo 47 54),o1 56 (ln 43 5 3),o1 57 (cf 64 [55,56] [47,43]),o1 58 (.build 50 [vcn,vcn] [(0,1),(1,1)] 0 [(0,(tm 57))]),o1 9 (.alloc 0 50 [vcn,vcn]),o0 (.store 50 2 (tm 9) (tm 58))] 1 none) []
 (.seq (.seq (.region 13 [o1 10 (sk 0)] 0 none) []
 (.block 4
 (.loop [.cell 9 1 (.pr (.sl kP) .nil)] (0 :: 1 :: (rl 5 4 (rl 11 68 [])))
  A36v7))) (10 :: (rl 59 19 []))
 A36v8))
def A36v10 : AC := (.seq (.seq (.region 10 [mv 52 6] 0 none) []
 (.cond (tm 52)
 (.seq (.region 11 [o1 53 (.build 50 [vcn,vcn] [(0,1),(1,1)] 0 []),o0 (.store 50 2 (tm 4) (tm 53))] 0 none) []
  (.ret (rl 0 4 (rl 5 74 []))))
 .skip)) [52,53]
 A36v9)
def A36 : AF := ⟨79,[.cell 4 50 (some 2)],
 (.seq (.region 0 [o1 2 (bx 0 50 0),o1 3 (bx 1 43 1),o1 4 (.alloc 2 50 [vcn,vcn])] 3 none) []
 (.seq (.region 1 [o1 11 (ln 50 2 2),o1 12 (cf 62 [11] [50]),o1 5 (sg 12)] 0 none) []
 (.seq (.region 2 [o1 13 (fa 43 3 2 3),o1 14 (lo 3 13),o1 15 (bk .lss 3 14 0),mv 16 15,og 17 (fa 43 3 2 3) 16 false,og 18 (lo 3 17) 16 false,og 19 (bk .gtr 3 18 3) 16 false,o1 20 (pa 16 19),mv 21 20,og 22 (fa 43 3 1 1) 21 false,og 23 (ln 41 2 22) 21 false,og 24 (cs 63 [23] [41]) 21 false,o1 25 (pa 21 24),o1 6 (sg 25)] 0 none) []
 (.seq (.seq (.region 3 [o1 7 (sk 0)] 0 none) []
 (.block 0
 (.loop [] (0 :: 1 :: (rl 8 71 []))
  A36v5))) (7 :: 8 :: (rl 26 26 []))
 A36v10))))⟩
def N26v2 : St → Option St := nN 3 (0 :: 1 :: (rl 9 70 []))
def s26v0 : St := ⟨(.u :: .u :: .x (.ptr 0 0) :: .x (.ptr 1 0) :: .x (.ptr 2 0) :: .x (.c (ro (.pr (.sl kP) .nil) n0 f0)) :: vxb b0 :: vxi i0 :: vxi i1 :: (us 70 [])),[.box [(.c (ro kP n1 f1)),(.c (ro (.pr (.sl kP) .nil) n2 f2))],.box [(vcs w0),(vci i2),(vci i3),(vci i4),(vcb b1)],.box [(vcn),(vcn)]]⟩
def s26v1 : St := ⟨(.u :: .u :: .x (.ptr 0 0) :: .x (.ptr 1 0) :: .x (.ptr 2 0) :: .x (.c (ro (.pr (.sl kP) .nil) n0 f0)) :: vxb b0 :: vxi i0 :: (us 71 [])),[.box [(.c (ro kP n1 f1)),(.c (ro (.pr (.sl kP) .nil) n2 f2))],.box [(vcs w0),(vci i1),(vci i2),(vci i3),(vcb b1)],.box [(vcn),(vcn)]]⟩
def L26v2 {ρ : Type} (u : Nat) (x0 : Nat) (x1 : FF) (x2 : Int) (x3 : Nat) (x4 : FF) (x5 : Nat) (x6 : FF) (x7 : ByteArray) (x8 x9 xA : Int) (xB : Bool) : Nat → Bool → Int → (Bool → Option ρ) → Option ρ
 | 0,_,_,_ => none
 | m + 1,xC,xD,k0 =>
  (bif (inb x2 x0) then (bif (decide (xD < (Int.ofNat (x1 x2.toNat 0).len))) then (bif (xC == false) then (bif (inb x2 x0) then (bif (inb xD (x1 x2.toNat 0).len) then (ob (F53 u ((x1 x2.toNat 0).el xD.toNat 0).int ((x1 x2.toNat 0).el xD.toNat 1).int) fun xE => (L26v2 u x0 x1 x2 x3 x4 x5 x6 x7 x8 x9 xA xB m xE (w64 (xD + 1)) k0)) else none) else none) else (L26v2 u x0 x1 x2 x3 x4 x5 x6 x7 x8 x9 xA xB m true (w64 (xD + 1)) k0)) else (k0 xC)) else none)
theorem nl26v2 : ∀ (m : Nat) (x0 : Bool) (x1 : Int) (k0 : Bool → Option ρ),ob (L26v2 u n0 f0 i0 n1 f1 n2 f2 w0 i1 i2 i3 b0 m x0 x1 k0) ng = L26v2 u n0 f0 i0 n1 f1 n2 f2 w0 i1 i2 i3 b0 m x0 x1 (fun x2 => ob (k0 x2) ng)
 | 0,_,_,_ => rfl
 | m + 1,x0,x1,k0 => by
  simp only [L26v2,ob_bif,ob_ob,ob_none,nl26v2 m]
theorem r26v2 :
  loopH (eB A36v2 (C71 u) u) N26v2 (m + 1) (s26v0 n0 n1 n2 f0 f1 f2 i0 i4 i1 i2 i3 b1 b0 w0) k =
  (bif (inb i0 n0) then (bif (decide (i4 < (Int.ofNat (f0 i0.toNat 0).len))) then (bif (b1 == false) then (bif (inb i0 n0) then (bif (inb i4 (f0 i0.toNat 0).len) then (ob (F53 u ((f0 i0.toNat 0).el i4.toNat 0).int ((f0 i0.toNat 0).el i4.toNat 1).int) fun x0 => (loopH (eB A36v2 (C71 u) u) N26v2 m (s26v0 n0 n1 n2 f0 f1 f2 i0 (w64 (i4 + 1)) i1 i2 i3 x0 b0 w0) k)) else none) else none) else (loopH (eB A36v2 (C71 u) u) N26v2 m (s26v0 n0 n1 n2 f0 f1 f2 i0 (w64 (i4 + 1)) i1 i2 i3 true b0 w0) k)) else (k (.exit 2) (s26v1 n0 n1 n2 f0 f1 f2 i0 i1 i2 i3 b1 b0 w0))) else none) := by kernel_rfl
theorem q26v2 : ∀ (m : Nat) (x0 : Bool) (x1 : Int),
  loopH (eB A36v2 (C71 u) u) N26v2 m (s26v0 n0 n1 n2 f0 f1 f2 i0 x1 i1 i2 i3 x0 b0 w0) k = L26v2 u n0 f0 i0 n1 f1 n2 f2 w0 i1 i2 i3 b0 m x0 x1 (fun x2 => k (.exit 2) (s26v1 n0 n1 n2 f0 f1 f2 i0 i1 i2 i3 x2 b0 w0))
 | 0,_,_ => rfl
 | m + 1,x0,x1 => by
  rw [r26v2]
  simp only [L26v2,q26v2 m]
def N26v3 : St → Option St := nN 3 (0 :: 1 :: (rl 8 71 []))
def s26v2 : St := ⟨(.u :: .u :: .x (.ptr 0 0) :: .x (.ptr 1 0) :: .x (.ptr 2 0) :: .x (.c (ro (.pr (.sl kP) .nil) n0 f0)) :: vxb b0 :: vxi i0 :: (us 71 [])),[.box [(.c (ro kP n1 f1)),(.c (ro (.pr (.sl kP) .nil) n2 f2))],.box [(vcs w0),(vci i1),(vci i2),(vci i3),(vcb b1)],.box [(vcn),(vcn)]]⟩
def s26v3 : St := ⟨(.u :: .u :: .x (.ptr 0 0) :: .x (.ptr 1 0) :: .x (.ptr 2 0) :: .u :: vxb b0 :: (us 72 [])),[.box [(.c (ro kP n0 f0)),(.c (ro (.pr (.sl kP) .nil) n1 f1))],.box [(vcs w0),(vci i0),(vci i1),(vci i2),(vcb b1)],.box [(vcn),(vcn)]]⟩
def L26v3 {ρ : Type} (u : Nat) (x0 : Nat) (x1 : FF) (x2 : Nat) (x3 : FF) (x4 : Nat) (x5 : FF) (x6 : ByteArray) (x7 x8 x9 : Int) (xA : Bool) : Nat → Bool → Int → (Bool → Option ρ) → Option ρ
 | 0,_,_,_ => none
 | m + 1,xB,xC,k0 =>
  (bif (decide (xC < (Int.ofNat x0))) then (L26v2 u x0 x1 xC x2 x3 x4 x5 x6 x7 x8 x9 xA u xB 0
  (fun xD => (L26v3 u x0 x1 x2 x3 x4 x5 x6 x7 x8 x9 xA m xD (w64 (xC + 1)) k0))) else (k0 xB))
theorem nl26v3 : ∀ (m : Nat) (x0 : Bool) (x1 : Int) (k0 : Bool → Option ρ),ob (L26v3 u n0 f0 n1 f1 n2 f2 w0 i0 i1 i2 b0 m x0 x1 k0) ng = L26v3 u n0 f0 n1 f1 n2 f2 w0 i0 i1 i2 b0 m x0 x1 (fun x2 => ob (k0 x2) ng)
 | 0,_,_,_ => rfl
 | m + 1,x0,x1,k0 => by
  simp only [L26v3,ob_bif,ob_ob,ob_none,nl26v3 m,nl26v2]
def s26v4 : St := ⟨(.u :: .u :: .x (.ptr 0 0) :: .x (.ptr 1 0) :: .x (.ptr 2 0) :: .x (.c (ro (.pr (.sl kP) .nil) n0 f0)) :: vxb b0 :: vxi i0 :: vxi 0 :: (us 70 [])),[.box [(.c (ro kP n1 f1)),(.c (ro (.pr (.sl kP) .nil) n2 f2))],.box [(vcs w0),(vci i1),(vci i2),(vci i3),(vcb b1)],.box [(vcn),(vcn)]]⟩
theorem r26v3 :
  loopH (eB A36v5 (C71 u) u) N26v3 (m + 1) (s26v2 n0 n1 n2 f0 f1 f2 i3 i0 i1 i2 b1 b0 w0) k =
  (bif (decide (i3 < (Int.ofNat n0))) then (loopN (eB A36v2 (C71 u) u) N26v2 u (s26v4 n0 n1 n2 f0 f1 f2 i3 i0 i1 i2 b1 b0 w0) (kBlk 2 (kBlk 1 (kSeq (C71 u) u (8 :: (rl 32 20 [])) A36v3 (kLoop (eB A36v5 (C71 u) u) N26v3 m k))))) else (k (.exit 0) (s26v3 n1 n2 f1 f2 i0 i1 i2 b1 b0 w0))) := by kernel_rfl
theorem t26v1 :
  loopN (eB A36v2 (C71 u) u) N26v2 u (s26v4 n0 n1 n2 f0 f1 f2 i0 i1 i2 i3 b0 b1 w0) k =
  L26v2 u n0 f0 i0 n1 f1 n2 f2 w0 i1 i2 i3 b1 u b0 0 (fun x0 => k (.exit 2) (s26v1 n0 n1 n2 f0 f1 f2 i0 i1 i2 i3 x0 b1 w0)) :=
 Eq.trans (loopN_at (by kernel_rfl)) (q26v2 ..)
theorem g26v2 :
  (kBlk 2 (kBlk 1 (kSeq (C71 u) u (8 :: (rl 32 20 [])) A36v3 (kLoop (eB A36v5 (C71 u) u) N26v3 m k)))) (.exit 2) (s26v1 n0 n1 n2 f0 f1 f2 i0 i1 i2 i3 b0 b1 w0) =
  (loopH (eB A36v5 (C71 u) u) N26v3 m (s26v2 n0 n1 n2 f0 f1 f2 (w64 (i0 + 1)) i1 i2 i3 b0 b1 w0) k) := by kernel_rfl
theorem q26v3 : ∀ (m : Nat) (x0 : Bool) (x1 : Int),
  loopH (eB A36v5 (C71 u) u) N26v3 m (s26v2 n0 n1 n2 f0 f1 f2 x1 i0 i1 i2 x0 b0 w0) k = L26v3 u n0 f0 n1 f1 n2 f2 w0 i0 i1 i2 b0 m x0 x1 (fun x2 => k (.exit 0) (s26v3 n1 n2 f1 f2 i0 i1 i2 x2 b0 w0))
 | 0,_,_ => rfl
 | m + 1,x0,x1 => by
  rw [r26v3]
  simp only [L26v3,q26v3 m,t26v1,g26v2]
def N26v4 : St → Option St := nN 5 (0 :: 1 :: (rl 5 4 (rl 11 68 [])))
def s26v5 : St := ⟨(.u :: .u :: .x (.ptr 0 0) :: .x (.ptr 1 0) :: .x (.ptr 2 0) :: (us 4 (.x (.ptr 3 0) :: vxi i0 :: (us 68 [])))),[.box [(.c (ro kP n0 f0)),(.c (ro (.pr (.sl kP) .nil) n1 f1))],.box [(vcs w0),(vci i1),(vci i2),(vci i3),(vcb b0)],.box [(vcn),(vcn)],.box [(.c (ro kP n2 f2)),(.own 4 0 n3)],.arr (.pr (.sl kP) .nil) n3 f3]⟩
def s26v6 : St := ⟨(us 4 (.x (.ptr 2 0) :: (us 4 (.x (.ptr 3 0) :: (us 69 []))))),[.box [(.c (ro kP n0 f0)),(.c (ro (.pr (.sl kP) .nil) n1 f1))],.box [(vcs w0),(vci i0),(vci i1),(vci i2),(vcb b0)],.box [(vcn),(vcn)],.box [(.c (ro kP n2 f2)),(.own 4 0 n3)],.arr (.pr (.sl kP) .nil) n3 f3]⟩
def L26v4 {ρ : Type} (u : Nat) (x0 : Nat) (x1 : FF) (x2 : Nat) (x3 : FF) (x4 : ByteArray) (x5 x6 x7 : Int) (x8 : Bool) (x9 : Nat) (xA : FF) : Nat → Int → Nat → FF → (Nat → FF → Option ρ) → Option ρ
 | 0,_,_,_,_ => none
 | m + 1,xB,xC,xD,k0 =>
  (bif (decide (xB < (Int.ofNat x2))) then (bif (inb xB x2) then (ob (F54 u (x3 xB.toNat 0).len (x3 xB.toNat 0).el x4 x5 x6 x7 x8) fun xE => (bif (Nat.ble (xC + 1) 1073741824) then (L26v4 u x0 x1 x2 x3 x4 x5 x6 x7 x8 x9 xA m (w64 (xB + 1)) (xC + 1) (joinF xC xD (rowsF 1 [(.ro false (.pr (.int .i64) (.pr (.int .i64) .nil)) xE.1 xE.2)])) k0) else none)) else none) else (k0 xC xD))
theorem nl26v4 : ∀ (m : Nat) (x0 : Int) (x1 : Nat) (x2 : FF) (k0 : Nat → FF → Option ρ),ob (L26v4 u n0 f0 n1 f1 w0 i0 i1 i2 b0 n2 f2 m x0 x1 x2 k0) ng = L26v4 u n0 f0 n1 f1 w0 i0 i1 i2 b0 n2 f2 m x0 x1 x2 (fun x3 x4 => ob (k0 x3 x4) ng)
 | 0,_,_,_,_ => rfl
 | m + 1,x0,x1,x2,k0 => by
  simp only [L26v4,ob_bif,ob_ob,ob_none,nl26v4 m]
theorem r26v4 :
  loopH (eB A36v7 (C71 u) u) N26v4 (m + 1) (s26v5 n0 n1 n2 n3 f0 f1 f2 f3 i3 i0 i1 i2 b0 w0) k =
  (bif (decide (i3 < (Int.ofNat n1))) then (bif (inb i3 n1) then (ob (F54 u (f1 i3.toNat 0).len (f1 i3.toNat 0).el w0 i0 i1 i2 b0) fun x0 => (bif (Nat.ble (n3 + 1) 1073741824) then (loopH (eB A36v7 (C71 u) u) N26v4 m (s26v5 n0 n1 n2 (n3 + 1) f0 f1 f2 (joinF n3 f3 (rowsF 1 [(ro kP x0.1 x0.2)])) (w64 (i3 + 1)) i0 i1 i2 b0 w0) k) else none)) else none) else (k (.exit 4) (s26v6 n0 n1 n2 n3 f0 f1 f2 f3 i0 i1 i2 b0 w0))) := by kernel_rfl
theorem q26v4 : ∀ (m : Nat) (x0 : Int) (x1 : Nat) (x2 : FF),
  loopH (eB A36v7 (C71 u) u) N26v4 m (s26v5 n0 n1 n2 x1 f0 f1 f2 x2 x0 i0 i1 i2 b0 w0) k = L26v4 u n0 f0 n1 f1 w0 i0 i1 i2 b0 n2 f2 m x0 x1 x2 (fun x3 x4 => k (.exit 4) (s26v6 n0 n1 n2 x3 f0 f1 f2 x4 i0 i1 i2 b0 w0))
 | 0,_,_,_ => rfl
 | m + 1,x0,x1,x2 => by
  rw [r26v4]
  simp only [L26v4,q26v4 m]
def N26v6 : St → Option St := nN 3 (0 :: 1 :: (rl 9 70 []))
def s26v7 : St := ⟨(.u :: .u :: .x (.ptr 0 0) :: .x (.ptr 1 0) :: .x (.ptr 2 0) :: .x (.c (ro (.pr (.sl kP) .nil) n0 f0)) :: vxb true :: vxi i0 :: vxi i1 :: (us 70 [])),[.box [(.c (ro kP n1 f1)),(.c (ro (.pr (.sl kP) .nil) n2 f2))],.box [(vcs w0),(vci i2),(vci i3),(vci i4),(vcb b0)],.box [(vcn),(vcn)]]⟩
def s26v8 : St := ⟨(.u :: .u :: .x (.ptr 0 0) :: .x (.ptr 1 0) :: .x (.ptr 2 0) :: .x (.c (ro (.pr (.sl kP) .nil) n0 f0)) :: vxb true :: vxi i0 :: (us 71 [])),[.box [(.c (ro kP n1 f1)),(.c (ro (.pr (.sl kP) .nil) n2 f2))],.box [(vcs w0),(vci i1),(vci i2),(vci i3),(vcb b0)],.box [(vcn),(vcn)]]⟩
def L26v6 {ρ : Type} (u : Nat) (x0 : Nat) (x1 : FF) (x2 : Int) (x3 : Nat) (x4 : FF) (x5 : Nat) (x6 : FF) (x7 : ByteArray) (x8 x9 xA : Int) (xB : Bool) : Nat → Int → (Option ρ) → Option ρ
 | 0,_,_ => none
 | m + 1,xC,k0 =>
  (bif (inb x2 x0) then (bif (decide (xC < (Int.ofNat (x1 x2.toNat 0).len))) then (L26v6 u x0 x1 x2 x3 x4 x5 x6 x7 x8 x9 xA xB m (w64 (xC + 1)) k0) else k0) else none)
theorem nl26v6 : ∀ (m : Nat) (x0 : Int) (k0 : Option ρ),ob (L26v6 u n0 f0 i0 n1 f1 n2 f2 w0 i1 i2 i3 b0 m x0 k0) ng = L26v6 u n0 f0 i0 n1 f1 n2 f2 w0 i1 i2 i3 b0 m x0 (ob k0 ng)
 | 0,_,_ => rfl
 | m + 1,x0,k0 => by
  simp only [L26v6,ob_bif,ob_ob,ob_none,nl26v6 m]
theorem r26v6 :
  loopH (eB A36v2 (C71 u) u) N26v6 (m + 1) (s26v7 n0 n1 n2 f0 f1 f2 i0 i4 i1 i2 i3 b0 w0) k =
  (bif (inb i0 n0) then (bif (decide (i4 < (Int.ofNat (f0 i0.toNat 0).len))) then (loopH (eB A36v2 (C71 u) u) N26v6 m (s26v7 n0 n1 n2 f0 f1 f2 i0 (w64 (i4 + 1)) i1 i2 i3 b0 w0) k) else (k (.exit 2) (s26v8 n0 n1 n2 f0 f1 f2 i0 i1 i2 i3 b0 w0))) else none) := by kernel_rfl
theorem q26v6 : ∀ (m : Nat) (x0 : Int),
  loopH (eB A36v2 (C71 u) u) N26v6 m (s26v7 n0 n1 n2 f0 f1 f2 i0 x0 i1 i2 i3 b0 w0) k = L26v6 u n0 f0 i0 n1 f1 n2 f2 w0 i1 i2 i3 b0 m x0 (k (.exit 2) (s26v8 n0 n1 n2 f0 f1 f2 i0 i1 i2 i3 b0 w0))
 | 0,_ => rfl
 | m + 1,x0 => by
  rw [r26v6]
  simp only [L26v6,q26v6 m]
def N26v7 : St → Option St := nN 3 (0 :: 1 :: (rl 8 71 []))
def s26v9 : St := ⟨(.u :: .u :: .x (.ptr 0 0) :: .x (.ptr 1 0) :: .x (.ptr 2 0) :: .x (.c (ro (.pr (.sl kP) .nil) n0 f0)) :: vxb true :: vxi i0 :: (us 71 [])),[.box [(.c (ro kP n1 f1)),(.c (ro (.pr (.sl kP) .nil) n2 f2))],.box [(vcs w0),(vci i1),(vci i2),(vci i3),(vcb b0)],.box [(vcn),(vcn)]]⟩
def s26v10 : St := ⟨(.u :: .u :: .x (.ptr 0 0) :: .x (.ptr 1 0) :: .x (.ptr 2 0) :: .u :: vxb true :: (us 72 [])),[.box [(.c (ro kP n0 f0)),(.c (ro (.pr (.sl kP) .nil) n1 f1))],.box [(vcs w0),(vci i0),(vci i1),(vci i2),(vcb b0)],.box [(vcn),(vcn)]]⟩
def L26v7 {ρ : Type} (u : Nat) (x0 : Nat) (x1 : FF) (x2 : Nat) (x3 : FF) (x4 : Nat) (x5 : FF) (x6 : ByteArray) (x7 x8 x9 : Int) (xA : Bool) : Nat → Int → (Option ρ) → Option ρ
 | 0,_,_ => none
 | m + 1,xB,k0 =>
  (bif (decide (xB < (Int.ofNat x0))) then (L26v6 u x0 x1 xB x2 x3 x4 x5 x6 x7 x8 x9 xA u 0
  (L26v7 u x0 x1 x2 x3 x4 x5 x6 x7 x8 x9 xA m (w64 (xB + 1)) k0)) else k0)
theorem nl26v7 : ∀ (m : Nat) (x0 : Int) (k0 : Option ρ),ob (L26v7 u n0 f0 n1 f1 n2 f2 w0 i0 i1 i2 b0 m x0 k0) ng = L26v7 u n0 f0 n1 f1 n2 f2 w0 i0 i1 i2 b0 m x0 (ob k0 ng)
 | 0,_,_ => rfl
 | m + 1,x0,k0 => by
  simp only [L26v7,ob_bif,ob_ob,ob_none,nl26v7 m,nl26v6]
def s26v11 : St := ⟨(.u :: .u :: .x (.ptr 0 0) :: .x (.ptr 1 0) :: .x (.ptr 2 0) :: .x (.c (ro (.pr (.sl kP) .nil) n0 f0)) :: vxb true :: vxi i0 :: vxi 0 :: (us 70 [])),[.box [(.c (ro kP n1 f1)),(.c (ro (.pr (.sl kP) .nil) n2 f2))],.box [(vcs w0),(vci i1),(vci i2),(vci i3),(vcb b0)],.box [(vcn),(vcn)]]⟩
theorem r26v7 :
  loopH (eB A36v5 (C71 u) u) N26v7 (m + 1) (s26v9 n0 n1 n2 f0 f1 f2 i3 i0 i1 i2 b0 w0) k =
  (bif (decide (i3 < (Int.ofNat n0))) then (loopN (eB A36v2 (C71 u) u) N26v6 u (s26v11 n0 n1 n2 f0 f1 f2 i3 i0 i1 i2 b0 w0) (kBlk 2 (kBlk 1 (kSeq (C71 u) u (8 :: (rl 32 20 [])) A36v3 (kLoop (eB A36v5 (C71 u) u) N26v7 m k))))) else (k (.exit 0) (s26v10 n1 n2 f1 f2 i0 i1 i2 b0 w0))) := by kernel_rfl
theorem t26v3 :
  loopN (eB A36v2 (C71 u) u) N26v6 u (s26v11 n0 n1 n2 f0 f1 f2 i0 i1 i2 i3 b0 w0) k =
  L26v6 u n0 f0 i0 n1 f1 n2 f2 w0 i1 i2 i3 b0 u 0 (k (.exit 2) (s26v8 n0 n1 n2 f0 f1 f2 i0 i1 i2 i3 b0 w0)) :=
 Eq.trans (loopN_at (by kernel_rfl)) (q26v6 ..)
theorem g26v4 :
  (kBlk 2 (kBlk 1 (kSeq (C71 u) u (8 :: (rl 32 20 [])) A36v3 (kLoop (eB A36v5 (C71 u) u) N26v7 m k)))) (.exit 2) (s26v8 n0 n1 n2 f0 f1 f2 i0 i1 i2 i3 b0 w0) =
  (loopH (eB A36v5 (C71 u) u) N26v7 m (s26v9 n0 n1 n2 f0 f1 f2 (w64 (i0 + 1)) i1 i2 i3 b0 w0) k) := by kernel_rfl
theorem q26v7 : ∀ (m : Nat) (x0 : Int),
  loopH (eB A36v5 (C71 u) u) N26v7 m (s26v9 n0 n1 n2 f0 f1 f2 x0 i0 i1 i2 b0 w0) k = L26v7 u n0 f0 n1 f1 n2 f2 w0 i0 i1 i2 b0 m x0 (k (.exit 0) (s26v10 n1 n2 f1 f2 i0 i1 i2 b0 w0))
 | 0,_ => rfl
 | m + 1,x0 => by
  rw [r26v7]
  simp only [L26v7,q26v7 m,t26v3,g26v4]
def FT26 (x0 : Nat) (x1 : FF) (x2 : Nat) (x3 : FF) (x4 : ByteArray) (x5 x6 x7 : Int) (x8 : Bool) : Option (Bool × Nat × FF × Nat × FF) :=
 (ob (F44 u x0 x1 x2 x3) fun x9 => (bif ((decide (x7 < 0)) == false) then (bif ((decide (x7 > 3)) == false) then (ob (F53 u x5 x6) fun xA => (L26v3 u x9.1 x9.2 x0 x1 x2 x3 x4 x5 x6 x7 x8 u xA 0
  (fun xB => (bif xB then (some (true,0,(fun _ _ => .any),0,(fun _ _ => .any))) else (ob (F54 u x0 x1 x4 x5 x6 x7 x8) fun xC => (L26v4 u x0 x1 x2 x3 x4 x5 x6 x7 x8 xC.1 xC.2 u 0 0 (fun _ _ => .any)
  (fun xD xE => (some (false,xC.1,xC.2,xD,xE))))))))) else (L26v7 u x9.1 x9.2 x0 x1 x2 x3 x4 x5 x6 x7 x8 u 0
  (some (true,0,(fun _ _ => .any),0,(fun _ _ => .any))))) else (L26v7 u x9.1 x9.2 x0 x1 x2 x3 x4 x5 x6 x7 x8 u 0
  (some (true,0,(fun _ _ => .any),0,(fun _ _ => .any))))))
def s26v12 (x0 : Nat × FF) : St := ⟨[.agg [(.c (ro kP n0 f0)),(.c (ro (.pr (.sl kP) .nil) n1 f1))],.agg [(vcs w0),(vci i0),(vci i1),(vci i2),(vcb b0)],.x (.ptr 0 0),.x (.ptr 1 0),.x (.ptr 2 0),.x (.c (ro (.pr (.sl kP) .nil) x0.1 x0.2)),vxb b1,vxi 0,uu,uu,uu,.agg [(.c (ro kP n0 f0)),(.c (ro (.pr (.sl kP) .nil) n1 f1))],.x (.c (ro (.pr (.sl kP) .nil) x0.1 x0.2)),.x (.ptr 1 3),vxi i2,vxb (decide (i2 < 0)),vxb false,.x (.ptr 1 3),vxi i2,vxb (decide (i2 > 3)),vxb (decide (i2 > 3)),vxb false,.x (.ptr 1 1),.agg [(vci i0),(vci i1)],vxb b1,vxb b1,uu,uu,uu,uu,uu,uu,uu,uu,uu,uu,uu,uu,uu,uu,uu,uu,uu,uu,uu,uu,uu,uu,uu,uu,uu,uu,uu,uu,uu,uu,uu,uu,uu,uu,uu,uu,uu,uu,uu,uu,uu,uu,uu,uu,uu,uu,uu,uu,uu,uu,uu,uu,uu],[.box [(.c (ro kP n0 f0)),(.c (ro (.pr (.sl kP) .nil) n1 f1))],.box [(vcs w0),(vci i0),(vci i1),(vci i2),(vcb b0)],.box [(vcn),(vcn)]]⟩
def s26v13 (x0 : Nat × FF) : St := ⟨[.agg [(.c (ro kP n0 f0)),(.c (ro (.pr (.sl kP) .nil) n1 f1))],.agg [(vcs w0),(vci i0),(vci i1),(vci i2),(vcb b0)],.x (.ptr 0 0),.x (.ptr 1 0),.x (.ptr 2 0),.x (.c (ro (.pr (.sl kP) .nil) x0.1 x0.2)),vxb true,vxi 0,uu,uu,uu,.agg [(.c (ro kP n0 f0)),(.c (ro (.pr (.sl kP) .nil) n1 f1))],.x (.c (ro (.pr (.sl kP) .nil) x0.1 x0.2)),.x (.ptr 1 3),vxi i2,vxb (decide (i2 < 0)),vxb false,.x (.ptr 1 3),vxi i2,vxb (decide (i2 > 3)),vxb (decide (i2 > 3)),vxb true,uu,uu,uu,vxb true,uu,uu,uu,uu,uu,uu,uu,uu,uu,uu,uu,uu,uu,uu,uu,uu,uu,uu,uu,uu,uu,uu,uu,uu,uu,uu,uu,uu,uu,uu,uu,uu,uu,uu,uu,uu,uu,uu,uu,uu,uu,uu,uu,uu,uu,uu,uu,uu,uu,uu,uu,uu,uu],[.box [(.c (ro kP n0 f0)),(.c (ro (.pr (.sl kP) .nil) n1 f1))],.box [(vcs w0),(vci i0),(vci i1),(vci i2),(vcb b0)],.box [(vcn),(vcn)]]⟩
def s26v14 (x0 : Nat × FF) : St := ⟨[.agg [(.c (ro kP n0 f0)),(.c (ro (.pr (.sl kP) .nil) n1 f1))],.agg [(vcs w0),(vci i0),(vci i1),(vci i2),(vcb b0)],.x (.ptr 0 0),.x (.ptr 1 0),.x (.ptr 2 0),.x (.c (ro (.pr (.sl kP) .nil) x0.1 x0.2)),vxb true,vxi 0,uu,uu,uu,.agg [(.c (ro kP n0 f0)),(.c (ro (.pr (.sl kP) .nil) n1 f1))],.x (.c (ro (.pr (.sl kP) .nil) x0.1 x0.2)),.x (.ptr 1 3),vxi i2,vxb (decide (i2 < 0)),vxb true,uu,uu,uu,vxb true,vxb true,uu,uu,uu,vxb true,uu,uu,uu,uu,uu,uu,uu,uu,uu,uu,uu,uu,uu,uu,uu,uu,uu,uu,uu,uu,uu,uu,uu,uu,uu,uu,uu,uu,uu,uu,uu,uu,uu,uu,uu,uu,uu,uu,uu,uu,uu,uu,uu,uu,uu,uu,uu,uu,uu,uu,uu,uu,uu],[.box [(.c (ro kP n0 f0)),(.c (ro (.pr (.sl kP) .nil) n1 f1))],.box [(vcs w0),(vci i0),(vci i1),(vci i2),(vcb b0)],.box [(vcn),(vcn)]]⟩
theorem t26v5 (x0 : Nat × FF) :
  loopN (eB A36v5 (C71 u) u) N26v3 u (s26v12 n0 n1 f0 f1 i0 i1 i2 b0 b1 w0 x0) k =
  L26v3 u x0.1 x0.2 n0 f0 n1 f1 w0 i0 i1 i2 b0 u b1 0 (fun x1 => k (.exit 0) (s26v3 n0 n1 f0 f1 i0 i1 i2 x1 b0 w0)) :=
 Eq.trans (loopN_at (by kernel_rfl)) (q26v3 ..)
def s26v15 (x0 : Nat × FF) : St := ⟨(.u :: .u :: .x (.ptr 0 0) :: .x (.ptr 1 0) :: .x (.ptr 2 0) :: .u :: vxb b0 :: .u :: .u :: .x (.ptr 3 0) :: vxi 0 :: (us 43 (.x (.ptr 0 0) :: .x (.c (ro kP n0 f0)) :: .agg [(vcs w0),(vci i0),(vci i1),(vci i2),(vcb b1)] :: .x (.c (ro kP x0.1 x0.2)) :: .agg [(.c (ro kP x0.1 x0.2)),(vcn)] :: (us 20 [])))),[.box [(.c (ro kP n0 f0)),(.c (ro (.pr (.sl kP) .nil) n1 f1))],.box [(vcs w0),(vci i0),(vci i1),(vci i2),(vcb b1)],.box [(vcn),(vcn)],.box [(.c (ro kP x0.1 x0.2)),(.own 4 0 0)],.arr (.pr (.sl kP) .nil) 0 nilF]⟩
theorem g26v6 :
  (kBlk 0 (kSeq (C71 u) u (7 :: 8 :: (rl 26 26 [])) A36v10 (finish A36))) (.exit 0) (s26v3 n0 n1 f0 f1 i0 i1 i2 b0 b1 w0) =
  (bif b0 then (some [.agg [(.ro true .nil 0 nilF),(.ro true .nil 0 nilF)]]) else (ob (F54 u n0 f0 w0 i0 i1 i2 b1) fun x0 => (loopN (eB A36v7 (C71 u) u) N26v4 u (s26v15 n0 n1 f0 f1 i0 i1 i2 b0 b1 w0 x0) (kBlk 4 (kSeq (C71 u) u (10 :: (rl 59 19 [])) A36v8 (finish A36)))))) := by kernel_rfl
theorem t26v7 (x0 : Nat × FF) :
  loopN (eB A36v7 (C71 u) u) N26v4 u (s26v15 n0 n1 f0 f1 i0 i1 i2 b0 b1 w0 x0) k =
  L26v4 u n0 f0 n1 f1 w0 i0 i1 i2 b1 x0.1 x0.2 u 0 0 nilF (fun x1 x2 => k (.exit 4) (s26v6 n0 n1 x0.1 x1 f0 f1 x0.2 x2 i0 i1 i2 b1 w0)) :=
 Eq.trans (loopN_at (by kernel_rfl)) (q26v4 ..)
theorem g26v8 (x0 : Nat × FF) :
  (kBlk 4 (kSeq (C71 u) u (10 :: (rl 59 19 [])) A36v8 (finish A36))) (.exit 4) (s26v6 n0 n1 x0.1 n2 f0 f1 x0.2 f2 i0 i1 i2 b0 w0) =
  (some [.agg [(ro kP x0.1 x0.2),(ro (.pr (.sl kP) .nil) n2 f2)]]) := by kernel_rfl
theorem t26v9 (x0 : Nat × FF) :
  loopN (eB A36v5 (C71 u) u) N26v7 u (s26v13 n0 n1 f0 f1 i0 i1 i2 b0 w0 x0) k =
  L26v7 u x0.1 x0.2 n0 f0 n1 f1 w0 i0 i1 i2 b0 u 0 (k (.exit 0) (s26v10 n0 n1 f0 f1 i0 i1 i2 b0 w0)) :=
 Eq.trans (loopN_at (by kernel_rfl)) (q26v7 ..)
theorem g26v10 :
  (kBlk 0 (kSeq (C71 u) u (7 :: 8 :: (rl 26 26 [])) A36v10 (finish A36))) (.exit 0) (s26v10 n0 n1 f0 f1 i0 i1 i2 b0 w0) =
  (some [.agg [(.ro true .nil 0 nilF),(.ro true .nil 0 nilF)]]) := by kernel_rfl
theorem t26v11 (x0 : Nat × FF) :
  loopN (eB A36v5 (C71 u) u) N26v7 u (s26v14 n0 n1 f0 f1 i0 i1 i2 b0 w0 x0) k =
  L26v7 u x0.1 x0.2 n0 f0 n1 f1 w0 i0 i1 i2 b0 u 0 (k (.exit 0) (s26v10 n0 n1 f0 f1 i0 i1 i2 b0 w0)) :=
 Eq.trans (loopN_at (by kernel_rfl)) (q26v7 ..)
theorem g26v12 :
  (kBlk 0 (kSeq (C71 u) u (7 :: 8 :: (rl 26 26 [])) A36v10 (finish A36))) (.exit 0) (s26v10 n0 n1 f0 f1 i0 i1 i2 b0 w0) =
  (some [.agg [(.ro true .nil 0 nilF),(.ro true .nil 0 nilF)]]) := by kernel_rfl
theorem e26 : evalF (C71 u) u A36 [.agg [(ro kP n0 f0),(ro (.pr (.sl kP) .nil) n1 f1)],.agg [(.s w0),(vi i0),(vi i1),(vi i2),(.b b0)]] = ob (FT26 u n0 f0 n1 f1 w0 i0 i1 i2 b0) fun t => some (bif t.1 then [.agg [(.ro true .nil 0 nilF),(.ro true .nil 0 nilF)]] else [.agg [(ro kP t.2.1 t.2.2.1),(ro (.pr (.sl kP) .nil) t.2.2.2.1 t.2.2.2.2)]]) := Eq.trans (b := (ob (F44 u n0 f0 n1 f1) fun x0 => (bif ((decide (i2 < 0)) == false) then (bif ((decide (i2 > 3)) == false) then (ob (F53 u i0 i1) fun x1 => (loopN (eB A36v5 (C71 u) u) N26v3 u (s26v12 n0 n1 f0 f1 i0 i1 i2 b0 x1 w0 x0) (kBlk 0 (kSeq (C71 u) u (7 :: 8 :: (rl 26 26 [])) A36v10 (finish A36))))) else (loopN (eB A36v5 (C71 u) u) N26v7 u (s26v13 n0 n1 f0 f1 i0 i1 i2 b0 w0 x0) (kBlk 0 (kSeq (C71 u) u (7 :: 8 :: (rl 26 26 [])) A36v10 (finish A36))))) else (loopN (eB A36v5 (C71 u) u) N26v7 u (s26v14 n0 n1 f0 f1 i0 i1 i2 b0 w0 x0) (kBlk 0 (kSeq (C71 u) u (7 :: 8 :: (rl 26 26 [])) A36v10 (finish A36))))))) (by kernel_rfl) (by
 simp only [FT26,ob_bif,ob_ob,ob_none,ob_some,nl26v3,nl26v4,nl26v7,t26v5,g26v6,t26v7,g26v8,t26v9,g26v10,t26v11,g26v12,cond_true,cond_false])
def F26 (x0 : Nat) (x1 : FF) (x2 : Nat) (x3 : FF) (x4 : ByteArray) (x5 x6 x7 : Int) (x8 : Bool) : Option (Nat × FF × Nat × FF) := ob (FT26 u x0 x1 x2 x3 x4 x5 x6 x7 x8) fun t => some (bif t.1 then (0,(fun _ _ => .any),0,(fun _ _ => .any)) else (t.2.1,t.2.2.1,t.2.2.2.1,t.2.2.2.2))
def O26 : Ora := mkO (qc (ag (tc (cL kP) (t1 (cL (.pr (.sl kP) .nil))))) (q1 (ag (tc cS (tc ci (tc ci (tc ci (t1 cB)))))))) (fun x => F26 u x.1.1.1 x.1.1.2 x.1.2.1 x.1.2.2 x.2.1 x.2.2.1 x.2.2.2.1 x.2.2.2.2.1 x.2.2.2.2.2) fun t => [.agg [(ro kP t.1 t.2.1),(ro (.pr (.sl kP) .nil) t.2.2.1 t.2.2.2)]]
theorem d26 : DO (O26 u) (C71 u) 36 A36 := dW u (fun x => by exact e26 u x.1.1.1 x.1.2.1 x.1.1.2 x.1.2.2 x.2.2.1 x.2.2.2.1 x.2.2.2.2.1 x.2.2.2.2.2 x.2.1) (fun _ => rfl) fun t => by
 obtain ⟨b,t⟩ := t
 cases b with
 | true => exact (.cons (WkA.agg (.cons (Wk.ro (by rfl)) (.cons (Wk.ro (by rfl)) .nil))) .nil)
 | false =>
  exact (.cons (WkA.agg (.cons (Wk.refl _) (.cons (Wk.refl _) .nil))) .nil)
def C72 : Oracle := (C71 u).add 36 (fun _ => true) (O26 u)
def A26v1 : AC := (.seq (.region 8 [o1 24 (fa 61 3 0 0),o1 25 (fa 41 24 0 0),o1 26 (lo 3 25),o1 27 (fa 41 5 0 0),o1 28 (lo 3 27),o1 29 (.mm false [(tm 26),(tm 28)] [3,3]),o1 30 (fa 61 3 0 0),o1 31 (fa 41 30 1 1),o1 32 (lo 3 31),o1 33 (fa 41 5 1 1),o1 34 (lo 3 33),o1 35 (.mm false [(tm 32),(tm 34)] [3,3]),o1 36 (.build 41 [vci 0,vci 0] [(0,1),(1,1)] 0 [(0,(tm 29)),(1,(tm 35))]),o1 37 (fa 61 3 0 0),o0 (.store 41 2 (tm 37) (tm 36))] 0 none) []
 (.region 9 [o1 38 (fa 61 3 1 2),o1 39 (fa 41 38 0 0),o1 40 (lo 3 39),o1 41 (fa 41 5 0 0),o1 42 (lo 3 41),o1 43 (.mm true [(tm 40),(tm 42)] [3,3]),o1 44 (fa 61 3 1 2),o1 45 (fa 41 44 1 1),o1 46 (lo 3 45),o1 47 (fa 41 5 1 1),o1 48 (lo 3 47),o1 49 (.mm true [(tm 46),(tm 48)] [3,3]),o1 50 (.build 41 [vci 0,vci 0] [(0,1),(1,1)] 0 [(0,(tm 43)),(1,(tm 49))]),o1 51 (fa 61 3 1 2),o0 (.store 41 2 (tm 51) (tm 50))] 0 none))
def A26v2 : AC := (.region 4 [mv 12 4,o1 13 (bk .add 3 12 1),o1 4 (sg 13)] 0 none)
def A26v3 : AC := (.seq (.block 1
 (.seq (.region 5 [o1 14 (fa 50 1 0 0),o1 15 (lo 47 14),mv 16 4,o1 17 (.indexAddr 47 41 2 (tm 15) (tm 16)),o1 18 (ln 41 2 17),o1 5 (.alloc 0 41 [vci 0,vci 0]),o0 (.store 41 2 (tm 5) (tm 18))] 1 none) []
  (.seq (.seq (.region 6 [mv 19 4,o1 20 (bk .eql 3 19 0)] 0 none) []
  (.cond (tm 20)
  (.region 7 [o1 21 (ln 41 2 5),o1 22 (ln 41 2 5),o1 23 (.build 61 [vci 0,vci 0,vci 0,vci 0] [(0,2),(2,2)] 0 [(0,(tm 21)),(1,(tm 22))]),o0 (.store 61 4 (tm 3) (tm 23))] 0 none)
  .skip)) (rl 19 5 [])
  A26v1))) (5 :: (rl 14 38 []))
 A26v2)
def A26v4 : AC := (.seq (.seq (.region 3 [mv 7 4,o1 8 (fa 50 1 0 0),o1 9 (lo 47 8),o1 10 (.len 47 false (tm 9)),o1 11 (bt .lss 3 7 10)] 0 none) []
 (.cond (tm 11)
 .skip
 (.exit 0 (0 :: 1 :: (rl 4 49 []))))) (rl 7 5 [])
 A26v3)
def A26v5 : AC := (.seq (.region 10 [o1 52 (ln 61 4 3),o0 (.store 61 4 (tm 2) (tm 52))] 0 none) []
 (.ret (0 :: 1 :: (rl 3 50 []))))
def A26 : AF := ⟨53,[.cell 2 61 (some 4)],
 (.seq (.region 0 [o1 1 (bx 0 50 0),o1 2 (.alloc 1 61 [vci 0,vci 0,vci 0,vci 0])] 2 none) []
 (.seq (.region 1 [o1 6 (.build 61 [vci 0,vci 0,vci 0,vci 0] [(0,2),(2,2)] 0 []),o1 3 (.alloc 0 61 [vci 0,vci 0,vci 0,vci 0]),o0 (.store 61 4 (tm 3) (tm 6))] 1 none) []
 (.seq (.seq (.region 2 [o1 4 (sk 0)] 0 none) []
 (.block 0
 (.loop [] (0 :: (rl 5 48 []))
  A26v4))) (4 :: 5 :: (rl 7 45 []))
 A26v5)))⟩
def N21v1 : St → Option St := nN 3 (0 :: (rl 5 48 []))
def s21v0 : St := ⟨(.u :: .x (.ptr 0 0) :: .x (.ptr 1 0) :: .x (.ptr 2 0) :: vxi i0 :: (us 48 [])),[.box [(.c (ro kP n0 f0)),(.c (ro (.pr (.sl kP) .nil) n1 f1))],.box [(vci 0),(vci 0),(vci 0),(vci 0)],.box [(vci i1),(vci i2),(vci i3),(vci i4)]]⟩
def s21v1 : St := ⟨(.u :: .u :: .x (.ptr 1 0) :: .x (.ptr 2 0) :: (us 49 [])),[.box [(.c (ro kP n0 f0)),(.c (ro (.pr (.sl kP) .nil) n1 f1))],.box [(vci 0),(vci 0),(vci 0),(vci 0)],.box [(vci i0),(vci i1),(vci i2),(vci i3)]]⟩
def L21v1 {ρ : Type} (u : Nat) (x0 : Nat) (x1 : FF) (x2 : Nat) (x3 : FF) : Nat → Int → Int → Int → Int → Int → (Int → Int → Int → Int → Option ρ) → Option ρ
 | 0,_,_,_,_,_,_ => none
 | m + 1,x4,x5,x6,x7,x8,k0 =>
  (bif (decide (x4 < (Int.ofNat x0))) then (bif (inb x4 x0) then (bif (x4 == 0) then (L21v1 u x0 x1 x2 x3 m (w64 (x4 + 1)) (if (x1 x4.toNat 0).int < (x1 x4.toNat 0).int then (x1 x4.toNat 0).int else (x1 x4.toNat 0).int) (if (x1 x4.toNat 1).int < (x1 x4.toNat 1).int then (x1 x4.toNat 1).int else (x1 x4.toNat 1).int) (if (x1 x4.toNat 0).int > (x1 x4.toNat 0).int then (x1 x4.toNat 0).int else (x1 x4.toNat 0).int) (if (x1 x4.toNat 1).int > (x1 x4.toNat 1).int then (x1 x4.toNat 1).int else (x1 x4.toNat 1).int) k0) else (L21v1 u x0 x1 x2 x3 m (w64 (x4 + 1)) (if (x1 x4.toNat 0).int < x5 then (x1 x4.toNat 0).int else x5) (if (x1 x4.toNat 1).int < x6 then (x1 x4.toNat 1).int else x6) (if (x1 x4.toNat 0).int > x7 then (x1 x4.toNat 0).int else x7) (if (x1 x4.toNat 1).int > x8 then (x1 x4.toNat 1).int else x8) k0)) else none) else (k0 x5 x6 x7 x8))
theorem nl21v1 : ∀ (m : Nat) (x0 x1 x2 x3 x4 : Int) (k0 : Int → Int → Int → Int → Option ρ),ob (L21v1 u n0 f0 n1 f1 m x0 x1 x2 x3 x4 k0) ng = L21v1 u n0 f0 n1 f1 m x0 x1 x2 x3 x4 (fun x5 x6 x7 x8 => ob (k0 x5 x6 x7 x8) ng)
 | 0,_,_,_,_,_,_ => rfl
 | m + 1,x0,x1,x2,x3,x4,k0 => by
  simp only [L21v1,ob_bif,ob_ob,ob_none,nl21v1 m]
theorem r21v1 :
  loopH (eB A26v4 (C72 u) u) N21v1 (m + 1) (s21v0 n0 n1 f0 f1 i0 i1 i2 i3 i4) k =
  (bif (decide (i0 < (Int.ofNat n0))) then (bif (inb i0 n0) then (bif (i0 == 0) then (loopH (eB A26v4 (C72 u) u) N21v1 m (s21v0 n0 n1 f0 f1 (w64 (i0 + 1)) (if (f0 i0.toNat 0).int < (f0 i0.toNat 0).int then (f0 i0.toNat 0).int else (f0 i0.toNat 0).int) (if (f0 i0.toNat 1).int < (f0 i0.toNat 1).int then (f0 i0.toNat 1).int else (f0 i0.toNat 1).int) (if (f0 i0.toNat 0).int > (f0 i0.toNat 0).int then (f0 i0.toNat 0).int else (f0 i0.toNat 0).int) (if (f0 i0.toNat 1).int > (f0 i0.toNat 1).int then (f0 i0.toNat 1).int else (f0 i0.toNat 1).int)) k) else (loopH (eB A26v4 (C72 u) u) N21v1 m (s21v0 n0 n1 f0 f1 (w64 (i0 + 1)) (if (f0 i0.toNat 0).int < i1 then (f0 i0.toNat 0).int else i1) (if (f0 i0.toNat 1).int < i2 then (f0 i0.toNat 1).int else i2) (if (f0 i0.toNat 0).int > i3 then (f0 i0.toNat 0).int else i3) (if (f0 i0.toNat 1).int > i4 then (f0 i0.toNat 1).int else i4)) k)) else none) else (k (.exit 0) (s21v1 n0 n1 f0 f1 i1 i2 i3 i4))) := by kernel_rfl
theorem q21v1 : ∀ (m : Nat) (x0 x1 x2 x3 x4 : Int),
  loopH (eB A26v4 (C72 u) u) N21v1 m (s21v0 n0 n1 f0 f1 x0 x1 x2 x3 x4) k = L21v1 u n0 f0 n1 f1 m x0 x1 x2 x3 x4 (fun x5 x6 x7 x8 => k (.exit 0) (s21v1 n0 n1 f0 f1 x5 x6 x7 x8))
 | 0,_,_,_,_,_ => rfl
 | m + 1,x0,x1,x2,x3,x4 => by
  rw [r21v1]
  simp only [L21v1,q21v1 m]
def F21 (x0 : Nat) (x1 : FF) (x2 : Nat) (x3 : FF) : Option (Int × Int × Int × Int) :=
 (L21v1 u x0 x1 x2 x3 u 0 0 0 0 0
  (fun x4 x5 x6 x7 => (some (x4,x5,x6,x7))))
def s21v2 : St := ⟨[.agg [(.c (ro kP n0 f0)),(.c (ro (.pr (.sl kP) .nil) n1 f1))],.x (.ptr 0 0),.x (.ptr 1 0),.x (.ptr 2 0),vxi 0,uu,.agg [(vci 0),(vci 0),(vci 0),(vci 0)],uu,uu,uu,uu,uu,uu,uu,uu,uu,uu,uu,uu,uu,uu,uu,uu,uu,uu,uu,uu,uu,uu,uu,uu,uu,uu,uu,uu,uu,uu,uu,uu,uu,uu,uu,uu,uu,uu,uu,uu,uu,uu,uu,uu,uu,uu],[.box [(.c (ro kP n0 f0)),(.c (ro (.pr (.sl kP) .nil) n1 f1))],.box [(vci 0),(vci 0),(vci 0),(vci 0)],.box [(vci 0),(vci 0),(vci 0),(vci 0)]]⟩
theorem t21v1 :
  loopN (eB A26v4 (C72 u) u) N21v1 u (s21v2 n0 n1 f0 f1) k =
  L21v1 u n0 f0 n1 f1 u 0 0 0 0 0 (fun x0 x1 x2 x3 => k (.exit 0) (s21v1 n0 n1 f0 f1 x0 x1 x2 x3)) :=
 Eq.trans (loopN_at (by kernel_rfl)) (q21v1 ..)
theorem g21v2 :
  (kBlk 0 (kSeq (C72 u) u (4 :: 5 :: (rl 7 45 [])) A26v5 (finish A26))) (.exit 0) (s21v1 n0 n1 f0 f1 i0 i1 i2 i3) =
  (some [.agg [(vi i0),(vi i1),(vi i2),(vi i3)]]) := by kernel_rfl
theorem e21 : evalF (C72 u) u A26 [.agg [(ro kP n0 f0),(ro (.pr (.sl kP) .nil) n1 f1)]] = ob (F21 u n0 f0 n1 f1) fun t => some [.agg [(vi t.1),(vi t.2.1),(vi t.2.2.1),(vi t.2.2.2)]] := Eq.trans (b := (loopN (eB A26v4 (C72 u) u) N21v1 u (s21v2 n0 n1 f0 f1) (kBlk 0 (kSeq (C72 u) u (4 :: 5 :: (rl 7 45 [])) A26v5 (finish A26))))) (by kernel_rfl) (by
 simp only [F21,ob_bif,ob_ob,ob_none,ob_some,nl21v1,t21v1,g21v2])
def O21 : Ora := mkO (q1 (ag (tc (cL kP) (t1 (cL (.pr (.sl kP) .nil)))))) (fun x => F21 u x.1.1 x.1.2 x.2.1 x.2.2) fun t => [.agg [(vi t.1),(vi t.2.1),(vi t.2.2.1),(vi t.2.2.2)]]
theorem d21 : DO (O21 u) (C72 u) 26 A26 := dO u (fun x => by exact e21 u x.1.1 x.2.1 x.1.2 x.2.2)
def C73 : Oracle := (C72 u).add 26 (fun _ => true) (O21 u)
def A59v1 : AC := (.seq (.region 3 [o1 38 (ln 50 2 4),o1 39 (cs 26 [38] [50]),o1 9 (.alloc 0 61 [vci 0,vci 0,vci 0,vci 0]),o0 (.store 61 4 (tm 9) (tm 39))] 1 none) []
 (.seq (.region 4 [o1 40 (fa 61 9 0 0),o1 41 (fa 41 40 0 0),o1 42 (lo 3 41),mv 43 3,o1 44 (bt .geq 3 42 43),mv 45 44,og 46 (fa 61 9 0 0) 45 true,og 47 (fa 41 46 1 1) 45 true,og 48 (lo 3 47) 45 true,og 49 (.move (tm 3)) 45 true,og 50 (bt .geq 3 48 49) 45 true,o1 51 (po 45 50),mv 52 51,og 53 (fa 61 9 1 2) 52 true,og 54 (fa 41 53 0 0) 52 true,og 55 (lo 3 54) 52 true,og 56 (.move (tm 1)) 52 true,og 57 (.move (tm 3)) 52 true,og 58 (bt .sub 3 56 57) 52 true,og 59 (bt .leq 3 55 58) 52 true,o1 60 (po 52 59),mv 61 60,og 62 (fa 61 9 1 2) 61 true,og 63 (fa 41 62 1 1) 61 true,og 64 (lo 3 63) 61 true,og 65 (.move (tm 2)) 61 true,og 66 (.move (tm 3)) 61 true,og 67 (bt .sub 3 65 66) 61 true,og 68 (bt .leq 3 64 67) 61 true,o1 69 (po 61 68),o1 8 (sg 69)] 0 none) []
 (.ret (rl 0 8 (rl 9 61 [])))))
def A59 : AF := ⟨70,[.tmp 8],
 (.seq (.region 0 [o1 4 (bx 0 50 0),o1 8 (sb false)] 1 none) []
 (.seq (.seq (.region 1 [o1 10 (fa 50 4 0 0),o1 11 (lo 47 10),o1 12 (.len 47 false (tm 11)),o1 13 (bk .eql 3 12 0),mv 14 13,og 15 (.move (tm 1)) 14 false,og 16 (bk .lss 3 15 0) 14 false,o1 17 (pa 14 16),mv 18 17,og 19 (.move (tm 1)) 18 false,og 20 (bk .gtr 3 19 32768) 18 false,o1 21 (pa 18 20),mv 22 21,og 23 (.move (tm 2)) 22 false,og 24 (bk .lss 3 23 0) 22 false,o1 25 (pa 22 24),mv 26 25,og 27 (.move (tm 2)) 26 false,og 28 (bk .gtr 3 27 32768) 26 false,o1 29 (pa 26 28),mv 30 29,og 31 (.move (tm 3)) 30 false,og 32 (bk .lss 3 31 0) 30 false,o1 33 (pa 30 32),mv 34 33,og 35 (.move (tm 3)) 34 false,og 36 (bk .gtr 3 35 1000) 34 false,o1 37 (pa 34 36)] 0 none) []
 (.cond (tm 37)
 (.seq (.region 2 [o1 8 (sb false)] 0 none) []
  (.ret (rl 0 8 (rl 9 61 []))))
 .skip)) (8 :: (rl 10 28 []))
 A59v1))⟩
def F30 (x0 : Nat) (x1 : FF) (x2 : Nat) (x3 : FF) (x4 x5 x6 : Int) : Option (Bool) :=
 (bif (((Int.ofNat x0) == 0) == false) then (bif ((decide (x4 < 0)) == false) then (bif ((decide (x4 > 32768)) == false) then (bif ((decide (x5 < 0)) == false) then (bif ((decide (x5 > 32768)) == false) then (bif ((decide (x6 < 0)) == false) then (bif (decide (x6 > 1000)) then (some false) else (ob (F21 u x0 x1 x2 x3) fun x7 => (bif ((decide (x7.1 ≥ x6)) == true) then (bif ((decide (x7.2.1 ≥ x6)) == true) then (bif ((decide (x7.2.2.1 ≤ (w64 (x4 - x6)))) == true) then (some (decide (x7.2.2.2 ≤ (w64 (x5 - x6))))) else (some false)) else (some false)) else (some false)))) else (some false)) else (some false)) else (some false)) else (some false)) else (some false)) else (some false))
theorem e30 : evalF (C73 u) u A59 [.agg [(ro kP n0 f0),(ro (.pr (.sl kP) .nil) n1 f1)],.v (vi i0),.v (vi i1),.v (vi i2)] = ob (F30 u n0 f0 n1 f1 i0 i1 i2) fun t => some [.v (.b t)] := Eq.trans (b := (bif (((Int.ofNat n0) == 0) == false) then (bif ((decide (i0 < 0)) == false) then (bif ((decide (i0 > 32768)) == false) then (bif ((decide (i1 < 0)) == false) then (bif ((decide (i1 > 32768)) == false) then (bif ((decide (i2 < 0)) == false) then (bif (decide (i2 > 1000)) then (some [.v (.b false)]) else (ob (F21 u n0 f0 n1 f1) fun x0 => (bif ((decide (x0.1 ≥ i2)) == true) then (bif ((decide (x0.2.1 ≥ i2)) == true) then (bif ((decide (x0.2.2.1 ≤ (w64 (i0 - i2)))) == true) then (some [.v (.b (decide (x0.2.2.2 ≤ (w64 (i1 - i2)))))]) else (some [.v (.b false)])) else (some [.v (.b false)])) else (some [.v (.b false)])))) else (some [.v (.b false)])) else (some [.v (.b false)])) else (some [.v (.b false)])) else (some [.v (.b false)])) else (some [.v (.b false)])) else (some [.v (.b false)]))) (by kernel_rfl) (by
 simp only [F30,ob_bif,ob_ob,ob_none,ob_some])
def O30 : Ora := mkO (qc (ag (tc (cL kP) (t1 (cL (.pr (.sl kP) .nil))))) (qc (av ci) (qc (av ci) (q1 (av ci))))) (fun x => F30 u x.1.1.1 x.1.1.2 x.1.2.1 x.1.2.2 x.2.1 x.2.2.1 x.2.2.2) fun t => [.v (.b t)]
theorem d30 : DO (O30 u) (C73 u) 59 A59 := dO u (fun x => by exact e30 u x.1.1.1 x.1.2.1 x.1.1.2 x.1.2.2 x.2.1 x.2.2.1 x.2.2.2)
def C74 : Oracle := (C73 u).add 59 (fun _ => true) (O30 u)
def A80v1 : AC := (.seq (.block 1
 (.region 7 [mv 21 5,o1 22 (fa 50 2 1 1),o1 23 (lo 48 22),mv 24 6,o1 25 (.indexAddr 48 47 1 (tm 23) (tm 24)),o1 26 (lo 47 25),o1 27 (ln 41 2 3),o1 28 (cs 79 [26,27] [47,41]),o1 29 (.unOp .neg 3 (tm 28)),o1 30 (.mm false [(tm 21),(tm 29)] [3,3]),o1 5 (sg 30)] 0 (some [[],[],[1],[],[1,2,3],(rl 1 4 []),[],(rl 1 6 []),(rl 1 7 []),(rl 0 9 []),(rl 0 10 [])]))) []
 (.region 6 [mv 19 6,o1 20 (bk .add 3 19 1),o1 6 (sg 20)] 0 none))
def A80v2 : AC := (.seq (.seq (.region 5 [mv 14 6,o1 15 (fa 50 2 1 1),o1 16 (lo 48 15),o1 17 (.len 48 false (tm 16)),o1 18 (bt .lss 3 14 17)] 0 none) []
 (.cond (tm 18)
 .skip
 (.exit 0 (rl 0 5 (rl 6 26 []))))) (rl 14 5 [])
 A80v1)
def A80v3 : AC := (.seq (.region 8 [mv 31 5,o1 4 (sg 31)] 0 none) []
 (.ret (rl 0 4 (rl 5 27 []))))
def A80v4 : AC := (.seq (.region 3 [o1 10 (fa 50 2 0 0),o1 11 (lo 47 10),o1 12 (ln 41 2 3),o1 13 (cs 79 [11,12] [47,41]),o1 5 (sg 13)] 0 none) []
 (.seq (.seq (.region 4 [o1 6 (sk 0)] 0 none) []
 (.block 0
 (.loop [] (0 :: 1 :: 4 :: (rl 7 25 []))
  A80v2))) (6 :: (rl 14 17 []))
 A80v3))
def A80 : AF := ⟨32,[.tmp 4],
 (.seq (.region 0 [o1 2 (bx 0 50 0),o1 3 (bx 1 41 1),o1 4 (sk 0)] 2 none) []
 (.seq (.seq (.region 1 [o1 7 (ln 50 2 2),o1 8 (cs 58 [7] [50]),o1 9 (bk .neq 31 8 0)] 0 none) []
 (.cond (tm 9)
 (.seq (.region 2 [o1 4 (sk (-1))] 0 none) []
  (.ret (rl 0 4 (rl 5 27 []))))
 .skip)) [4,7,8,9]
 A80v4))⟩
def N23v1 : St → Option St := nN 2 (0 :: 1 :: 4 :: (rl 7 25 []))
def s23v0 : St := ⟨(.u :: .u :: .x (.ptr 0 0) :: .x (.ptr 1 0) :: .u :: vxi i0 :: vxi i1 :: (us 25 [])),[.box [(.c (ro kP n0 f0)),(.c (ro (.pr (.sl kP) .nil) n1 f1))],.box [(vci i2),(vci i3)]]⟩
def s23v1 : St := ⟨(us 5 (vxi i0 :: (us 26 []))),[.box [(.c (ro kP n0 f0)),(.c (ro (.pr (.sl kP) .nil) n1 f1))],.box [(vci i1),(vci i2)]]⟩
def L23v1 {ρ : Type} (u : Nat) (x0 : Nat) (x1 : FF) (x2 : Nat) (x3 : FF) (x4 x5 : Int) : Nat → Int → Int → (Int → Option ρ) → Option ρ
 | 0,_,_,_ => none
 | m + 1,x6,x7,k0 =>
  (bif (decide (x7 < (Int.ofNat x2))) then (bif (inb x7 x2) then (ob (F40 u (x3 x7.toNat 0).len (x3 x7.toNat 0).el x4 x5) fun x8 => (L23v1 u x0 x1 x2 x3 x4 x5 m (if (w64 (0 - x8)) < x6 then (w64 (0 - x8)) else x6) (w64 (x7 + 1)) k0)) else none) else (k0 x6))
theorem nl23v1 : ∀ (m : Nat) (x0 x1 : Int) (k0 : Int → Option ρ),ob (L23v1 u n0 f0 n1 f1 i0 i1 m x0 x1 k0) ng = L23v1 u n0 f0 n1 f1 i0 i1 m x0 x1 (fun x2 => ob (k0 x2) ng)
 | 0,_,_,_ => rfl
 | m + 1,x0,x1,k0 => by
  simp only [L23v1,ob_bif,ob_ob,ob_none,nl23v1 m]
theorem r23v1 :
  loopH (eB A80v2 (C74 u) u) N23v1 (m + 1) (s23v0 n0 n1 f0 f1 i2 i3 i0 i1) k =
  (bif (decide (i3 < (Int.ofNat n1))) then (bif (inb i3 n1) then (ob (F40 u (f1 i3.toNat 0).len (f1 i3.toNat 0).el i0 i1) fun x0 => (loopH (eB A80v2 (C74 u) u) N23v1 m (s23v0 n0 n1 f0 f1 (if (w64 (0 - x0)) < i2 then (w64 (0 - x0)) else i2) (w64 (i3 + 1)) i0 i1) k)) else none) else (k (.exit 0) (s23v1 n0 n1 f0 f1 i2 i0 i1))) := by kernel_rfl
theorem q23v1 : ∀ (m : Nat) (x0 x1 : Int),
  loopH (eB A80v2 (C74 u) u) N23v1 m (s23v0 n0 n1 f0 f1 x0 x1 i0 i1) k = L23v1 u n0 f0 n1 f1 i0 i1 m x0 x1 (fun x2 => k (.exit 0) (s23v1 n0 n1 f0 f1 x2 i0 i1))
 | 0,_,_ => rfl
 | m + 1,x0,x1 => by
  rw [r23v1]
  simp only [L23v1,q23v1 m]
def F23 (x0 : Nat) (x1 : FF) (x2 : Nat) (x3 : FF) (x4 x5 : Int) : Option (Int) :=
 (ob (F14 u x0 x1 x2 x3) fun x6 => (bif (x6 != 0) then (some (-1)) else (ob (F40 u x0 x1 x4 x5) fun x7 => (L23v1 u x0 x1 x2 x3 x4 x5 u x7 0
  (fun x8 => (some x8))))))
def s23v2 : St := ⟨(.agg [(.c (ro kP n0 f0)),(.c (ro (.pr (.sl kP) .nil) n1 f1))] :: .agg [(vci i0),(vci i1)] :: .x (.ptr 0 0) :: .x (.ptr 1 0) :: .u :: vxi i2 :: vxi 0 :: (us 3 [.x (.ptr 0 0),.x (.c (ro kP n0 f0)),.agg [(vci i0),(vci i1)],vxi i2,uu,uu,uu,uu,uu,uu,uu,uu,uu,uu,uu,uu,uu,uu,uu,uu,uu,uu])),[.box [(.c (ro kP n0 f0)),(.c (ro (.pr (.sl kP) .nil) n1 f1))],.box [(vci i0),(vci i1)]]⟩
theorem t23v1 :
  loopN (eB A80v2 (C74 u) u) N23v1 u (s23v2 n0 n1 f0 f1 i0 i1 i2) k =
  L23v1 u n0 f0 n1 f1 i0 i1 u i2 0 (fun x0 => k (.exit 0) (s23v1 n0 n1 f0 f1 x0 i0 i1)) :=
 Eq.trans (loopN_at (by kernel_rfl)) (q23v1 ..)
theorem g23v2 :
  (kBlk 0 (kSeq (C74 u) u (6 :: (rl 14 17 [])) A80v3 (finish A80))) (.exit 0) (s23v1 n0 n1 f0 f1 i0 i1 i2) =
  (some [.v (vi i0)]) := by kernel_rfl
theorem e23 : evalF (C74 u) u A80 [.agg [(ro kP n0 f0),(ro (.pr (.sl kP) .nil) n1 f1)],.agg [(vi i0),(vi i1)]] = ob (F23 u n0 f0 n1 f1 i0 i1) fun t => some [.v (vi t)] := Eq.trans (b := (ob (F14 u n0 f0 n1 f1) fun x0 => (bif (x0 != 0) then (some [.v (vi (-1))]) else (ob (F40 u n0 f0 i0 i1) fun x1 => (loopN (eB A80v2 (C74 u) u) N23v1 u (s23v2 n0 n1 f0 f1 i0 i1 x1) (kBlk 0 (kSeq (C74 u) u (6 :: (rl 14 17 [])) A80v3 (finish A80)))))))) (by kernel_rfl) (by
 simp only [F23,ob_bif,ob_ob,ob_none,ob_some,nl23v1,t23v1,g23v2])
def O23 : Ora := mkO (qc (ag (tc (cL kP) (t1 (cL (.pr (.sl kP) .nil))))) (q1 (ag (tc ci (t1 ci))))) (fun x => F23 u x.1.1.1 x.1.1.2 x.1.2.1 x.1.2.2 x.2.1 x.2.2) fun t => [.v (vi t)]
theorem d23 : DO (O23 u) (C74 u) 80 A80 := dO u (fun x => by exact e23 u x.1.1.1 x.1.2.1 x.1.1.2 x.1.2.2 x.2.1 x.2.2)
def C75 : Oracle := (C74 u).add 80 (fun _ => true) (O23 u)
def A93v1 : AC := (.seq (.region 12 [mv 100 17,o1 101 (bk .lss 3 100 2147483648),mv 102 101,og 103 (.move (tm 17)) 102 true,og 104 (.move (tm 17)) 102 true,og 105 (bt .mul 3 103 104) 102 true,og 106 (.move (tm 3)) 102 true,og 107 (.move (tm 3)) 102 true,og 108 (bt .mul 3 106 107) 102 true,og 109 (.move (tm 13)) 102 true,og 110 (bt .mul 3 108 109) 102 true,og 111 (bt .lss 3 105 110) 102 true,o1 112 (po 102 111),o1 8 (sg 112)] 0 none) []
 (.ret (rl 0 8 (rl 9 104 []))))
def A93v2 : AC := (.seq (.region 9 [mv 89 9,mv 90 12,o1 91 (bt .mul 3 89 90),mv 92 10,mv 93 11,o1 94 (bt .mul 3 92 93),o1 95 (bt .sub 3 91 94),o1 17 (sg 95)] 0 none) []
 (.seq (.seq (.region 10 [mv 96 17,o1 97 (bk .lss 3 96 0)] 0 none) []
 (.cond (tm 97)
 (.region 11 [mv 98 17,o1 99 (.unOp .neg 3 (tm 98)),o1 17 (sg 99)] 0 none)
 .skip)) (rl 96 4 [])
 A93v1))
def A93v3 : AC := (.seq (.seq (.region 6 [mv 65 14,mv 66 13,o1 67 (bt .geq 3 65 66)] 0 none) []
 (.cond (tm 67)
 (.seq (.region 7 [o1 68 (fa 41 6 0 0),o1 69 (lo 3 68),o1 70 (fa 41 5 0 0),o1 71 (lo 3 70),o1 72 (bt .sub 3 69 71),o1 73 (fa 41 6 1 1),o1 74 (lo 3 73),o1 75 (fa 41 5 1 1),o1 76 (lo 3 75),o1 77 (bt .sub 3 74 76),o1 15 (sg 72),o1 16 (sg 77)] 0 (some [[],[0],[],[2],(rl 0 4 []),[],[5],[],[7],(rl 5 4 []),(rl 0 5 []),(rl 0 11 [])])) []
  (.seq (.region 8 [mv 78 15,mv 79 15,o1 80 (bt .mul 3 78 79),mv 81 16,mv 82 16,o1 83 (bt .mul 3 81 82),o1 84 (bt .add 3 80 83),mv 85 3,mv 86 3,o1 87 (bt .mul 3 85 86),o1 88 (bt .lss 3 84 87),o1 8 (sg 88)] 0 none) []
  (.ret (rl 0 8 (rl 9 104 [])))))
 .skip)) (8 :: 15 :: 16 :: (rl 65 24 []))
 A93v2)
def A93 : AF := ⟨113,[.tmp 8],
 (.seq (.region 0 [o1 4 (bx 0 41 0),o1 5 (bx 1 41 1),o1 6 (bx 2 41 2),o1 8 (sb false)] 3 none) []
 (.seq (.region 1 [o1 18 (fa 41 5 0 0),o1 19 (lo 3 18),o1 20 (fa 41 4 0 0),o1 21 (lo 3 20),o1 22 (bt .sub 3 19 21),o1 23 (fa 41 5 1 1),o1 24 (lo 3 23),o1 25 (fa 41 4 1 1),o1 26 (lo 3 25),o1 27 (bt .sub 3 24 26),o1 28 (fa 41 6 0 0),o1 29 (lo 3 28),o1 30 (fa 41 4 0 0),o1 31 (lo 3 30),o1 32 (bt .sub 3 29 31),o1 33 (fa 41 6 1 1),o1 34 (lo 3 33),o1 35 (fa 41 4 1 1),o1 36 (lo 3 35),o1 37 (bt .sub 3 34 36),o1 9 (sg 22),o1 10 (sg 27),o1 11 (sg 32),o1 12 (sg 37)] 0 (some [[],[0],[],[2],(rl 0 4 []),[],[5],[],[7],(rl 5 4 []),[],[10],[],[12],(rl 10 4 []),[],[15],[],[17],(rl 15 4 []),(rl 0 5 []),(rl 0 10 [20]),(rl 0 15 [20,21]),(rl 0 23 [])])) []
 (.seq (.region 2 [mv 38 9,mv 39 9,o1 40 (bt .mul 3 38 39),mv 41 10,mv 42 10,o1 43 (bt .mul 3 41 42),o1 44 (bt .add 3 40 43),o1 13 (sg 44)] 0 none) []
 (.seq (.region 3 [mv 45 9,mv 46 11,o1 47 (bt .mul 3 45 46),mv 48 10,mv 49 12,o1 50 (bt .mul 3 48 49),o1 51 (bt .add 3 47 50),o1 14 (sg 51)] 0 none) []
 (.seq (.seq (.region 4 [mv 52 14,o1 53 (bk .leq 3 52 0)] 0 none) []
 (.cond (tm 53)
 (.seq (.region 5 [mv 54 11,mv 55 11,o1 56 (bt .mul 3 54 55),mv 57 12,mv 58 12,o1 59 (bt .mul 3 57 58),o1 60 (bt .add 3 56 59),mv 61 3,mv 62 3,o1 63 (bt .mul 3 61 62),o1 64 (bt .lss 3 60 63),o1 8 (sg 64)] 0 none) []
  (.ret (rl 0 8 (rl 9 104 []))))
 .skip)) (8 :: (rl 52 13 []))
 A93v3)))))⟩
def F78 (u : Nat) (x0 x1 x2 x3 x4 x5 x6 : Int) : Option (Bool) :=
 (bif (decide ((w64 ((w64 ((w64 (x2 - x0)) * (w64 (x4 - x0)))) + (w64 ((w64 (x3 - x1)) * (w64 (x5 - x1)))))) ≤ 0)) then (some (decide ((w64 ((w64 ((w64 (x4 - x0)) * (w64 (x4 - x0)))) + (w64 ((w64 (x5 - x1)) * (w64 (x5 - x1)))))) < (w64 (x6 * x6))))) else (bif (decide ((w64 ((w64 ((w64 (x2 - x0)) * (w64 (x4 - x0)))) + (w64 ((w64 (x3 - x1)) * (w64 (x5 - x1)))))) ≥ (w64 ((w64 ((w64 (x2 - x0)) * (w64 (x2 - x0)))) + (w64 ((w64 (x3 - x1)) * (w64 (x3 - x1)))))))) then (some (decide ((w64 ((w64 ((w64 (x4 - x2)) * (w64 (x4 - x2)))) + (w64 ((w64 (x5 - x3)) * (w64 (x5 - x3)))))) < (w64 (x6 * x6))))) else (bif (decide ((w64 ((w64 ((w64 (x2 - x0)) * (w64 (x5 - x1)))) - (w64 ((w64 (x3 - x1)) * (w64 (x4 - x0)))))) < 0)) then (bif ((decide ((w64 (0 - (w64 ((w64 ((w64 (x2 - x0)) * (w64 (x5 - x1)))) - (w64 ((w64 (x3 - x1)) * (w64 (x4 - x0)))))))) < 2147483648)) == true) then (some (decide ((w64 ((w64 (0 - (w64 ((w64 ((w64 (x2 - x0)) * (w64 (x5 - x1)))) - (w64 ((w64 (x3 - x1)) * (w64 (x4 - x0)))))))) * (w64 (0 - (w64 ((w64 ((w64 (x2 - x0)) * (w64 (x5 - x1)))) - (w64 ((w64 (x3 - x1)) * (w64 (x4 - x0)))))))))) < (w64 ((w64 (x6 * x6)) * (w64 ((w64 ((w64 (x2 - x0)) * (w64 (x2 - x0)))) + (w64 ((w64 (x3 - x1)) * (w64 (x3 - x1))))))))))) else (some false)) else (bif ((decide ((w64 ((w64 ((w64 (x2 - x0)) * (w64 (x5 - x1)))) - (w64 ((w64 (x3 - x1)) * (w64 (x4 - x0)))))) < 2147483648)) == true) then (some (decide ((w64 ((w64 ((w64 ((w64 (x2 - x0)) * (w64 (x5 - x1)))) - (w64 ((w64 (x3 - x1)) * (w64 (x4 - x0)))))) * (w64 ((w64 ((w64 (x2 - x0)) * (w64 (x5 - x1)))) - (w64 ((w64 (x3 - x1)) * (w64 (x4 - x0)))))))) < (w64 ((w64 (x6 * x6)) * (w64 ((w64 ((w64 (x2 - x0)) * (w64 (x2 - x0)))) + (w64 ((w64 (x3 - x1)) * (w64 (x3 - x1))))))))))) else (some false)))))
theorem e78 : evalF (C75 u) u A93 [.agg [(vi i0),(vi i1)],.agg [(vi i2),(vi i3)],.agg [(vi i4),(vi i5)],.v (vi i6)] = ob (F78 u i0 i1 i2 i3 i4 i5 i6) fun t => some [.v (.b t)] := Eq.trans (b := (bif (decide ((w64 ((w64 ((w64 (i2 - i0)) * (w64 (i4 - i0)))) + (w64 ((w64 (i3 - i1)) * (w64 (i5 - i1)))))) ≤ 0)) then (some [.v (.b (decide ((w64 ((w64 ((w64 (i4 - i0)) * (w64 (i4 - i0)))) + (w64 ((w64 (i5 - i1)) * (w64 (i5 - i1)))))) < (w64 (i6 * i6)))))]) else (bif (decide ((w64 ((w64 ((w64 (i2 - i0)) * (w64 (i4 - i0)))) + (w64 ((w64 (i3 - i1)) * (w64 (i5 - i1)))))) ≥ (w64 ((w64 ((w64 (i2 - i0)) * (w64 (i2 - i0)))) + (w64 ((w64 (i3 - i1)) * (w64 (i3 - i1)))))))) then (some [.v (.b (decide ((w64 ((w64 ((w64 (i4 - i2)) * (w64 (i4 - i2)))) + (w64 ((w64 (i5 - i3)) * (w64 (i5 - i3)))))) < (w64 (i6 * i6)))))]) else (bif (decide ((w64 ((w64 ((w64 (i2 - i0)) * (w64 (i5 - i1)))) - (w64 ((w64 (i3 - i1)) * (w64 (i4 - i0)))))) < 0)) then (bif ((decide ((w64 (0 - (w64 ((w64 ((w64 (i2 - i0)) * (w64 (i5 - i1)))) - (w64 ((w64 (i3 - i1)) * (w64 (i4 - i0)))))))) < 2147483648)) == true) then (some [.v (.b (decide ((w64 ((w64 (0 - (w64 ((w64 ((w64 (i2 - i0)) * (w64 (i5 - i1)))) - (w64 ((w64 (i3 - i1)) * (w64 (i4 - i0)))))))) * (w64 (0 - (w64 ((w64 ((w64 (i2 - i0)) * (w64 (i5 - i1)))) - (w64 ((w64 (i3 - i1)) * (w64 (i4 - i0)))))))))) < (w64 ((w64 (i6 * i6)) * (w64 ((w64 ((w64 (i2 - i0)) * (w64 (i2 - i0)))) + (w64 ((w64 (i3 - i1)) * (w64 (i3 - i1)))))))))))]) else (some [.v (.b false)])) else (bif ((decide ((w64 ((w64 ((w64 (i2 - i0)) * (w64 (i5 - i1)))) - (w64 ((w64 (i3 - i1)) * (w64 (i4 - i0)))))) < 2147483648)) == true) then (some [.v (.b (decide ((w64 ((w64 ((w64 ((w64 (i2 - i0)) * (w64 (i5 - i1)))) - (w64 ((w64 (i3 - i1)) * (w64 (i4 - i0)))))) * (w64 ((w64 ((w64 (i2 - i0)) * (w64 (i5 - i1)))) - (w64 ((w64 (i3 - i1)) * (w64 (i4 - i0)))))))) < (w64 ((w64 (i6 * i6)) * (w64 ((w64 ((w64 (i2 - i0)) * (w64 (i2 - i0)))) + (w64 ((w64 (i3 - i1)) * (w64 (i3 - i1)))))))))))]) else (some [.v (.b false)])))))) (by kernel_rfl) (by
 simp only [F78,ob_bif,ob_ob,ob_none,ob_some])
def O78 : Ora := mkO (qc (ag (tc ci (t1 ci))) (qc (ag (tc ci (t1 ci))) (qc (ag (tc ci (t1 ci))) (q1 (av ci))))) (fun x => F78 u x.1.1 x.1.2 x.2.1.1 x.2.1.2 x.2.2.1.1 x.2.2.1.2 x.2.2.2) fun t => [.v (.b t)]
theorem d78 : DO (O78 u) (C75 u) 93 A93 := dO u (fun x => by exact e78 u x.1.1 x.1.2 x.2.1.1 x.2.1.2 x.2.2.1.1 x.2.2.1.2 x.2.2.2)
def C76 : Oracle := (C75 u).add 93 (fun _ => true) (O78 u)
def A81v1 : AC := (.region 6 [mv 19 8,o1 20 (bk .add 3 19 1),o1 8 (sg 20)] 0 none)
def A81v2 : AC := (.seq (.block 3
 (.seq (.region 7 [mv 21 1,mv 22 8,o1 23 (.indexAddr 47 41 2 (tm 21) (tm 22)),o1 24 (ln 41 2 23),mv 25 1,mv 26 8,o1 27 (bk .add 3 26 1),mv 28 1,o1 29 (.len 47 false (tm 28)),o1 30 (bt .rem 3 27 29),o1 31 (.indexAddr 47 41 2 (tm 25) (tm 30)),o1 32 (ln 41 2 31),mv 33 0,mv 34 7,o1 35 (.indexAddr 47 41 2 (tm 33) (tm 34)),o1 36 (ln 41 2 35),mv 37 2,o1 38 (cs 93 [24,32,36,37] [41,41,41,3])] 0 (some [[],[],[0,1],[0,1,2],[],[],[5],[],[7],(rl 5 4 []),(rl 4 6 []),(rl 4 7 []),[],[],[12,13],[12,13,14],[],(rl 0 17 [])])) []
  (.cond (tm 38)
  (.seq (.region 8 [o1 6 (sb true)] 0 none) []
   (.ret (rl 0 6 (rl 7 32 []))))
  .skip))) (6 :: (rl 21 18 []))
 A81v1)
def A81v3 : AC := (.seq (.seq (.region 5 [mv 15 8,mv 16 1,o1 17 (.len 47 false (tm 16)),o1 18 (bt .lss 3 15 17)] 0 none) []
 (.cond (tm 18)
 .skip
 (.exit 2 (rl 3 4 (rl 8 31 []))))) (rl 15 4 [])
 A81v2)
def A81v4 : AC := (.region 3 [mv 13 7,o1 14 (bk .add 3 13 1),o1 7 (sg 14)] 0 none)
def A81v5 : AC := (.seq (.block 1
 (.seq (.region 4 [o1 8 (sk 0)] 0 none) []
  (.block 2
  (.loop [] (rl 3 4 (rl 9 30 []))
   A81v3)))) (6 :: 8 :: (rl 15 24 []))
 A81v4)
def A81v6 : AC := (.seq (.seq (.region 2 [mv 9 7,mv 10 0,o1 11 (.len 47 false (tm 10)),o1 12 (bt .lss 3 9 11)] 0 none) []
 (.cond (tm 12)
 .skip
 (.exit 0 (rl 0 39 [])))) (rl 9 4 [])
 A81v5)
def A81v7 : AC := (.seq (.region 9 [o1 6 (sb false)] 0 none) []
 (.ret (rl 0 6 (rl 7 32 []))))
def A81 : AF := ⟨39,[.tmp 6],
 (.seq (.region 0 [o1 6 (sb false)] 0 none) []
 (.seq (.seq (.region 1 [o1 7 (sk 0)] 0 none) []
 (.block 0
 (.loop [] (rl 3 4 (rl 8 31 []))
  A81v6))) (rl 6 33 [])
 A81v7))⟩
def N59v2 : St → Option St := nN 0 (rl 3 4 (rl 9 30 []))
def s59v0 : St := ⟨(.x (.c (ro kP n0 f0)) :: .x (.c (ro kP n1 f1)) :: vxi i0 :: (us 4 (vxi i1 :: vxi i2 :: (us 30 [])))),[]⟩
def s59v1 : St := ⟨(us 6 (vxb true :: (us 32 []))),[]⟩
def s59v2 : St := ⟨(.x (.c (ro kP n0 f0)) :: .x (.c (ro kP n1 f1)) :: vxi i0 :: (us 4 (vxi i1 :: (us 31 [])))),[]⟩
def L59v2 {ρ : Type} (u : Nat) (x0 : Nat) (x1 : FF) (x2 : Nat) (x3 : FF) (x4 x5 : Int) : Nat → Int → (Option ρ) → (Option ρ) → Option ρ
 | 0,_,_,_ => none
 | m + 1,x6,k0,k1 =>
  (bif (decide (x6 < (Int.ofNat x2))) then (bif (inb x6 x2) then (bif ((Int.ofNat x2) == 0) then none else (bif (inb (Int.tmod (w64 (x6 + 1)) (Int.ofNat x2)) x2) then (bif (inb x5 x0) then (ob (F78 u (x3 x6.toNat 0).int (x3 x6.toNat 1).int (CV.int (x3 (Int.toNat (Int.tmod (w64 (x6 + 1)) (Int.ofNat x2))) 0)) (CV.int (x3 (Int.toNat (Int.tmod (w64 (x6 + 1)) (Int.ofNat x2))) 1)) (x1 x5.toNat 0).int (x1 x5.toNat 1).int x4) fun x7 => (bif x7 then k0 else (L59v2 u x0 x1 x2 x3 x4 x5 m (w64 (x6 + 1)) k0 k1))) else none) else none)) else none) else k1)
theorem nl59v2 : ∀ (m : Nat) (x0 : Int) (k0 : Option ρ) (k1 : Option ρ),ob (L59v2 u n0 f0 n1 f1 i0 i1 m x0 k0 k1) ng = L59v2 u n0 f0 n1 f1 i0 i1 m x0 (ob k0 ng) (ob k1 ng)
 | 0,_,_,_ => rfl
 | m + 1,x0,k0,k1 => by
  simp only [L59v2,ob_bif,ob_ob,ob_none,nl59v2 m]
theorem r59v2 :
  loopH (eB A81v3 (C76 u) u) N59v2 (m + 1) (s59v0 n0 n1 f0 f1 i0 i1 i2) k =
  (bif (decide (i2 < (Int.ofNat n1))) then (bif (inb i2 n1) then (bif ((Int.ofNat n1) == 0) then none else (bif (inb (Int.tmod (w64 (i2 + 1)) (Int.ofNat n1)) n1) then (bif (inb i1 n0) then (ob (F78 u (f1 i2.toNat 0).int (f1 i2.toNat 1).int (CV.int (f1 (Int.toNat (Int.tmod (w64 (i2 + 1)) (Int.ofNat n1))) 0)) (CV.int (f1 (Int.toNat (Int.tmod (w64 (i2 + 1)) (Int.ofNat n1))) 1)) (f0 i1.toNat 0).int (f0 i1.toNat 1).int i0) fun x0 => (bif x0 then (k .ret s59v1) else (loopH (eB A81v3 (C76 u) u) N59v2 m (s59v0 n0 n1 f0 f1 i0 i1 (w64 (i2 + 1))) k))) else none) else none)) else none) else (k (.exit 2) (s59v2 n0 n1 f0 f1 i0 i1))) := by kernel_rfl
theorem q59v2 : ∀ (m : Nat) (x0 : Int),
  loopH (eB A81v3 (C76 u) u) N59v2 m (s59v0 n0 n1 f0 f1 i0 i1 x0) k = L59v2 u n0 f0 n1 f1 i0 i1 m x0 (k .ret s59v1) (k (.exit 2) (s59v2 n0 n1 f0 f1 i0 i1))
 | 0,_ => rfl
 | m + 1,x0 => by
  rw [r59v2]
  simp only [L59v2,q59v2 m]
def N59v3 : St → Option St := nN 0 (rl 3 4 (rl 8 31 []))
def s59v3 : St := ⟨(.x (.c (ro kP n0 f0)) :: .x (.c (ro kP n1 f1)) :: vxi i0 :: (us 4 (vxi i1 :: (us 31 [])))),[]⟩
def s59v4 : St := ⟨(us 39 []),[]⟩
def L59v3 {ρ : Type} (u : Nat) (x0 : Nat) (x1 : FF) (x2 : Nat) (x3 : FF) (x4 : Int) : Nat → Int → (Option ρ) → (Option ρ) → Option ρ
 | 0,_,_,_ => none
 | m + 1,x5,k0,k1 =>
  (bif (decide (x5 < (Int.ofNat x0))) then (L59v2 u x0 x1 x2 x3 x4 x5 u 0
  k0
  (L59v3 u x0 x1 x2 x3 x4 m (w64 (x5 + 1)) k0 k1)) else k1)
theorem nl59v3 : ∀ (m : Nat) (x0 : Int) (k0 : Option ρ) (k1 : Option ρ),ob (L59v3 u n0 f0 n1 f1 i0 m x0 k0 k1) ng = L59v3 u n0 f0 n1 f1 i0 m x0 (ob k0 ng) (ob k1 ng)
 | 0,_,_,_ => rfl
 | m + 1,x0,k0,k1 => by
  simp only [L59v3,ob_bif,ob_ob,ob_none,nl59v3 m,nl59v2]
def s59v5 : St := ⟨(.x (.c (ro kP n0 f0)) :: .x (.c (ro kP n1 f1)) :: vxi i0 :: (us 4 (vxi i1 :: vxi 0 :: (us 30 [])))),[]⟩
theorem r59v3 :
  loopH (eB A81v6 (C76 u) u) N59v3 (m + 1) (s59v3 n0 n1 f0 f1 i0 i1) k =
  (bif (decide (i1 < (Int.ofNat n0))) then (loopN (eB A81v3 (C76 u) u) N59v2 u (s59v5 n0 n1 f0 f1 i0 i1) (kBlk 2 (kBlk 1 (kSeq (C76 u) u (6 :: 8 :: (rl 15 24 [])) A81v4 (kLoop (eB A81v6 (C76 u) u) N59v3 m k))))) else (k (.exit 0) s59v4)) := by kernel_rfl
theorem t59v1 :
  loopN (eB A81v3 (C76 u) u) N59v2 u (s59v5 n0 n1 f0 f1 i0 i1) k =
  L59v2 u n0 f0 n1 f1 i0 i1 u 0 (k .ret s59v1) (k (.exit 2) (s59v2 n0 n1 f0 f1 i0 i1)) :=
 Eq.trans (loopN_at (by kernel_rfl)) (q59v2 ..)
theorem g59v2 :
  (kBlk 2 (kBlk 1 (kSeq (C76 u) u (6 :: 8 :: (rl 15 24 [])) A81v4 (kLoop (eB A81v6 (C76 u) u) N59v3 m k)))) .ret s59v1 =
  (k .ret s59v1) := by kernel_rfl
theorem g59v3 :
  (kBlk 2 (kBlk 1 (kSeq (C76 u) u (6 :: 8 :: (rl 15 24 [])) A81v4 (kLoop (eB A81v6 (C76 u) u) N59v3 m k)))) (.exit 2) (s59v2 n0 n1 f0 f1 i0 i1) =
  (loopH (eB A81v6 (C76 u) u) N59v3 m (s59v3 n0 n1 f0 f1 i0 (w64 (i1 + 1))) k) := by kernel_rfl
theorem q59v3 : ∀ (m : Nat) (x0 : Int),
  loopH (eB A81v6 (C76 u) u) N59v3 m (s59v3 n0 n1 f0 f1 i0 x0) k = L59v3 u n0 f0 n1 f1 i0 m x0 (k .ret s59v1) (k (.exit 0) s59v4)
 | 0,_ => rfl
 | m + 1,x0 => by
  rw [r59v3]
  simp only [L59v3,q59v3 m,t59v1,g59v2,g59v3]
def F59 (x0 : Nat) (x1 : FF) (x2 : Nat) (x3 : FF) (x4 : Int) : Option (Bool) :=
 (L59v3 u x0 x1 x2 x3 x4 u 0
  (some true)
  (some false))
def s59v6 : St := ⟨[.x (.c (ro kP n0 f0)),.x (.c (ro kP n1 f1)),vxi i0,uu,uu,uu,vxb false,vxi 0,uu,uu,uu,uu,uu,uu,uu,uu,uu,uu,uu,uu,uu,uu,uu,uu,uu,uu,uu,uu,uu,uu,uu,uu,uu,uu,uu,uu,uu,uu,uu],[]⟩
theorem t59v4 :
  loopN (eB A81v6 (C76 u) u) N59v3 u (s59v6 n0 n1 f0 f1 i0) k =
  L59v3 u n0 f0 n1 f1 i0 u 0 (k .ret s59v1) (k (.exit 0) s59v4) :=
 Eq.trans (loopN_at (by kernel_rfl)) (q59v3 ..)
theorem g59v5 :
  (kBlk 0 (kSeq (C76 u) u (rl 6 33 []) A81v7 (finish A81))) .ret s59v1 =
  (some [.v (.b true)]) := by kernel_rfl
theorem g59v6 :
  (kBlk 0 (kSeq (C76 u) u (rl 6 33 []) A81v7 (finish A81))) (.exit 0) s59v4 =
  (some [.v (.b false)]) := by kernel_rfl
theorem e59 : evalF (C76 u) u A81 [.v (ro kP n0 f0),.v (ro kP n1 f1),.v (vi i0)] = ob (F59 u n0 f0 n1 f1 i0) fun t => some [.v (.b t)] := Eq.trans (b := (loopN (eB A81v6 (C76 u) u) N59v3 u (s59v6 n0 n1 f0 f1 i0) (kBlk 0 (kSeq (C76 u) u (rl 6 33 []) A81v7 (finish A81))))) (by kernel_rfl) (by
 simp only [F59,ob_bif,ob_ob,ob_none,ob_some,nl59v3,t59v4,g59v5,g59v6])
def O59 : Ora := mkO (qc (av (cL kP)) (qc (av (cL kP)) (q1 (av ci)))) (fun x => F59 u x.1.1 x.1.2 x.2.1.1 x.2.1.2 x.2.2) fun t => [.v (.b t)]
theorem d59 : DO (O59 u) (C76 u) 81 A81 := dO u (fun x => by exact e59 u x.1.1 x.2.1.1 x.1.2 x.2.1.2 x.2.2)
def C77 : Oracle := (C76 u).add 81 (fun _ => true) (O59 u)
def A60v1 : AC := (.region 11 [mv 57 10,o1 58 (bk .add 3 57 1),o1 10 (sg 58)] 0 none)
def A60v2 : AC := (.seq (.block 3
 (.seq (.region 12 [mv 59 7,mv 60 9,o1 61 (.indexAddr 48 47 1 (tm 59) (tm 60)),o1 62 (lo 47 61),mv 63 8,mv 64 10,o1 65 (.indexAddr 48 47 1 (tm 63) (tm 64)),o1 66 (lo 47 65),o1 67 (cs 78 [62,66] [47,47]),mv 68 67,og 69 (.move (tm 7)) 68 false,og 70 (.move (tm 9)) 68 false,og 71 (.indexAddr 48 47 1 (tm 69) (tm 70)) 68 false,og 72 (lo 47 71) 68 false,og 73 (.move (tm 8)) 68 false,og 74 (.move (tm 10)) 68 false,og 75 (.indexAddr 48 47 1 (tm 73) (tm 74)) 68 false,og 76 (lo 47 75) 68 false,og 77 (.move (tm 2)) 68 false,og 78 (cs 81 [72,76,77] [47,47,3]) 68 false,o1 79 (pa 68 78),mv 80 79,og 81 (.move (tm 8)) 80 false,og 82 (.move (tm 10)) 80 false,og 83 (.indexAddr 48 47 1 (tm 81) (tm 82)) 80 false,og 84 (lo 47 83) 80 false,og 85 (.move (tm 7)) 80 false,og 86 (.move (tm 9)) 80 false,og 87 (.indexAddr 48 47 1 (tm 85) (tm 86)) 80 false,og 88 (lo 47 87) 80 false,og 89 (.move (tm 2)) 80 false,og 90 (cs 81 [84,88,89] [47,47,3]) 80 false,o1 91 (pa 80 90)] 0 (some [[],[],[0,1],[0,1,2],[],[],[4,5],[4,5,6],(rl 0 8 []),(rl 0 9 []),(rl 0 10 []),(rl 0 10 []),(rl 0 12 []),(rl 0 13 []),(rl 0 10 []),(rl 0 10 []),(rl 0 10 [14,15]),(rl 0 10 [14,15,16]),(rl 0 10 []),(rl 0 19 []),(rl 0 20 []),(rl 0 21 []),(rl 0 22 []),(rl 0 22 []),(rl 0 24 []),(rl 0 25 []),(rl 0 22 []),(rl 0 22 []),(rl 0 22 [26,27]),(rl 0 22 [26,27,28]),(rl 0 22 []),(rl 0 31 []),(rl 0 32 [])])) []
  (.cond (tm 91)
  (.seq (.region 13 [o1 6 (sb false)] 0 none) []
   (.ret (rl 0 6 (rl 7 85 []))))
  .skip))) (6 :: (rl 59 33 []))
 A60v1)
def A60v3 : AC := (.seq (.seq (.region 10 [mv 53 10,mv 54 8,o1 55 (.len 48 false (tm 54)),o1 56 (bt .lss 3 53 55)] 0 none) []
 (.cond (tm 56)
 .skip
 (.exit 2 (0 :: 1 :: (rl 3 4 (rl 10 82 [])))))) (rl 53 4 [])
 A60v2)
def A60v4 : AC := (.region 8 [mv 51 9,o1 52 (bk .add 3 51 1),o1 9 (sg 52)] 0 none)
def A60v5 : AC := (.seq (.block 1
 (.seq (.region 9 [o1 10 (sk 0)] 0 none) []
  (.block 2
  (.loop [] (0 :: 1 :: (rl 3 4 (rl 11 81 [])))
   A60v3)))) (6 :: 10 :: (rl 53 39 []))
 A60v4)
def A60v6 : AC := (.seq (.seq (.region 7 [mv 47 9,mv 48 7,o1 49 (.len 48 false (tm 48)),o1 50 (bt .lss 3 47 49)] 0 none) []
 (.cond (tm 50)
 .skip
 (.exit 0 (rl 0 92 [])))) (rl 47 4 [])
 A60v5)
def A60v7 : AC := (.seq (.region 14 [o1 6 (sb true)] 0 none) []
 (.ret (rl 0 6 (rl 7 85 []))))
def A60v8 : AC := (.seq (.region 5 [o1 43 (ln 50 2 3),o1 44 (cf 62 [43] [50]),o1 45 (ln 50 2 4),o1 46 (cf 62 [45] [50]),o1 7 (sg 44),o1 8 (sg 46)] 0 (some [[],[0],[],[0,1,2],(rl 0 4 []),(rl 0 5 [])])) []
 (.seq (.seq (.region 6 [o1 9 (sk 0)] 0 none) []
 (.block 0
 (.loop [] (0 :: 1 :: (rl 3 4 (rl 10 82 [])))
  A60v6))) (6 :: 9 :: 10 :: (rl 47 45 []))
 A60v7))
def A60v9 : AC := (.seq (.seq (.region 3 [o1 27 (ln 50 2 3),o1 28 (fa 50 4 0 0),o1 29 (lo 47 28),o1 30 (.indexAddr 47 41 2 (tm 29) (ic 0)),o1 31 (ln 41 2 30),o1 32 (cs 80 [27,31] [50,41]),o1 33 (bk .geq 3 32 0),mv 34 33,og 35 (ln 50 2 4) 34 false,og 36 (fa 50 3 0 0) 34 false,og 37 (lo 47 36) 34 false,og 38 (.indexAddr 47 41 2 (tm 37) (ic 0)) 34 false,og 39 (ln 41 2 38) 34 false,og 40 (cs 80 [35,39] [50,41]) 34 false,og 41 (bk .geq 3 40 0) 34 false,o1 42 (pa 34 41)] 0 (some [[],[],[1],[1,2],[1,2,3],(rl 0 5 []),(rl 0 6 []),(rl 0 7 []),(rl 0 8 []),(rl 0 8 []),(rl 0 8 [9]),(rl 0 8 [9,10]),(rl 0 8 [9,10,11]),(rl 0 13 []),(rl 0 14 []),(rl 0 15 [])])) []
 (.cond (tm 42)
 (.seq (.region 4 [o1 6 (sb false)] 0 none) []
  (.ret (rl 0 6 (rl 7 85 []))))
 .skip)) (6 :: (rl 27 16 []))
 A60v8)
def A60 : AF := ⟨92,[.tmp 6],
 (.seq (.region 0 [o1 3 (bx 0 50 0),o1 4 (bx 1 50 1),o1 6 (sb false)] 2 none) []
 (.seq (.seq (.region 1 [o1 11 (ln 50 2 3),o1 12 (cs 58 [11] [50]),o1 13 (bk .neq 31 12 0),mv 14 13,og 15 (ln 50 2 4) 14 false,og 16 (cs 58 [15] [50]) 14 false,og 17 (bk .neq 31 16 0) 14 false,o1 18 (pa 14 17),mv 19 18,og 20 (.move (tm 2)) 19 false,og 21 (bk .lss 3 20 0) 19 false,o1 22 (pa 19 21),mv 23 22,og 24 (.move (tm 2)) 23 false,og 25 (bk .gtr 3 24 1000) 23 false,o1 26 (pa 23 25)] 0 none) []
 (.cond (tm 26)
 (.seq (.region 2 [o1 6 (sb false)] 0 none) []
  (.ret (rl 0 6 (rl 7 85 []))))
 .skip)) (6 :: (rl 11 16 []))
 A60v9))⟩
def N28v2 : St → Option St := nN 2 (0 :: 1 :: (rl 3 4 (rl 11 81 [])))
def s28v0 : St := ⟨(.u :: .u :: vxi i0 :: (us 4 (.x (.c (ro (.pr (.sl kP) .nil) n0 f0)) :: .x (.c (ro (.pr (.sl kP) .nil) n1 f1)) :: vxi i1 :: vxi i2 :: (us 81 [])))),[.box [(.c (ro kP n2 f2)),(.c (ro (.pr (.sl kP) .nil) n3 f3))],.box [(.c (ro kP n4 f4)),(.c (ro (.pr (.sl kP) .nil) n5 f5))]]⟩
def s28v1 : St := ⟨(us 6 (vxb false :: (us 85 []))),[.box [(.c (ro kP n0 f0)),(.c (ro (.pr (.sl kP) .nil) n1 f1))],.box [(.c (ro kP n2 f2)),(.c (ro (.pr (.sl kP) .nil) n3 f3))]]⟩
def s28v2 : St := ⟨(.u :: .u :: vxi i0 :: (us 4 (.x (.c (ro (.pr (.sl kP) .nil) n0 f0)) :: .x (.c (ro (.pr (.sl kP) .nil) n1 f1)) :: vxi i1 :: (us 82 [])))),[.box [(.c (ro kP n2 f2)),(.c (ro (.pr (.sl kP) .nil) n3 f3))],.box [(.c (ro kP n4 f4)),(.c (ro (.pr (.sl kP) .nil) n5 f5))]]⟩
def L28v2 {ρ : Type} (u : Nat) (x0 : Int) (x1 : Nat) (x2 : FF) (x3 : Nat) (x4 : FF) (x5 : Int) (x6 : Nat) (x7 : FF) (x8 : Nat) (x9 : FF) (xA : Nat) (xB : FF) (xC : Nat) (xD : FF) : Nat → Int → (Option ρ) → (Option ρ) → Option ρ
 | 0,_,_,_ => none
 | m + 1,xE,k0,k1 =>
  (bif (decide (xE < (Int.ofNat x3))) then (bif (inb x5 x1) then (bif (inb xE x3) then (ob (F39 u (x2 x5.toNat 0).len (x2 x5.toNat 0).el (x4 xE.toNat 0).len (x4 xE.toNat 0).el) fun xF => (bif (xF == false) then (bif (inb x5 x1) then (bif (inb xE x3) then (ob (F59 u (x2 x5.toNat 0).len (x2 x5.toNat 0).el (x4 xE.toNat 0).len (x4 xE.toNat 0).el x0) fun xG => (bif (xG == false) then (bif (inb xE x3) then (bif (inb x5 x1) then (ob (F59 u (x4 xE.toNat 0).len (x4 xE.toNat 0).el (x2 x5.toNat 0).len (x2 x5.toNat 0).el x0) fun xH => (bif xH then k0 else (L28v2 u x0 x1 x2 x3 x4 x5 x6 x7 x8 x9 xA xB xC xD m (w64 (xE + 1)) k0 k1))) else none) else none) else k0)) else none) else none) else k0)) else none) else none) else k1)
theorem nl28v2 : ∀ (m : Nat) (x0 : Int) (k0 : Option ρ) (k1 : Option ρ),ob (L28v2 u i0 n0 f0 n1 f1 i1 n2 f2 n3 f3 n4 f4 n5 f5 m x0 k0 k1) ng = L28v2 u i0 n0 f0 n1 f1 i1 n2 f2 n3 f3 n4 f4 n5 f5 m x0 (ob k0 ng) (ob k1 ng)
 | 0,_,_,_ => rfl
 | m + 1,x0,k0,k1 => by
  simp only [L28v2,ob_bif,ob_ob,ob_none,nl28v2 m]
theorem r28v2 :
  loopH (eB A60v3 (C77 u) u) N28v2 (m + 1) (s28v0 n0 n1 n2 n3 n4 n5 f0 f1 f2 f3 f4 f5 i0 i1 i2) k =
  (bif (decide (i2 < (Int.ofNat n1))) then (bif (inb i1 n0) then (bif (inb i2 n1) then (ob (F39 u (f0 i1.toNat 0).len (f0 i1.toNat 0).el (f1 i2.toNat 0).len (f1 i2.toNat 0).el) fun x0 => (bif (x0 == false) then (bif (inb i1 n0) then (bif (inb i2 n1) then (ob (F59 u (f0 i1.toNat 0).len (f0 i1.toNat 0).el (f1 i2.toNat 0).len (f1 i2.toNat 0).el i0) fun x1 => (bif (x1 == false) then (bif (inb i2 n1) then (bif (inb i1 n0) then (ob (F59 u (f1 i2.toNat 0).len (f1 i2.toNat 0).el (f0 i1.toNat 0).len (f0 i1.toNat 0).el i0) fun x2 => (bif x2 then (k .ret (s28v1 n2 n3 n4 n5 f2 f3 f4 f5)) else (loopH (eB A60v3 (C77 u) u) N28v2 m (s28v0 n0 n1 n2 n3 n4 n5 f0 f1 f2 f3 f4 f5 i0 i1 (w64 (i2 + 1))) k))) else none) else none) else (k .ret (s28v1 n2 n3 n4 n5 f2 f3 f4 f5)))) else none) else none) else (k .ret (s28v1 n2 n3 n4 n5 f2 f3 f4 f5)))) else none) else none) else (k (.exit 2) (s28v2 n0 n1 n2 n3 n4 n5 f0 f1 f2 f3 f4 f5 i0 i1))) := by kernel_rfl
theorem q28v2 : ∀ (m : Nat) (x0 : Int),
  loopH (eB A60v3 (C77 u) u) N28v2 m (s28v0 n0 n1 n2 n3 n4 n5 f0 f1 f2 f3 f4 f5 i0 i1 x0) k = L28v2 u i0 n0 f0 n1 f1 i1 n2 f2 n3 f3 n4 f4 n5 f5 m x0 (k .ret (s28v1 n2 n3 n4 n5 f2 f3 f4 f5)) (k (.exit 2) (s28v2 n0 n1 n2 n3 n4 n5 f0 f1 f2 f3 f4 f5 i0 i1))
 | 0,_ => rfl
 | m + 1,x0 => by
  rw [r28v2]
  simp only [L28v2,q28v2 m]
def N28v3 : St → Option St := nN 2 (0 :: 1 :: (rl 3 4 (rl 10 82 [])))
def s28v3 : St := ⟨(.u :: .u :: vxi i0 :: (us 4 (.x (.c (ro (.pr (.sl kP) .nil) n0 f0)) :: .x (.c (ro (.pr (.sl kP) .nil) n1 f1)) :: vxi i1 :: (us 82 [])))),[.box [(.c (ro kP n2 f2)),(.c (ro (.pr (.sl kP) .nil) n3 f3))],.box [(.c (ro kP n4 f4)),(.c (ro (.pr (.sl kP) .nil) n5 f5))]]⟩
def s28v4 : St := ⟨(us 6 (vxb false :: (us 85 []))),[.box [(.c (ro kP n0 f0)),(.c (ro (.pr (.sl kP) .nil) n1 f1))],.box [(.c (ro kP n2 f2)),(.c (ro (.pr (.sl kP) .nil) n3 f3))]]⟩
def s28v5 : St := ⟨(us 92 []),[.box [(.c (ro kP n0 f0)),(.c (ro (.pr (.sl kP) .nil) n1 f1))],.box [(.c (ro kP n2 f2)),(.c (ro (.pr (.sl kP) .nil) n3 f3))]]⟩
def L28v3 {ρ : Type} (u : Nat) (x0 : Int) (x1 : Nat) (x2 : FF) (x3 : Nat) (x4 : FF) (x5 : Nat) (x6 : FF) (x7 : Nat) (x8 : FF) (x9 : Nat) (xA : FF) (xB : Nat) (xC : FF) : Nat → Int → (Option ρ) → (Option ρ) → Option ρ
 | 0,_,_,_ => none
 | m + 1,xD,k0,k1 =>
  (bif (decide (xD < (Int.ofNat x1))) then (L28v2 u x0 x1 x2 x3 x4 xD x5 x6 x7 x8 x9 xA xB xC u 0
  k0
  (L28v3 u x0 x1 x2 x3 x4 x5 x6 x7 x8 x9 xA xB xC m (w64 (xD + 1)) k0 k1)) else k1)
theorem nl28v3 : ∀ (m : Nat) (x0 : Int) (k0 : Option ρ) (k1 : Option ρ),ob (L28v3 u i0 n0 f0 n1 f1 n2 f2 n3 f3 n4 f4 n5 f5 m x0 k0 k1) ng = L28v3 u i0 n0 f0 n1 f1 n2 f2 n3 f3 n4 f4 n5 f5 m x0 (ob k0 ng) (ob k1 ng)
 | 0,_,_,_ => rfl
 | m + 1,x0,k0,k1 => by
  simp only [L28v3,ob_bif,ob_ob,ob_none,nl28v3 m,nl28v2]
def s28v6 : St := ⟨(.u :: .u :: vxi i0 :: (us 4 (.x (.c (ro (.pr (.sl kP) .nil) n0 f0)) :: .x (.c (ro (.pr (.sl kP) .nil) n1 f1)) :: vxi i1 :: vxi 0 :: (us 81 [])))),[.box [(.c (ro kP n2 f2)),(.c (ro (.pr (.sl kP) .nil) n3 f3))],.box [(.c (ro kP n4 f4)),(.c (ro (.pr (.sl kP) .nil) n5 f5))]]⟩
theorem r28v3 :
  loopH (eB A60v6 (C77 u) u) N28v3 (m + 1) (s28v3 n0 n1 n2 n3 n4 n5 f0 f1 f2 f3 f4 f5 i0 i1) k =
  (bif (decide (i1 < (Int.ofNat n0))) then (loopN (eB A60v3 (C77 u) u) N28v2 u (s28v6 n0 n1 n2 n3 n4 n5 f0 f1 f2 f3 f4 f5 i0 i1) (kBlk 2 (kBlk 1 (kSeq (C77 u) u (6 :: 10 :: (rl 53 39 [])) A60v4 (kLoop (eB A60v6 (C77 u) u) N28v3 m k))))) else (k (.exit 0) (s28v5 n2 n3 n4 n5 f2 f3 f4 f5))) := by kernel_rfl
theorem t28v1 :
  loopN (eB A60v3 (C77 u) u) N28v2 u (s28v6 n0 n1 n2 n3 n4 n5 f0 f1 f2 f3 f4 f5 i0 i1) k =
  L28v2 u i0 n0 f0 n1 f1 i1 n2 f2 n3 f3 n4 f4 n5 f5 u 0 (k .ret (s28v1 n2 n3 n4 n5 f2 f3 f4 f5)) (k (.exit 2) (s28v2 n0 n1 n2 n3 n4 n5 f0 f1 f2 f3 f4 f5 i0 i1)) :=
 Eq.trans (loopN_at (by kernel_rfl)) (q28v2 ..)
theorem g28v2 :
  (kBlk 2 (kBlk 1 (kSeq (C77 u) u (6 :: 10 :: (rl 53 39 [])) A60v4 (kLoop (eB A60v6 (C77 u) u) N28v3 m k)))) .ret (s28v1 n0 n1 n2 n3 f0 f1 f2 f3) =
  (k .ret (s28v4 n0 n1 n2 n3 f0 f1 f2 f3)) := by kernel_rfl
theorem g28v3 :
  (kBlk 2 (kBlk 1 (kSeq (C77 u) u (6 :: 10 :: (rl 53 39 [])) A60v4 (kLoop (eB A60v6 (C77 u) u) N28v3 m k)))) (.exit 2) (s28v2 n0 n1 n2 n3 n4 n5 f0 f1 f2 f3 f4 f5 i0 i1) =
  (loopH (eB A60v6 (C77 u) u) N28v3 m (s28v3 n0 n1 n2 n3 n4 n5 f0 f1 f2 f3 f4 f5 i0 (w64 (i1 + 1))) k) := by kernel_rfl
theorem q28v3 : ∀ (m : Nat) (x0 : Int),
  loopH (eB A60v6 (C77 u) u) N28v3 m (s28v3 n0 n1 n2 n3 n4 n5 f0 f1 f2 f3 f4 f5 i0 x0) k = L28v3 u i0 n0 f0 n1 f1 n2 f2 n3 f3 n4 f4 n5 f5 m x0 (k .ret (s28v4 n2 n3 n4 n5 f2 f3 f4 f5)) (k (.exit 0) (s28v5 n2 n3 n4 n5 f2 f3 f4 f5))
 | 0,_ => rfl
 | m + 1,x0 => by
  rw [r28v3]
  simp only [L28v3,q28v3 m,t28v1,g28v2,g28v3]
def F28 (x0 : Nat) (x1 : FF) (x2 : Nat) (x3 : FF) (x4 : Nat) (x5 : FF) (x6 : Nat) (x7 : FF) (x8 : Int) : Option (Bool) :=
 (ob (F14 u x0 x1 x2 x3) fun x9 => (bif ((x9 != 0) == false) then (ob (F14 u x4 x5 x6 x7) fun xA => (bif ((xA != 0) == false) then (bif ((decide (x8 < 0)) == false) then (bif (decide (x8 > 1000)) then (some false) else (bif (inb 0 x4) then (ob (F23 u x0 x1 x2 x3 (x5 0 0).int (x5 0 1).int) fun xB => (bif ((decide (xB ≥ 0)) == false) then (bif (inb 0 x0) then (ob (F23 u x4 x5 x6 x7 (x1 0 0).int (x1 0 1).int) fun xC => (bif (decide (xC ≥ 0)) then (some false) else (ob (F44 u x0 x1 x2 x3) fun xD => (ob (F44 u x4 x5 x6 x7) fun xE => (L28v3 u x8 xD.1 xD.2 xE.1 xE.2 x0 x1 x2 x3 x4 x5 x6 x7 u 0
  (some false)
  (some true)))))) else none) else (some false))) else none)) else (some false)) else (some false))) else (some false)))
def s28v7 (x0 x1 : Nat × FF) : St := ⟨(.agg [(.c (ro kP n0 f0)),(.c (ro (.pr (.sl kP) .nil) n1 f1))] :: .agg [(.c (ro kP n2 f2)),(.c (ro (.pr (.sl kP) .nil) n3 f3))] :: vxi i0 :: .x (.ptr 0 0) :: .x (.ptr 1 0) :: uu :: .u :: .x (.c (ro (.pr (.sl kP) .nil) x0.1 x0.2)) :: .x (.c (ro (.pr (.sl kP) .nil) x1.1 x1.2)) :: vxi 0 :: uu :: (us 32 [.agg [(.c (ro kP n0 f0)),(.c (ro (.pr (.sl kP) .nil) n1 f1))],.x (.c (ro (.pr (.sl kP) .nil) x0.1 x0.2)),.agg [(.c (ro kP n2 f2)),(.c (ro (.pr (.sl kP) .nil) n3 f3))],.x (.c (ro (.pr (.sl kP) .nil) x1.1 x1.2)),uu,uu,uu,uu,uu,uu,uu,uu,uu,uu,uu,uu,uu,uu,uu,uu,uu,uu,uu,uu,uu,uu,uu,uu,uu,uu,uu,uu,uu,uu,uu,uu,uu,uu,uu,uu,uu,uu,uu,uu,uu,uu,uu,uu,uu])),[.box [(.c (ro kP n0 f0)),(.c (ro (.pr (.sl kP) .nil) n1 f1))],.box [(.c (ro kP n2 f2)),(.c (ro (.pr (.sl kP) .nil) n3 f3))]]⟩
theorem t28v4 (x0 x1 : Nat × FF) :
  loopN (eB A60v6 (C77 u) u) N28v3 u (s28v7 n0 n1 n2 n3 f0 f1 f2 f3 i0 x0 x1) k =
  L28v3 u i0 x0.1 x0.2 x1.1 x1.2 n0 f0 n1 f1 n2 f2 n3 f3 u 0 (k .ret (s28v4 n0 n1 n2 n3 f0 f1 f2 f3)) (k (.exit 0) (s28v5 n0 n1 n2 n3 f0 f1 f2 f3)) :=
 Eq.trans (loopN_at (by kernel_rfl)) (q28v3 ..)
theorem g28v5 :
  (kBlk 0 (kSeq (C77 u) u (6 :: 9 :: 10 :: (rl 47 45 [])) A60v7 (finish A60))) .ret (s28v4 n0 n1 n2 n3 f0 f1 f2 f3) =
  (some [.v (.b false)]) := by kernel_rfl
theorem g28v6 :
  (kBlk 0 (kSeq (C77 u) u (6 :: 9 :: 10 :: (rl 47 45 [])) A60v7 (finish A60))) (.exit 0) (s28v5 n0 n1 n2 n3 f0 f1 f2 f3) =
  (some [.v (.b true)]) := by kernel_rfl
theorem e28 : evalF (C77 u) u A60 [.agg [(ro kP n0 f0),(ro (.pr (.sl kP) .nil) n1 f1)],.agg [(ro kP n2 f2),(ro (.pr (.sl kP) .nil) n3 f3)],.v (vi i0)] = ob (F28 u n0 f0 n1 f1 n2 f2 n3 f3 i0) fun t => some [.v (.b t)] := Eq.trans (b := (ob (F14 u n0 f0 n1 f1) fun x0 => (bif ((x0 != 0) == false) then (ob (F14 u n2 f2 n3 f3) fun x1 => (bif ((x1 != 0) == false) then (bif ((decide (i0 < 0)) == false) then (bif (decide (i0 > 1000)) then (some [.v (.b false)]) else (bif (inb 0 n2) then (ob (F23 u n0 f0 n1 f1 (f2 0 0).int (f2 0 1).int) fun x2 => (bif ((decide (x2 ≥ 0)) == false) then (bif (inb 0 n0) then (ob (F23 u n2 f2 n3 f3 (f0 0 0).int (f0 0 1).int) fun x3 => (bif (decide (x3 ≥ 0)) then (some [.v (.b false)]) else (ob (F44 u n0 f0 n1 f1) fun x4 => (ob (F44 u n2 f2 n3 f3) fun x5 => (loopN (eB A60v6 (C77 u) u) N28v3 u (s28v7 n0 n1 n2 n3 f0 f1 f2 f3 i0 x4 x5) (kBlk 0 (kSeq (C77 u) u (6 :: 9 :: 10 :: (rl 47 45 [])) A60v7 (finish A60)))))))) else none) else (some [.v (.b false)]))) else none)) else (some [.v (.b false)])) else (some [.v (.b false)]))) else (some [.v (.b false)])))) (by kernel_rfl) (by
 simp only [F28,ob_bif,ob_ob,ob_none,ob_some,nl28v3,t28v4,g28v5,g28v6])
def O28 : Ora := mkO (qc (ag (tc (cL kP) (t1 (cL (.pr (.sl kP) .nil))))) (qc (ag (tc (cL kP) (t1 (cL (.pr (.sl kP) .nil))))) (q1 (av ci)))) (fun x => F28 u x.1.1.1 x.1.1.2 x.1.2.1 x.1.2.2 x.2.1.1.1 x.2.1.1.2 x.2.1.2.1 x.2.1.2.2 x.2.2) fun t => [.v (.b t)]
theorem d28 : DO (O28 u) (C77 u) 60 A60 := dO u (fun x => by exact e28 u x.1.1.1 x.1.2.1 x.2.1.1.1 x.2.1.2.1 x.1.1.2 x.1.2.2 x.2.1.1.2 x.2.1.2.2 x.2.2)
def C78 : Oracle := (C77 u).add 60 (fun _ => true) (O28 u)
def A33v1 : AC := (.region 7 [mv 30 11,o1 31 (bk .add 3 30 1),o1 11 (sg 31)] 0 none)
def A33v2 : AC := (.seq (.block 1
 (.seq (.region 8 [o1 32 (fa 24 4 2 2),o1 33 (lo 22 32),mv 34 11,o1 35 (.indexAddr 22 43 5 (tm 33) (tm 34)),o1 36 (fa 43 35 0 0),o1 37 (lo 9 36),o1 38 (fa 43 9 0 0),o1 39 (lo 9 38),o1 40 (bt .eql 9 37 39)] 0 (some [[],[0],[],[0,1,2],(rl 0 4 []),(rl 0 5 []),[],[6],(rl 0 8 [])])) []
  (.cond (tm 40)
  (.seq (.region 9 [o1 8 (sk 7)] 0 none) []
   (.ghost [0,1,2] (.ret (rl 0 8 (rl 9 104 [])))))
  .skip))) (8 :: (rl 32 9 []))
 A33v1)
def A33v3 : AC := (.seq (.seq (.region 6 [mv 27 11,mv 28 3,o1 29 (bt .lss 3 27 28)] 0 none) []
 (.cond (tm 29)
 .skip
 (.exit 0 (0 :: 1 :: 6 :: 7 :: 8 :: (rl 11 102 []))))) [27,28,29]
 A33v2)
def A33v4 : AC := (.region 24 [mv 87 14,o1 88 (bk .add 3 87 1),o1 14 (sg 88)] 0 none)
def A33v5 : AC := (.seq (.block 4
 (.seq (.region 25 [mv 89 2,mv 90 2,o1 91 (fa 24 4 2 2),o1 92 (lo 22 91),mv 93 14,o1 94 (.indexAddr 22 43 5 (tm 92) (tm 93)),o1 95 (fa 43 94 0 0),o1 96 (lo 9 95),o1 97 (cs 22 [90,96] [27,9]),o1 98 (.indexAddr 27 56 18 (tm 89) (tm 97)),o1 99 (fa 56 98 6 6),o1 100 (ln 50 2 99),o1 101 (fa 24 4 2 2),o1 102 (lo 22 101),mv 103 14,o1 104 (.indexAddr 22 43 5 (tm 102) (tm 103)),o1 105 (ln 43 5 104),o1 106 (cf 36 [100,105] [50,43]),o1 15 (.alloc 0 50 [vcn,vcn]),o0 (.store 50 2 (tm 15) (tm 106))] 1 (some [[],[],[],[2],[],[2,3,4],(rl 2 4 []),(rl 2 5 []),(rl 1 7 []),(rl 0 9 []),(rl 0 10 []),(rl 0 11 []),[],[12],[],[12,13,14],(rl 12 4 []),(rl 0 17 []),[],(rl 0 19 [])])) []
  (.seq (.region 26 [o1 107 (ln 50 2 15),o1 108 (ln 50 2 13),o1 109 (fa 24 4 1 1),o1 110 (lo 3 109),o1 111 (cs 60 [107,108,110] [50,50,3]),o1 112 (.unOp .not 4 (tm 111))] 0 none) []
  (.cond (tm 112)
  (.seq (.region 27 [o1 8 (sk 19)] 0 none) []
   (.ghost (rl 0 6 []) (.ret (rl 0 8 (rl 9 104 [])))))
  .skip)))) (8 :: 15 :: (rl 89 24 []))
 A33v4)
def A33v6 : AC := (.seq (.seq (.region 23 [mv 84 14,mv 85 3,o1 86 (bt .lss 3 84 85)] 0 none) []
 (.cond (tm 86)
 .skip
 (.ghost (rl 0 5 []) (.exit 3 (rl 0 113 []))))) [84,85,86]
 A33v5)
def A33v7 : AC := (.seq (.region 28 [o1 8 (sk 0)] 0 none) []
 (.ghost (rl 0 5 []) (.ret (rl 0 8 (rl 9 104 [])))))
def A33v8 : AC := (.seq (.seq (.region 22 [o1 14 (sk 0)] 0 none) []
 (.block 3
 (.ghost [1,2,3] (.loop [] (0 :: 1 :: (rl 5 8 (rl 15 98 [])))
  A33v6)))) (8 :: 14 :: 15 :: (rl 84 29 []))
 A33v7)
def A33v9 : AC := (.seq (.region 19 [o1 71 (fa 56 12 6 6),o1 72 (ln 50 2 71),o1 73 (ln 43 5 9),o1 74 (cf 36 [72,73] [50,43]),o1 13 (.alloc 0 50 [vcn,vcn]),o0 (.store 50 2 (tm 13) (tm 74))] 1 none) []
 (.seq (.seq (.region 20 [o1 75 (ln 50 2 13),o1 76 (fa 26 5 3 3),o1 77 (lo 3 76),o1 78 (fa 26 5 4 4),o1 79 (lo 3 78),o1 80 (fa 24 4 1 1),o1 81 (lo 3 80),o1 82 (cs 59 [75,77,79,81] [50,3,3,3]),o1 83 (.unOp .not 4 (tm 82))] 0 none) []
 (.cond (tm 83)
 (.seq (.region 21 [o1 8 (sk 18)] 0 none) []
  (.ghost (rl 0 5 []) (.ret (rl 0 8 (rl 9 104 [])))))
 .skip)) (8 :: (rl 75 9 []))
 A33v8))
def A33v10 : AC := (.seq (.region 10 [mv 41 2,mv 42 10,o1 43 (.indexAddr 27 56 18 (tm 41) (tm 42)),o1 44 (ln 56 18 43),o1 12 (.alloc 0 56 [vcs ByteArray.empty,vci 0,vci 0,vcs ByteArray.empty,vcs ByteArray.empty,vci 0,vcn,vcn,vcs ByteArray.empty,vci 0,vci 0,vci 0,vci 0,vci 0,vci 0,vci 0,vci 0,vci 0]),o0 (.store 56 18 (tm 12) (tm 44))] 1 none) []
 (.seq (.block 2
 (.seq (.region 11 [o1 46 (fa 56 12 2 2),o1 47 (lo 3 46),o1 48 (bk .neq 3 47 1),o1 45 (sg 48)] 0 none) []
  (.cond (tm 45)
  (.seq (.region 12 [o1 8 (sk 10)] 0 none) []
   (.ghost (rl 0 4 []) (.ret (rl 0 8 (rl 9 104 [])))))
  (.seq (.region 13 [o1 50 (fa 56 12 4 4),o1 51 (lo 9 50),o1 52 (fa 26 5 1 1),o1 53 (lo 9 52),o1 54 (bt .neq 9 51 53),mv 55 54,og 56 (fa 56 12 5 5) 55 false,og 57 (lo 3 56) 55 false,og 58 (fa 26 5 2 2) 55 false,og 59 (lo 3 58) 55 false,og 60 (bt .neq 3 57 59) 55 false,o1 61 (pa 55 60),o1 49 (sg 61)] 0 none) []
   (.cond (tm 49)
   (.seq (.region 14 [o1 8 (sk 23)] 0 none) []
    (.ghost (rl 0 4 []) (.ret (rl 0 8 (rl 9 104 [])))))
   (.seq (.region 15 [o1 63 (fa 56 12 6 6),o1 64 (ln 50 2 63),o1 65 (cs 58 [64] [50]),o1 66 (bk .neq 31 65 0),o1 62 (sg 66)] 0 none) []
    (.cond (tm 62)
    (.seq (.region 16 [o1 8 (sk 17)] 0 none) []
     (.ghost (rl 0 4 []) (.ret (rl 0 8 (rl 9 104 [])))))
    (.seq (.region 17 [o1 68 (ln 43 5 9),o1 69 (cs 35 [68] [43]),o1 70 (.unOp .not 4 (tm 69)),o1 67 (sg 70)] 0 none) []
     (.cond (tm 67)
     (.seq (.region 18 [o1 8 (sk 9)] 0 none) []
      (.ghost (rl 0 4 []) (.ret (rl 0 8 (rl 9 104 [])))))
     .skip))))))))) (8 :: (rl 45 26 []))
 A33v9))
def A33v11 : AC := (.seq (.seq (.region 5 [o1 11 (sk 0)] 0 none) []
 (.block 0
 (.loop [] (0 :: 1 :: 6 :: 7 :: 8 :: (rl 12 101 []))
  A33v3))) (8 :: 11 :: (rl 27 14 []))
 A33v10)
def A33 : AF := ⟨113,[.tmp 8],
 (.seq (.region 0 [o1 4 (bx 0 24 0),o1 5 (bx 1 26 1),o1 8 (sk 0)] 2 none) []
 (.seq (.region 1 [o1 16 (fa 24 4 2 2),o1 17 (lo 22 16),mv 18 3,o1 19 (.indexAddr 22 43 5 (tm 17) (tm 18)),o1 20 (ln 43 5 19),o1 9 (.alloc 0 43 [vcs ByteArray.empty,vci 0,vci 0,vci 0,vcb false]),o0 (.store 43 5 (tm 9) (tm 20))] 1 none) []
 (.seq (.region 2 [mv 21 2,o1 22 (fa 43 9 0 0),o1 23 (lo 9 22),o1 24 (cs 22 [21,23] [27,9]),o1 10 (sg 24)] 0 none) []
 (.seq (.seq (.region 3 [mv 25 10,o1 26 (bk .lss 3 25 0)] 0 none) []
 (.cond (tm 26)
 (.seq (.region 4 [o1 8 (sk 8)] 0 none) []
  (.ghost [0,1,2] (.ret (rl 0 8 (rl 9 104 [])))))
 .skip)) [8,25,26]
 A33v11))))⟩
def N179v1 : St → Option St := nN 3 (0 :: 1 :: 6 :: 7 :: 8 :: (rl 12 101 []))
def s179v0 : St := ⟨(.u :: .u :: .x (.c (ro kA n0 f0)) :: vxi i0 :: .x (.ptr 0 0) :: .x (.ptr 1 0) :: (us 3 (.x (.ptr 2 0) :: vxi i1 :: vxi i2 :: (us 101 [])))),[.box [(vcs w0),(vci i3),(.c (ro kE n1 f1))],.box [(vcs w1),(vcs w2),(vci i4),(vci i5),(vci i6),(vcs w3)],.box [(vcs w4),(vci i7),(vci i8),(vci i9),(vcb b0)]]⟩
def s179v1 : St := ⟨(us 8 (vxi 7 :: (us 104 []))),[.dead,.dead,.dead]⟩
def s179v2 : St := ⟨(.u :: .u :: .x (.c (ro kA n0 f0)) :: vxi i0 :: .x (.ptr 0 0) :: .x (.ptr 1 0) :: (us 3 (.x (.ptr 2 0) :: vxi i1 :: (us 102 [])))),[.box [(vcs w0),(vci i2),(.c (ro kE n1 f1))],.box [(vcs w1),(vcs w2),(vci i3),(vci i4),(vci i5),(vcs w3)],.box [(vcs w4),(vci i6),(vci i7),(vci i8),(vcb b0)]]⟩
def L179v1 {ρ : Type} (u : Nat) (x0 : Nat) (x1 : FF) (x2 x3 : Int) (x4 : ByteArray) (x5 : Int) (x6 : Nat) (x7 : FF) (x8 x9 : ByteArray) (xA xB xC : Int) (xD xE : ByteArray) (xF xG xH : Int) (xI : Bool) : Nat → Int → (Option ρ) → (Option ρ) → Option ρ
 | 0,_,_,_ => none
 | m + 1,xJ,k0,k1 =>
  (bif (decide (xJ < x2)) then (bif (inb xJ x6) then (bif (ByteArray.toList (x7 xJ.toNat 0).str == ByteArray.toList xE) then k0 else (L179v1 u x0 x1 x2 x3 x4 x5 x6 x7 x8 x9 xA xB xC xD xE xF xG xH xI m (w64 (xJ + 1)) k0 k1)) else none) else k1)
theorem nl179v1 : ∀ (m : Nat) (x0 : Int) (k0 : Option ρ) (k1 : Option ρ),ob (L179v1 u n0 f0 i0 i1 w0 i2 n1 f1 w1 w2 i3 i4 i5 w3 w4 i6 i7 i8 b0 m x0 k0 k1) ng = L179v1 u n0 f0 i0 i1 w0 i2 n1 f1 w1 w2 i3 i4 i5 w3 w4 i6 i7 i8 b0 m x0 (ob k0 ng) (ob k1 ng)
 | 0,_,_,_ => rfl
 | m + 1,x0,k0,k1 => by
  simp only [L179v1,ob_bif,ob_ob,ob_none,nl179v1 m]
theorem r179v1 :
  loopH (eB A33v3 (C78 u) u) N179v1 (m + 1) (s179v0 n0 n1 f0 f1 i0 i1 i9 i2 i3 i4 i5 i6 i7 i8 b0 w0 w1 w2 w3 w4) k =
  (bif (decide (i9 < i0)) then (bif (inb i9 n1) then (bif (ByteArray.toList (f1 i9.toNat 0).str == ByteArray.toList w4) then (k .ret s179v1) else (loopH (eB A33v3 (C78 u) u) N179v1 m (s179v0 n0 n1 f0 f1 i0 i1 (w64 (i9 + 1)) i2 i3 i4 i5 i6 i7 i8 b0 w0 w1 w2 w3 w4) k)) else none) else (k (.exit 0) (s179v2 n0 n1 f0 f1 i0 i1 i2 i3 i4 i5 i6 i7 i8 b0 w0 w1 w2 w3 w4))) := by kernel_rfl
theorem q179v1 : ∀ (m : Nat) (x0 : Int),
  loopH (eB A33v3 (C78 u) u) N179v1 m (s179v0 n0 n1 f0 f1 i0 i1 x0 i2 i3 i4 i5 i6 i7 i8 b0 w0 w1 w2 w3 w4) k = L179v1 u n0 f0 i0 i1 w0 i2 n1 f1 w1 w2 i3 i4 i5 w3 w4 i6 i7 i8 b0 m x0 (k .ret s179v1) (k (.exit 0) (s179v2 n0 n1 f0 f1 i0 i1 i2 i3 i4 i5 i6 i7 i8 b0 w0 w1 w2 w3 w4))
 | 0,_ => rfl
 | m + 1,x0 => by
  rw [r179v1]
  simp only [L179v1,q179v1 m]
def N179v2 : St → Option St := nN 5 (0 :: 1 :: (rl 5 8 (rl 15 98 [])))
def s179v3 : St := ⟨(.u :: .u :: .x (.c (ro kA n0 f0)) :: vxi i0 :: .x (.ptr 0 0) :: (us 8 (.x (.ptr 4 0) :: vxi i1 :: (us 98 [])))),[.box [(vcs w0),(vci i2),(.c (ro kE n1 f1))],.dead,.dead,.dead,.box [(.c (ro kP n2 f2)),(.c (ro (.pr (.sl kP) .nil) n3 f3))]]⟩
def s179v4 : St := ⟨(us 8 (vxi 19 :: (us 104 []))),[.dead,.dead,.dead,.dead,.dead,.dead]⟩
def s179v5 : St := ⟨(us 113 []),[.dead,.dead,.dead,.dead,.dead]⟩
def L179v2 {ρ : Type} (u : Nat) (x0 : Nat) (x1 : FF) (x2 : Int) (x3 : ByteArray) (x4 : Int) (x5 : Nat) (x6 : FF) (x7 : Nat) (x8 : FF) (x9 : Nat) (xA : FF) : Nat → Int → (Option ρ) → (Option ρ) → Option ρ
 | 0,_,_,_ => none
 | m + 1,xB,k0,k1 =>
  (bif (decide (xB < x2)) then (bif (inb xB x5) then (ob (F176 u x0 x1 (x6 xB.toNat 0).str) fun xC => (bif (inb xC x0) then (bif (inb xB x5) then (ob (F26 u (x1 xC.toNat 6).len (x1 xC.toNat 6).el (x1 xC.toNat 7).len (x1 xC.toNat 7).el (x6 xB.toNat 0).str (x6 xB.toNat 1).int (x6 xB.toNat 2).int (x6 xB.toNat 3).int (x6 xB.toNat 4).bool) fun xD => (ob (F28 u xD.1 xD.2.1 xD.2.2.1 xD.2.2.2 x7 x8 x9 xA x4) fun xE => (bif (!xE) then k0 else (L179v2 u x0 x1 x2 x3 x4 x5 x6 x7 x8 x9 xA m (w64 (xB + 1)) k0 k1)))) else none) else none)) else none) else k1)
theorem nl179v2 : ∀ (m : Nat) (x0 : Int) (k0 : Option ρ) (k1 : Option ρ),ob (L179v2 u n0 f0 i0 w0 i1 n1 f1 n2 f2 n3 f3 m x0 k0 k1) ng = L179v2 u n0 f0 i0 w0 i1 n1 f1 n2 f2 n3 f3 m x0 (ob k0 ng) (ob k1 ng)
 | 0,_,_,_ => rfl
 | m + 1,x0,k0,k1 => by
  simp only [L179v2,ob_bif,ob_ob,ob_none,nl179v2 m]
theorem r179v2 :
  loopH (eB A33v6 (C78 u) u) N179v2 (m + 1) (s179v3 n0 n1 n2 n3 f0 f1 f2 f3 i0 i2 i1 w0) k =
  (bif (decide (i2 < i0)) then (bif (inb i2 n1) then (ob (F176 u n0 f0 (f1 i2.toNat 0).str) fun x0 => (bif (inb x0 n0) then (bif (inb i2 n1) then (ob (F26 u (f0 x0.toNat 6).len (f0 x0.toNat 6).el (f0 x0.toNat 7).len (f0 x0.toNat 7).el (f1 i2.toNat 0).str (f1 i2.toNat 1).int (f1 i2.toNat 2).int (f1 i2.toNat 3).int (f1 i2.toNat 4).bool) fun x1 => (ob (F28 u x1.1 x1.2.1 x1.2.2.1 x1.2.2.2 n2 f2 n3 f3 i1) fun x2 => (bif (!x2) then (k .ret s179v4) else (loopH (eB A33v6 (C78 u) u) N179v2 m (s179v3 n0 n1 n2 n3 f0 f1 f2 f3 i0 (w64 (i2 + 1)) i1 w0) k)))) else none) else none)) else none) else (k (.exit 3) s179v5)) := by kernel_rfl
theorem q179v2 : ∀ (m : Nat) (x0 : Int),
  loopH (eB A33v6 (C78 u) u) N179v2 m (s179v3 n0 n1 n2 n3 f0 f1 f2 f3 i0 x0 i1 w0) k = L179v2 u n0 f0 i0 w0 i1 n1 f1 n2 f2 n3 f3 m x0 (k .ret s179v4) (k (.exit 3) s179v5)
 | 0,_ => rfl
 | m + 1,x0 => by
  rw [r179v2]
  simp only [L179v2,q179v2 m]
def F179 (x0 : ByteArray) (x1 : Int) (x2 : Nat) (x3 : FF) (x4 x5 : ByteArray) (x6 x7 x8 : Int) (x9 : ByteArray) (xA : Nat) (xB : FF) (xC : Int) : Option (Int) :=
 (bif (inb xC x2) then (ob (F176 u xA xB (x3 xC.toNat 0).str) fun xD => (bif (decide (xD < 0)) then (some 8) else (L179v1 u xA xB xC xD x0 x1 x2 x3 x4 x5 x6 x7 x8 x9 (x3 xC.toNat 0).str (x3 xC.toNat 1).int (x3 xC.toNat 2).int (x3 xC.toNat 3).int (x3 xC.toNat 4).bool u 0
  (some 7)
  (bif (inb xD xA) then (bif ((xB xD.toNat 2).int != 1) then (some 10) else (bif ((!(ByteArray.toList (xB xD.toNat 4).str == ByteArray.toList x5)) == false) then (bif ((xB xD.toNat 5).int != x6) then (some 23) else (ob (F14 u (xB xD.toNat 6).len (xB xD.toNat 6).el (xB xD.toNat 7).len (xB xD.toNat 7).el) fun xE => (bif (xE != 0) then (some 17) else (ob (F178 u (x3 xC.toNat 0).str (x3 xC.toNat 1).int (x3 xC.toNat 2).int (x3 xC.toNat 3).int (x3 xC.toNat 4).bool) fun xF => (bif (!xF) then (some 9) else (ob (F26 u (xB xD.toNat 6).len (xB xD.toNat 6).el (xB xD.toNat 7).len (xB xD.toNat 7).el (x3 xC.toNat 0).str (x3 xC.toNat 1).int (x3 xC.toNat 2).int (x3 xC.toNat 3).int (x3 xC.toNat 4).bool) fun xG => (ob (F30 u xG.1 xG.2.1 xG.2.2.1 xG.2.2.2 x7 x8 x1) fun xH => (bif (!xH) then (some 18) else (L179v2 u xA xB xC x0 x1 x2 x3 xG.1 xG.2.1 xG.2.2.1 xG.2.2.2 u 0
  (some 19)
  (some 0)))))))))) else (some 23))) else none)))) else none)
def s179v6 : St := ⟨[.agg [(vcs w0),(vci i0),(.c (ro kE n0 f0))],.agg [(vcs w1),(vcs w2),(vci i1),(vci i2),(vci i3),(vcs w3)],.x (.c (ro kA n1 f1)),vxi i4,.x (.ptr 0 0),.x (.ptr 1 0),uu,uu,.u,.x (.ptr 2 0),vxi i5,vxi 0,uu,uu,uu,uu,.x (.ptr 0 2),.x (.c (ro kE n0 f0)),vxi i4,.x (.c (.rp kE (f0 i4.toNat))),.agg [(vcs (f0 i4.toNat 0).str),(vci (f0 i4.toNat 1).int),(vci (f0 i4.toNat 2).int),(vci (f0 i4.toNat 3).int),(vcb (f0 i4.toNat 4).bool)],.x (.c (ro kA n1 f1)),.x (.ptr 2 0),vxs (f0 i4.toNat 0).str,vxi i5,.u,.u,uu,uu,uu,uu,uu,uu,uu,uu,uu,uu,uu,uu,uu,uu,uu,uu,uu,uu,uu,uu,uu,uu,uu,uu,uu,uu,uu,uu,uu,uu,uu,uu,uu,uu,uu,uu,uu,uu,uu,uu,uu,uu,uu,uu,uu,uu,uu,uu,uu,uu,uu,uu,uu,uu,uu,uu,uu,uu,uu,uu,uu,uu,uu,uu,uu,uu,uu,uu,uu,uu,uu,uu,uu,uu,uu,uu,uu,uu,uu,uu,uu,uu,uu,uu,uu,uu],[.box [(vcs w0),(vci i0),(.c (ro kE n0 f0))],.box [(vcs w1),(vcs w2),(vci i1),(vci i2),(vci i3),(vcs w3)],.box [(vcs (f0 i4.toNat 0).str),(vci (f0 i4.toNat 1).int),(vci (f0 i4.toNat 2).int),(vci (f0 i4.toNat 3).int),(vcb (f0 i4.toNat 4).bool)]]⟩
theorem t179v1 :
  loopN (eB A33v3 (C78 u) u) N179v1 u (s179v6 n0 n1 f0 f1 i0 i1 i2 i3 i4 i5 w0 w1 w2 w3) k =
  L179v1 u n1 f1 i4 i5 w0 i0 n0 f0 w1 w2 i1 i2 i3 w3 (f0 i4.toNat 0).str (f0 i4.toNat 1).int (f0 i4.toNat 2).int (f0 i4.toNat 3).int (f0 i4.toNat 4).bool u 0 (k .ret s179v1) (k (.exit 0) (s179v2 n1 n0 f1 f0 i4 i5 i0 i1 i2 i3 (f0 i4.toNat 1).int (f0 i4.toNat 2).int (f0 i4.toNat 3).int (f0 i4.toNat 4).bool w0 w1 w2 w3 (f0 i4.toNat 0).str)) :=
 Eq.trans (loopN_at (by kernel_rfl)) (q179v1 ..)
theorem g179v2 :
  (kBlk 0 (kSeq (C78 u) u (8 :: 11 :: (rl 27 14 [])) A33v10 (finish A33))) .ret s179v1 =
  (some [.v (vi 7)]) := by kernel_rfl
def s179v7 (x0 : Nat × FF × Nat × FF) : St := ⟨(.u :: .u :: .x (.c (ro kA n0 f0)) :: vxi i0 :: .x (.ptr 0 0) :: .x (.c (.rp (.pr .str (.pr .str (.pr (.int .i64) (.pr (.int .i64) (.pr (.int .i64) (.pr .str .nil)))))) (listF [(.s w0),(.s w1),(vi i1),(vi i2),(vi i3),(.s w2)]))) :: (us 3 (.x (.c (.rp kE (listF [(.s (f1 i0.toNat 0).str),(vi (f1 i0.toNat 1).int),(vi (f1 i0.toNat 2).int),(vi (f1 i0.toNat 3).int),(.b (f1 i0.toNat 4).bool)]))) :: vxi i4 :: .u :: .x (.c (.rp kA (listF [(.s (f0 i4.toNat 0).str),(vi (f0 i4.toNat 1).int),(vi (f0 i4.toNat 2).int),(.s (f0 i4.toNat 3).str),(.s (f0 i4.toNat 4).str),(vi (f0 i4.toNat 5).int),(ro kP (f0 i4.toNat 6).len (f0 i4.toNat 6).el),(ro (.pr (.sl kP) .nil) (f0 i4.toNat 7).len (f0 i4.toNat 7).el),(.s (f0 i4.toNat 8).str),(vi (f0 i4.toNat 9).int),(vi (f0 i4.toNat 10).int),(vi (f0 i4.toNat 11).int),(vi (f0 i4.toNat 12).int),(vi (f0 i4.toNat 13).int),(vi (f0 i4.toNat 14).int),(vi (f0 i4.toNat 15).int),(vi (f0 i4.toNat 16).int),(vi (f0 i4.toNat 17).int)]))) :: .x (.ptr 4 0) :: vxi 0 :: (us 26 (.x (.c (ro kA n0 f0)) :: vxi i4 :: .x (.c (.rp kA (f0 i4.toNat))) :: .agg (pjc kR1 (f0 i4.toNat)) :: (us 26 (.x (.c (.rp kB (listF [(ro kP (f0 i4.toNat 6).len (f0 i4.toNat 6).el),(ro (.pr (.sl kP) .nil) (f0 i4.toNat 7).len (f0 i4.toNat 7).el),(.s (f0 i4.toNat 8).str),(vi (f0 i4.toNat 9).int),(vi (f0 i4.toNat 10).int),(vi (f0 i4.toNat 11).int),(vi (f0 i4.toNat 12).int),(vi (f0 i4.toNat 13).int),(vi (f0 i4.toNat 14).int),(vi (f0 i4.toNat 15).int),(vi (f0 i4.toNat 16).int),(vi (f0 i4.toNat 17).int)]))) :: .agg [(.c (ro kP (f0 i4.toNat 6).len (f0 i4.toNat 6).el)),(.c (ro (.pr (.sl kP) .nil) (f0 i4.toNat 7).len (f0 i4.toNat 7).el))] :: .agg [(vcs (f1 i0.toNat 0).str),(vci (f1 i0.toNat 1).int),(vci (f1 i0.toNat 2).int),(vci (f1 i0.toNat 3).int),(vcb (f1 i0.toNat 4).bool)] :: .agg [(.c (ro kP x0.1 x0.2.1)),(.c (ro (.pr (.sl kP) .nil) x0.2.2.1 x0.2.2.2))] :: (us 38 [])))))))),[.box [(vcs w3),(vci i5),(.c (ro kE n1 f1))],.dead,.dead,.dead,.box [(.c (ro kP x0.1 x0.2.1)),(.c (ro (.pr (.sl kP) .nil) x0.2.2.1 x0.2.2.2))]]⟩
theorem g179v3 :
  (kBlk 0 (kSeq (C78 u) u (8 :: 11 :: (rl 27 14 [])) A33v10 (finish A33))) (.exit 0) (s179v2 n0 n1 f0 f1 i0 i1 i2 i3 i4 i5 (f1 i0.toNat 1).int (f1 i0.toNat 2).int (f1 i0.toNat 3).int (f1 i0.toNat 4).bool w0 w1 w2 w3 (f1 i0.toNat 0).str) =
  (bif (inb i1 n0) then (bif ((f0 i1.toNat 2).int != 1) then (some [.v (vi 10)]) else (bif ((!(ByteArray.toList (f0 i1.toNat 4).str == ByteArray.toList w2)) == false) then (bif ((f0 i1.toNat 5).int != i3) then (some [.v (vi 23)]) else (ob (F14 u (f0 i1.toNat 6).len (f0 i1.toNat 6).el (f0 i1.toNat 7).len (f0 i1.toNat 7).el) fun x0 => (bif (x0 != 0) then (some [.v (vi 17)]) else (ob (F178 u (f1 i0.toNat 0).str (f1 i0.toNat 1).int (f1 i0.toNat 2).int (f1 i0.toNat 3).int (f1 i0.toNat 4).bool) fun x1 => (bif (!x1) then (some [.v (vi 9)]) else (ob (F26 u (f0 i1.toNat 6).len (f0 i1.toNat 6).el (f0 i1.toNat 7).len (f0 i1.toNat 7).el (f1 i0.toNat 0).str (f1 i0.toNat 1).int (f1 i0.toNat 2).int (f1 i0.toNat 3).int (f1 i0.toNat 4).bool) fun x2 => (ob (F30 u x2.1 x2.2.1 x2.2.2.1 x2.2.2.2 i4 i5 i2) fun x3 => (bif (!x3) then (some [.v (vi 18)]) else (loopN (eB A33v6 (C78 u) u) N179v2 u (s179v7 n0 n1 f0 f1 i0 i3 i4 i5 i1 i2 w1 w2 w3 w0 x2) (kBlk 3 (kSeq (C78 u) u (8 :: 14 :: 15 :: (rl 84 29 [])) A33v7 (finish A33)))))))))))) else (some [.v (vi 23)]))) else none) := by kernel_rfl
theorem t179v4 (x0 : Nat × FF × Nat × FF) :
  loopN (eB A33v6 (C78 u) u) N179v2 u (s179v7 n0 n1 f0 f1 i0 i1 i2 i3 i4 i5 w0 w1 w2 w3 x0) k =
  L179v2 u n0 f0 i0 w3 i5 n1 f1 x0.1 x0.2.1 x0.2.2.1 x0.2.2.2 u 0 (k .ret s179v4) (k (.exit 3) s179v5) :=
 Eq.trans (loopN_at (by kernel_rfl)) (q179v2 ..)
theorem g179v5 :
  (kBlk 3 (kSeq (C78 u) u (8 :: 14 :: 15 :: (rl 84 29 [])) A33v7 (finish A33))) .ret s179v4 =
  (some [.v (vi 19)]) := by kernel_rfl
theorem g179v6 :
  (kBlk 3 (kSeq (C78 u) u (8 :: 14 :: 15 :: (rl 84 29 [])) A33v7 (finish A33))) (.exit 3) s179v5 =
  (some [.v (vi 0)]) := by kernel_rfl
theorem e179 : evalF (C78 u) u A33 [.agg [(.s w0),(vi i0),(ro kE n0 f0)],.agg [(.s w1),(.s w2),(vi i1),(vi i2),(vi i3),(.s w3)],.v (ro kA n1 f1),.v (vi i4)] = ob (F179 u w0 i0 n0 f0 w1 w2 i1 i2 i3 w3 n1 f1 i4) fun t => some [.v (vi t)] := Eq.trans (b := (bif (inb i4 n0) then (ob (F176 u n1 f1 (f0 i4.toNat 0).str) fun x0 => (bif (decide (x0 < 0)) then (some [.v (vi 8)]) else (loopN (eB A33v3 (C78 u) u) N179v1 u (s179v6 n0 n1 f0 f1 i0 i1 i2 i3 i4 x0 w0 w1 w2 w3) (kBlk 0 (kSeq (C78 u) u (8 :: 11 :: (rl 27 14 [])) A33v10 (finish A33)))))) else none)) (by kernel_rfl) (by
 simp only [F179,ob_bif,ob_ob,ob_none,ob_some,nl179v1,nl179v2,t179v1,g179v2,g179v3,t179v4,g179v5,g179v6])
def O179 : Ora := mkO (qc (ag (tc cS (tc ci (t1 (cL kE))))) (qc (ag (tc cS (tc cS (tc ci (tc ci (tc ci (t1 cS))))))) (qc (av (cL kA)) (q1 (av ci))))) (fun x => F179 u x.1.1 x.1.2.1 x.1.2.2.1 x.1.2.2.2 x.2.1.1 x.2.1.2.1 x.2.1.2.2.1 x.2.1.2.2.2.1 x.2.1.2.2.2.2.1 x.2.1.2.2.2.2.2 x.2.2.1.1 x.2.2.1.2 x.2.2.2) fun t => [.v (vi t)]
theorem d179 : DO (O179 u) (C78 u) 33 A33 := dO u (fun x => by exact e179 u x.1.2.2.1 x.2.2.1.1 x.1.2.2.2 x.2.2.1.2 x.1.2.1 x.2.1.2.2.1 x.2.1.2.2.2.1 x.2.1.2.2.2.2.1 x.2.2.2 x.1.1 x.2.1.1 x.2.1.2.1 x.2.1.2.2.2.2.2)
def C79 : Oracle := (C78 u).add 33 (fun _ => true) (O179 u)
def A12v1 : AC := (.region 9 [mv 30 7,o1 31 (bk .add 3 30 1),o1 7 (sg 31)] 0 none)
def A12v2 : AC := (.seq (.block 1
 (.seq (.region 10 [o1 32 (ln 24 3 3),o1 33 (ln 26 6 4),mv 34 2,mv 35 7,o1 36 (cs 33 [32,33,34,35] [24,26,27,3]),o1 8 (sg 36)] 0 none) []
  (.seq (.region 11 [mv 37 8,o1 38 (bk .neq 31 37 0)] 0 none) []
  (.cond (tm 38)
  (.seq (.region 12 [mv 39 8,o1 6 (sg 39)] 0 none) []
   (.ghost [0,1] (.ret (rl 0 6 (rl 7 33 [])))))
  .skip)))) (6 :: 8 :: (rl 32 8 []))
 A12v1)
def A12v3 : AC := (.seq (.seq (.region 8 [mv 25 7,o1 26 (fa 24 3 2 2),o1 27 (lo 22 26),o1 28 (.len 22 false (tm 27)),o1 29 (bt .lss 3 25 28)] 0 none) []
 (.cond (tm 29)
 .skip
 (.ghost [0,1] (.exit 0 (rl 0 40 []))))) (rl 25 5 [])
 A12v2)
def A12v4 : AC := (.seq (.region 13 [o1 6 (sk 0)] 0 none) []
 (.ghost [0,1] (.ret (rl 0 6 (rl 7 33 [])))))
def A12v5 : AC := (.seq (.seq (.region 7 [o1 7 (sk 0)] 0 none) []
 (.block 0
 (.loop [] (0 :: 1 :: 5 :: 6 :: (rl 8 32 []))
  A12v3))) (6 :: 7 :: 8 :: (rl 25 15 []))
 A12v4)
def A12v6 : AC := (.seq (.seq (.region 5 [o1 21 (fa 24 3 2 2),o1 22 (lo 22 21),o1 23 (.len 22 false (tm 22)),o1 24 (bk .gtr 3 23 32)] 0 none) []
 (.cond (tm 24)
 (.seq (.region 6 [o1 6 (sk 4)] 0 none) []
  (.ghost [0,1] (.ret (rl 0 6 (rl 7 33 [])))))
 .skip)) (6 :: (rl 21 4 []))
 A12v5)
def A12v7 : AC := (.seq (.seq (.region 3 [o1 17 (fa 24 3 2 2),o1 18 (lo 22 17),o1 19 (.len 22 false (tm 18)),o1 20 (bk .eql 3 19 0)] 0 none) []
 (.cond (tm 20)
 (.seq (.region 4 [o1 6 (sk 3)] 0 none) []
  (.ghost [0,1] (.ret (rl 0 6 (rl 7 33 [])))))
 .skip)) (6 :: (rl 17 4 []))
 A12v6)
def A12 : AF := ⟨40,[.tmp 6],
 (.seq (.region 0 [o1 3 (bx 0 24 0),o1 4 (bx 1 26 1),o1 6 (sk 0)] 2 none) []
 (.seq (.seq (.region 1 [o1 9 (fa 24 3 1 1),o1 10 (lo 3 9),o1 11 (bk .lss 3 10 0),mv 12 11,og 13 (fa 24 3 1 1) 12 false,og 14 (lo 3 13) 12 false,og 15 (bk .gtr 3 14 500) 12 false,o1 16 (pa 12 15)] 0 none) []
 (.cond (tm 16)
 (.seq (.region 2 [o1 6 (sk 9)] 0 none) []
  (.ghost [0,1] (.ret (rl 0 6 (rl 7 33 [])))))
 .skip)) (6 :: (rl 9 8 []))
 A12v7))⟩
def N180v1 : St → Option St := nN 2 (0 :: 1 :: 5 :: 6 :: (rl 8 32 []))
def s180v0 : St := ⟨(.u :: .u :: .x (.c (ro kA n0 f0)) :: .x (.ptr 0 0) :: .x (.ptr 1 0) :: .u :: .u :: vxi i0 :: (us 32 [])),[.box [(vcs w0),(vci i1),(.c (ro kE n1 f1))],.box [(vcs w1),(vcs w2),(vci i2),(vci i3),(vci i4),(vcs w3)]]⟩
def s180v1 : St := ⟨(us 6 (vxi i0 :: (us 33 []))),[.dead,.dead]⟩
def s180v2 : St := ⟨(us 40 []),[.dead,.dead]⟩
def L180v1 {ρ : Type} (u : Nat) (x0 : Nat) (x1 : FF) (x2 : ByteArray) (x3 : Int) (x4 : Nat) (x5 : FF) (x6 x7 : ByteArray) (x8 x9 xA : Int) (xB : ByteArray) : Nat → Int → (Int → Option ρ) → (Option ρ) → Option ρ
 | 0,_,_,_ => none
 | m + 1,xC,k0,k1 =>
  (bif (decide (xC < (Int.ofNat x4))) then (ob (F179 u x2 x3 x4 x5 x6 x7 x8 x9 xA xB x0 x1 xC) fun xD => (bif (xD != 0) then (k0 xD) else (L180v1 u x0 x1 x2 x3 x4 x5 x6 x7 x8 x9 xA xB m (w64 (xC + 1)) k0 k1))) else k1)
theorem nl180v1 : ∀ (m : Nat) (x0 : Int) (k0 : Int → Option ρ) (k1 : Option ρ),ob (L180v1 u n0 f0 w0 i0 n1 f1 w1 w2 i1 i2 i3 w3 m x0 k0 k1) ng = L180v1 u n0 f0 w0 i0 n1 f1 w1 w2 i1 i2 i3 w3 m x0 (fun x1 => ob (k0 x1) ng) (ob k1 ng)
 | 0,_,_,_ => rfl
 | m + 1,x0,k0,k1 => by
  simp only [L180v1,ob_bif,ob_ob,ob_none,nl180v1 m]
theorem r180v1 :
  loopH (eB A12v3 (C79 u) u) N180v1 (m + 1) (s180v0 n0 n1 f0 f1 i4 i0 i1 i2 i3 w0 w1 w2 w3) k =
  (bif (decide (i4 < (Int.ofNat n1))) then (ob (F179 u w0 i0 n1 f1 w1 w2 i1 i2 i3 w3 n0 f0 i4) fun x0 => (bif (x0 != 0) then (k .ret (s180v1 x0)) else (loopH (eB A12v3 (C79 u) u) N180v1 m (s180v0 n0 n1 f0 f1 (w64 (i4 + 1)) i0 i1 i2 i3 w0 w1 w2 w3) k))) else (k (.exit 0) s180v2)) := by kernel_rfl
theorem q180v1 : ∀ (m : Nat) (x0 : Int),
  loopH (eB A12v3 (C79 u) u) N180v1 m (s180v0 n0 n1 f0 f1 x0 i0 i1 i2 i3 w0 w1 w2 w3) k = L180v1 u n0 f0 w0 i0 n1 f1 w1 w2 i1 i2 i3 w3 m x0 (fun x1 => k .ret (s180v1 x1)) (k (.exit 0) s180v2)
 | 0,_ => rfl
 | m + 1,x0 => by
  rw [r180v1]
  simp only [L180v1,q180v1 m]
def F180 (x0 : ByteArray) (x1 : Int) (x2 : Nat) (x3 : FF) (x4 x5 : ByteArray) (x6 x7 x8 : Int) (x9 : ByteArray) (xA : Nat) (xB : FF) : Option (Int) :=
 (bif ((decide (x1 < 0)) == false) then (bif (decide (x1 > 500)) then (some 9) else (bif ((Int.ofNat x2) == 0) then (some 3) else (bif (decide ((Int.ofNat x2) > 32)) then (some 4) else (L180v1 u xA xB x0 x1 x2 x3 x4 x5 x6 x7 x8 x9 u 0
  (fun xC => (some xC))
  (some 0))))) else (some 9))
def s180v3 : St := ⟨(.agg [(vcs w0),(vci i0),(.c (ro kE n0 f0))] :: .agg [(vcs w1),(vcs w2),(vci i1),(vci i2),(vci i3),(vcs w3)] :: .x (.c (ro kA n1 f1)) :: .x (.ptr 0 0) :: .x (.ptr 1 0) :: uu :: .u :: vxi 0 :: uu :: (us 16 [uu,uu,uu,uu,uu,uu,uu,uu,uu,uu,uu,uu,uu,uu,uu])),[.box [(vcs w0),(vci i0),(.c (ro kE n0 f0))],.box [(vcs w1),(vcs w2),(vci i1),(vci i2),(vci i3),(vcs w3)]]⟩
theorem t180v1 :
  loopN (eB A12v3 (C79 u) u) N180v1 u (s180v3 n0 n1 f0 f1 i0 i1 i2 i3 w0 w1 w2 w3) k =
  L180v1 u n1 f1 w0 i0 n0 f0 w1 w2 i1 i2 i3 w3 u 0 (fun x0 => k .ret (s180v1 x0)) (k (.exit 0) s180v2) :=
 Eq.trans (loopN_at (by kernel_rfl)) (q180v1 ..)
theorem g180v2 :
  (kBlk 0 (kSeq (C79 u) u (6 :: 7 :: 8 :: (rl 25 15 [])) A12v4 (finish A12))) .ret (s180v1 i0) =
  (some [.v (vi i0)]) := by kernel_rfl
theorem g180v3 :
  (kBlk 0 (kSeq (C79 u) u (6 :: 7 :: 8 :: (rl 25 15 [])) A12v4 (finish A12))) (.exit 0) s180v2 =
  (some [.v (vi 0)]) := by kernel_rfl
theorem e180 : evalF (C79 u) u A12 [.agg [(.s w0),(vi i0),(ro kE n0 f0)],.agg [(.s w1),(.s w2),(vi i1),(vi i2),(vi i3),(.s w3)],.v (ro kA n1 f1)] = ob (F180 u w0 i0 n0 f0 w1 w2 i1 i2 i3 w3 n1 f1) fun t => some [.v (vi t)] := Eq.trans (b := (bif ((decide (i0 < 0)) == false) then (bif (decide (i0 > 500)) then (some [.v (vi 9)]) else (bif ((Int.ofNat n0) == 0) then (some [.v (vi 3)]) else (bif (decide ((Int.ofNat n0) > 32)) then (some [.v (vi 4)]) else (loopN (eB A12v3 (C79 u) u) N180v1 u (s180v3 n0 n1 f0 f1 i0 i1 i2 i3 w0 w1 w2 w3) (kBlk 0 (kSeq (C79 u) u (6 :: 7 :: 8 :: (rl 25 15 [])) A12v4 (finish A12))))))) else (some [.v (vi 9)]))) (by kernel_rfl) (by
 simp only [F180,ob_bif,ob_ob,ob_none,ob_some,nl180v1,t180v1,g180v2,g180v3])
def O180 : Ora := mkO (qc (ag (tc cS (tc ci (t1 (cL kE))))) (qc (ag (tc cS (tc cS (tc ci (tc ci (tc ci (t1 cS))))))) (q1 (av (cL kA))))) (fun x => F180 u x.1.1 x.1.2.1 x.1.2.2.1 x.1.2.2.2 x.2.1.1 x.2.1.2.1 x.2.1.2.2.1 x.2.1.2.2.2.1 x.2.1.2.2.2.2.1 x.2.1.2.2.2.2.2 x.2.2.1 x.2.2.2) fun t => [.v (vi t)]
theorem d180 : DO (O180 u) (C79 u) 12 A12 := dO u (fun x => by exact e180 u x.1.2.2.1 x.2.2.1 x.1.2.2.2 x.2.2.2 x.1.2.1 x.2.1.2.2.1 x.2.1.2.2.2.1 x.2.1.2.2.2.2.1 x.1.1 x.2.1.1 x.2.1.2.1 x.2.1.2.2.2.2.2)
def C80 : Oracle := (C79 u).add 12 (fun _ => true) (O180 u)
def A34 : AF := ⟨17,[.cell 4 56 (some 18)],
 (.seq (.region 0 [o1 4 (.alloc 0 56 [vcs ByteArray.empty,vci 0,vci 0,vcs ByteArray.empty,vcs ByteArray.empty,vci 0,vcn,vcn,vcs ByteArray.empty,vci 0,vci 0,vci 0,vci 0,vci 0,vci 0,vci 0,vci 0,vci 0])] 1 none) []
 (.seq (.region 1 [mv 5 0,o1 6 (.build 41 [vci 0,vci 0] [(0,1),(1,1)] 0 []),mv 7 1,o1 8 (.build 41 [vci 0,vci 0] [(0,1),(1,1)] 0 [(0,(tm 7))]),mv 9 1,mv 10 1,o1 11 (.build 41 [vci 0,vci 0] [(0,1),(1,1)] 0 [(0,(tm 9)),(1,(tm 10))]),mv 12 1,o1 13 (.build 41 [vci 0,vci 0] [(0,1),(1,1)] 0 [(1,(tm 12))]),o1 14 (.buildSlice 0 47 41 kP 4 [vci 0,vci 0] [(0,(tm 6)),(1,(tm 8)),(2,(tm 11)),(3,(tm 13))]),o1 15 (.build 50 [vcn,vcn] [(0,1),(1,1)] 0 [(0,(tm 14))]),o1 16 (.build 56 [vcs ByteArray.empty,vci 0,vci 0,vcs ByteArray.empty,vcs ByteArray.empty,vci 0,vcn,vcn,vcs ByteArray.empty,vci 0,vci 0,vci 0,vci 0,vci 0,vci 0,vci 0,vci 0,vci 0] [(0,1),(1,1),(2,1),(3,1),(4,1),(5,1),(6,2),(8,1),(9,1),(10,1),(11,3),(14,4)] 0 [(0,(tm 5)),(1,(ic 1)),(2,(ic 1)),(3,(.const (.string (ByteArray.mk #[66])))),(4,(.const (.string (ByteArray.mk #[65])))),(5,(ic 10)),(6,(tm 15))]),o0 (.store 56 18 (tm 4) (tm 16))] 1 none) []
 (.ret (rl 0 4 (rl 5 12 [])))))⟩
def FT169 (u : Nat) (x0 : ByteArray) (x1 : Int) : Option (ByteArray × Int × Int × ByteArray × ByteArray × Int × Nat × FF × Nat × FF × ByteArray × Int × Int × Int × Int × Int × Int × Int × Int × Int) :=
 (some (x0,1,1,(ByteArray.mk #[66]),(ByteArray.mk #[65]),10,4,(rowsF 2 [(.i .i64 0),(.i .i64 0),(.i .i64 x1),(.i .i64 0),(.i .i64 x1),(.i .i64 x1),(.i .i64 0),(.i .i64 x1)]),0,(fun _ _ => .any),ByteArray.empty,0,0,0,0,0,0,0,0,0))
theorem e169 : evalF (C80 u) u A34 [.v (.s w0),.v (vi i0)] = ob (FT169 u w0 i0) fun t => some [.agg [(.s t.1),(vi 1),(vi 1),(.s (ByteArray.mk #[66])),(.s (ByteArray.mk #[65])),(vi 10),(ro kP 4 t.2.2.2.2.2.2.2.1),(.ro true .nil 0 nilF),(.s ByteArray.empty),(vi 0),(vi 0),(vi 0),(vi 0),(vi 0),(vi 0),(vi 0),(vi 0),(vi 0)]] := Eq.trans (b := (some [.agg [(.s w0),(vi 1),(vi 1),(.s (ByteArray.mk #[66])),(.s (ByteArray.mk #[65])),(vi 10),(ro kP 4 (rowsF 2 [(vi 0),(vi 0),(vi i0),(vi 0),(vi i0),(vi i0),(vi 0),(vi i0)])),(.ro true .nil 0 nilF),(.s ByteArray.empty),(vi 0),(vi 0),(vi 0),(vi 0),(vi 0),(vi 0),(vi 0),(vi 0),(vi 0)]])) (by kernel_rfl) (by
 simp only [FT169,ob_bif,ob_ob,ob_none,ob_some])
def F169 (x0 : ByteArray) (x1 : Int) : Option (ByteArray × Int × Int × ByteArray × ByteArray × Int × Nat × FF × Nat × FF × ByteArray × Int × Int × Int × Int × Int × Int × Int × Int × Int) := ob (FT169 u x0 x1) fun t => some (t.1,1,1,(ByteArray.mk #[66]),(ByteArray.mk #[65]),10,4,t.2.2.2.2.2.2.2.1,0,(fun _ _ => .any),ByteArray.empty,0,0,0,0,0,0,0,0,0)
def O169 : Ora := mkO (qc (av cS) (q1 (av ci))) (fun x => F169 u x.1 x.2) fun t => [.agg [(.s t.1),(vi t.2.1),(vi t.2.2.1),(.s t.2.2.2.1),(.s t.2.2.2.2.1),(vi t.2.2.2.2.2.1),(ro kP t.2.2.2.2.2.2.1 t.2.2.2.2.2.2.2.1),(ro (.pr (.sl kP) .nil) t.2.2.2.2.2.2.2.2.1 t.2.2.2.2.2.2.2.2.2.1),(.s t.2.2.2.2.2.2.2.2.2.2.1),(vi t.2.2.2.2.2.2.2.2.2.2.2.1),(vi t.2.2.2.2.2.2.2.2.2.2.2.2.1),(vi t.2.2.2.2.2.2.2.2.2.2.2.2.2.1),(vi t.2.2.2.2.2.2.2.2.2.2.2.2.2.2.1),(vi t.2.2.2.2.2.2.2.2.2.2.2.2.2.2.2.1),(vi t.2.2.2.2.2.2.2.2.2.2.2.2.2.2.2.2.1),(vi t.2.2.2.2.2.2.2.2.2.2.2.2.2.2.2.2.2.1),(vi t.2.2.2.2.2.2.2.2.2.2.2.2.2.2.2.2.2.2.1),(vi t.2.2.2.2.2.2.2.2.2.2.2.2.2.2.2.2.2.2.2)]]
theorem d169 : DO (O169 u) (C80 u) 34 A34 := dW u (fun x => by exact e169 u x.2 x.1) (fun _ => rfl) fun t => by
 exact (.cons (WkA.agg (.cons (Wk.refl _) (.cons (Wk.refl _) (.cons (Wk.refl _) (.cons (Wk.refl _) (.cons (Wk.refl _) (.cons (Wk.refl _) (.cons (Wk.refl _) (.cons (Wk.ro (by rfl)) (.cons (Wk.refl _) (.cons (Wk.refl _) (.cons (Wk.refl _) (.cons (Wk.refl _) (.cons (Wk.refl _) (.cons (Wk.refl _) (.cons (Wk.refl _) (.cons (Wk.refl _) (.cons (Wk.refl _) (.cons (Wk.refl _) .nil))))))))))))))))))) .nil)
def C81 : Oracle := (C80 u).add 34 (fun _ => true) (O169 u)
def A14v1 : AC := (.region 9 [mv 29 4,o1 30 (fa 56 8 6 6),o1 31 (ln 50 2 30),o1 32 (ln 43 5 7),o1 33 (cf 31 [31,32] [50,43]),o1 34 (.buildSlice 0 34 50 kF 1 [vcn,vcn] [(0,(tm 33))]),o1 35 (.append 1 34 50 kF 48 (tm 29) (tm 34)),o1 4 (sg 35)] 2 none)
def A14v2 : AC := (.seq (.seq (.region 7 [o1 26 (ln 43 5 7),o1 27 (cs 32 [26] [43]),o1 28 (.unOp .not 4 (tm 27))] 0 none) []
 (.cond (tm 28)
 (.seq (.region 8 [o1 4 (.assign (.const (.slice none 0 0))),o1 5 (sk 9)] 0 none) []
  (.ghost (rl 0 4 []) (.ret (rl 0 4 (rl 6 32 [])))))
 .skip)) [5,26,27,28]
 A14v1)
def A14v3 : AC := (.region 10 [o1 36 (bk .add 3 13 1),mv 13 36] 0 none)
def A14v4 : AC := (.seq (.block 1
 (.seq (.region 3 [o1 15 (.indexAddr 22 43 5 (tm 11) (tm 13)),o1 16 (ln 43 5 15),o1 7 (.alloc 0 43 [vcs ByteArray.empty,vci 0,vci 0,vci 0,vcb false]),o0 (.store 43 5 (tm 7) (tm 16))] 1 none) []
  (.seq (.region 4 [mv 18 1,o1 19 (fa 43 7 0 0),o1 20 (lo 9 19),o1 21 (cf 30 [18,20] [27,9]),mv 17 21,o1 22 (.extract (tm 17) 0),o1 23 (.extract (tm 17) 1),o1 8 (.alloc 0 56 [vcs ByteArray.empty,vci 0,vci 0,vcs ByteArray.empty,vcs ByteArray.empty,vci 0,vcn,vcn,vcs ByteArray.empty,vci 0,vci 0,vci 0,vci 0,vci 0,vci 0,vci 0,vci 0,vci 0]),o0 (.store 56 18 (tm 8) (tm 22)),o1 9 (sg 23)] 1 none) []
  (.seq (.seq (.region 5 [mv 24 9,o1 25 (.unOp .not 4 (tm 24))] 0 none) []
  (.cond (tm 25)
  (.seq (.region 6 [o1 4 (.assign (.const (.slice none 0 0))),o1 5 (sk 8)] 0 none) []
   (.ghost (rl 0 4 []) (.ret (rl 0 4 (rl 6 32 [])))))
  .skip)) [5,24,25]
  A14v2)))) (5 :: 7 :: 8 :: 9 :: (rl 15 21 []))
 A14v3)
def A14v5 : AC := (.seq (.region 2 [o1 14 (bt .lss 3 13 12)] 0 none) []
 (.seq (.cond (tm 14)
 .skip
 (.ghost [0] (.exit 0 (rl 0 4 (rl 5 33 []))))) []
 A14v4))
def A14v6 : AC := (.seq (.region 11 [mv 37 4,o1 4 (sg 37),o1 5 (sk 0)] 0 none) []
 (.ghost [0] (.ret (rl 0 4 (rl 6 32 [])))))
def A14 : AF := ⟨38,[.tmp 4,.tmp 5],
 (.seq (.region 0 [o1 2 (bx 0 24 0),o1 4 (.assign (.const (.slice none 0 0))),o1 5 (sk 0)] 1 none) []
 (.seq (.seq (.region 1 [o1 10 (fa 24 2 2 2),o1 11 (lo 22 10),o1 12 (.len 22 false (tm 11)),o1 13 (.move (ic 0))] 0 none) []
 (.block 0
 (.ghost [0] (.loop [.slot 4 kF] (0 :: 2 :: 3 :: (rl 5 6 (rl 14 24 [])))
  A14v5)))) (5 :: (rl 7 30 []))
 A14v6))⟩
def N175v1 : St → Option St := nN 2 (0 :: 2 :: 3 :: (rl 5 6 (rl 14 24 [])))
def s175v0 : St := ⟨(.u :: .x (.c (ro kA n0 f0)) :: .u :: .u :: .x (.own 1 0 n1) :: (us 6 (.x (.c (ro kE n2 f1)) :: vxi i0 :: vxi i1 :: (us 24 [])))),[.dead,.arr kF n1 f2]⟩
def s175v1 : St := ⟨(us 4 (.x (vcn) :: vxi i0 :: (us 32 []))),[.dead,.dead,.dead,.dead]⟩
def s175v2 : St := ⟨(us 4 (.x (.own 1 0 n0) :: (us 33 []))),[.dead,.arr kF n0 f0]⟩
def L175v1 {ρ : Type} (u : Nat) (x0 : Nat) (x1 : FF) (x2 : Nat) (x3 : FF) (x4 : Int) : Nat → Nat → Int → FF → (Int → Option ρ) → (Nat → FF → Option ρ) → Option ρ
 | 0,_,_,_,_,_ => none
 | m + 1,x5,x6,x7,k0,k1 =>
  (bif (decide (x6 < x4)) then (bif (inb x6 x2) then (ob (F172 u x0 x1 (x3 x6.toNat 0).str) fun x8 => (bif (!x8.2.2.2.2.2.2.2.2.2.2.2.2.2.2.2.2.2.2.2.2) then (k0 8) else (ob (F174 u (x3 x6.toNat 0).str (x3 x6.toNat 1).int (x3 x6.toNat 2).int (x3 x6.toNat 3).int (x3 x6.toNat 4).bool) fun x9 => (bif (!x9) then (k0 9) else (ob (F25 u x8.2.2.2.2.2.2.1 x8.2.2.2.2.2.2.2.1 x8.2.2.2.2.2.2.2.2.1 x8.2.2.2.2.2.2.2.2.2.1 (x3 x6.toNat 0).str (x3 x6.toNat 1).int (x3 x6.toNat 2).int (x3 x6.toNat 3).int (x3 x6.toNat 4).bool) fun xA => (bif (Nat.ble (x5 + 1) 1073741824) then (L175v1 u x0 x1 x2 x3 x4 m (x5 + 1) (w64 (x6 + 1)) (joinF x5 x7 (rowsF 2 [(.ro false (.pr (.int .i64) (.pr (.int .i64) .nil)) xA.1 xA.2.1),(.ro false (.pr (.sl (.pr (.int .i64) (.pr (.int .i64) .nil))) .nil) xA.2.2.1 xA.2.2.2)])) k0 k1) else none)))))) else none) else (k1 x5 x7))
theorem nl175v1 : ∀ (m : Nat) (x0 : Nat) (x1 : Int) (x2 : FF) (k0 : Int → Option ρ) (k1 : Nat → FF → Option ρ),ob (L175v1 u n0 f0 n1 f1 i0 m x0 x1 x2 k0 k1) ng = L175v1 u n0 f0 n1 f1 i0 m x0 x1 x2 (fun x3 => ob (k0 x3) ng) (fun x4 x5 => ob (k1 x4 x5) ng)
 | 0,_,_,_,_,_ => rfl
 | m + 1,x0,x1,x2,k0,k1 => by
  simp only [L175v1,ob_bif,ob_ob,ob_none,nl175v1 m]
theorem r175v1 :
  loopH (eB A14v5 (C81 u) u) N175v1 (m + 1) (s175v0 n0 n2 n1 f0 f1 f2 i0 i1) k =
  (bif (decide (i1 < i0)) then (bif (inb i1 n1) then (ob (F172 u n0 f0 (f1 i1.toNat 0).str) fun x0 => (bif (!x0.2.2.2.2.2.2.2.2.2.2.2.2.2.2.2.2.2.2.2.2) then (k .ret (s175v1 8)) else (ob (F174 u (f1 i1.toNat 0).str (f1 i1.toNat 1).int (f1 i1.toNat 2).int (f1 i1.toNat 3).int (f1 i1.toNat 4).bool) fun x1 => (bif (!x1) then (k .ret (s175v1 9)) else (ob (F25 u x0.2.2.2.2.2.2.1 x0.2.2.2.2.2.2.2.1 x0.2.2.2.2.2.2.2.2.1 x0.2.2.2.2.2.2.2.2.2.1 (f1 i1.toNat 0).str (f1 i1.toNat 1).int (f1 i1.toNat 2).int (f1 i1.toNat 3).int (f1 i1.toNat 4).bool) fun x2 => (bif (Nat.ble (n2 + 1) 1073741824) then (loopH (eB A14v5 (C81 u) u) N175v1 m (s175v0 n0 (n2 + 1) n1 f0 f1 (joinF n2 f2 (rowsF 2 [(ro kP x2.1 x2.2.1),(ro (.pr (.sl kP) .nil) x2.2.2.1 x2.2.2.2)])) i0 (w64 (i1 + 1))) k) else none)))))) else none) else (k (.exit 0) (s175v2 n2 f2))) := by kernel_rfl
theorem q175v1 : ∀ (m : Nat) (x0 : Nat) (x1 : Int) (x2 : FF),
  loopH (eB A14v5 (C81 u) u) N175v1 m (s175v0 n0 x0 n1 f0 f1 x2 i0 x1) k = L175v1 u n0 f0 n1 f1 i0 m x0 x1 x2 (fun x3 => k .ret (s175v1 x3)) (fun x4 x5 => k (.exit 0) (s175v2 x4 x5))
 | 0,_,_,_ => rfl
 | m + 1,x0,x1,x2 => by
  rw [r175v1]
  simp only [L175v1,q175v1 m]
def FT175 (x0 : ByteArray) (x1 : Int) (x2 : Nat) (x3 : FF) (x4 : Nat) (x5 : FF) : Option (Bool × Nat × FF × Int) :=
 (L175v1 u x4 x5 x2 x3 (Int.ofNat x2) u 0 0 (fun _ _ => .any)
  (fun x6 => (some (true,0,(fun _ _ => .any),x6)))
  (fun x7 x8 => (some (false,x7,x8,0))))
def s175v3 : St := ⟨[.agg [(vcs w0),(vci i0),(.c (ro kE n0 f0))],.x (.c (ro kA n1 f1)),.x (.c (.rp kC (listF [(.s w0),(vi i0),(ro kE n0 f0)]))),uu,.x (.own 1 0 0),vxi 0,uu,uu,uu,uu,.x (.c (.rp kD (listF [(ro kE n0 f0)]))),.x (.c (ro kE n0 f0)),vxi (Int.ofNat n0),vxi 0,uu,uu,uu,uu,uu,uu,uu,uu,uu,uu,uu,uu,uu,uu,uu,uu,uu,uu,uu,uu,uu,uu,uu,uu],[.dead,.arr kF 0 nilF]⟩
theorem t175v1 :
  loopN (eB A14v5 (C81 u) u) N175v1 u (s175v3 n0 n1 f0 f1 i0 w0) k =
  L175v1 u n1 f1 n0 f0 (Int.ofNat n0) u 0 0 nilF (fun x0 => k .ret (s175v1 x0)) (fun x1 x2 => k (.exit 0) (s175v2 x1 x2)) :=
 Eq.trans (loopN_at (by kernel_rfl)) (q175v1 ..)
theorem g175v2 :
  (kBlk 0 (kSeq (C81 u) u (5 :: (rl 7 30 [])) A14v6 (finish A14))) .ret (s175v1 i0) =
  (some [.v (.ro true .nil 0 nilF),.v (vi i0)]) := by kernel_rfl
theorem g175v3 :
  (kBlk 0 (kSeq (C81 u) u (5 :: (rl 7 30 [])) A14v6 (finish A14))) (.exit 0) (s175v2 n0 f0) =
  (some [.v (ro kF n0 f0),.v (vi 0)]) := by kernel_rfl
theorem e175 : evalF (C81 u) u A14 [.agg [(.s w0),(vi i0),(ro kE n0 f0)],.v (ro kA n1 f1)] = ob (FT175 u w0 i0 n0 f0 n1 f1) fun t => some (bif t.1 then [.v (.ro true .nil 0 nilF),.v (vi t.2.2.2)] else [.v (ro kF t.2.1 t.2.2.1),.v (vi 0)]) := Eq.trans (b := (loopN (eB A14v5 (C81 u) u) N175v1 u (s175v3 n0 n1 f0 f1 i0 w0) (kBlk 0 (kSeq (C81 u) u (5 :: (rl 7 30 [])) A14v6 (finish A14))))) (by kernel_rfl) (by
 simp only [FT175,ob_bif,ob_ob,ob_none,ob_some,nl175v1,t175v1,g175v2,g175v3,cond_true,cond_false])
def F175 (x0 : ByteArray) (x1 : Int) (x2 : Nat) (x3 : FF) (x4 : Nat) (x5 : FF) : Option (Nat × FF × Int) := ob (FT175 u x0 x1 x2 x3 x4 x5) fun t => some (bif t.1 then (0,(fun _ _ => .any),t.2.2.2) else (t.2.1,t.2.2.1,0))
def O175 : Ora := mkO (qc (ag (tc cS (tc ci (t1 (cL kE))))) (q1 (av (cL kA)))) (fun x => F175 u x.1.1 x.1.2.1 x.1.2.2.1 x.1.2.2.2 x.2.1 x.2.2) fun t => [.v (ro kF t.1 t.2.1),.v (vi t.2.2)]
theorem d175 : DO (O175 u) (C81 u) 14 A14 := dW u (fun x => by exact e175 u x.1.2.2.1 x.2.1 x.1.2.2.2 x.2.2 x.1.2.1 x.1.1) (fun _ => rfl) fun t => by
 obtain ⟨b,t⟩ := t
 cases b with
 | true => exact (.cons (WkA.v (Wk.ro (by rfl))) (.cons (WkA.v (Wk.refl _)) .nil))
 | false =>
  exact (.cons (WkA.v (Wk.refl _)) (.cons (WkA.v (Wk.refl _)) .nil))
def C82 : Oracle := (C81 u).add 14 (fun _ => true) (O175 u)
def A28v1 : AC := (.seq (.block 1
 (.seq (.region 6 [o1 14 (.indexAddr 48 47 1 (tm 10) (tm 12)),o1 15 (lo 47 14),o1 5 (sg 15)] 0 none) []
  (.region 7 [mv 16 3,mv 17 5,o1 18 (cs 47 [17] [47]),o1 19 (bt .add 3 16 18),o1 3 (sg 19)] 0 none))) []
 (.region 8 [o1 20 (bk .add 3 12 1),mv 12 20] 0 none))
def A28v2 : AC := (.seq (.region 5 [o1 13 (bt .lss 3 12 11)] 0 none) []
 (.seq (.cond (tm 13)
 .skip
 (.exit 0 (0 :: 1 :: 2 :: (rl 4 18 [])))) []
 A28v1))
def A28v3 : AC := (.seq (.region 9 [mv 21 3,o1 2 (sg 21)] 0 none) []
 (.ret (0 :: 1 :: (rl 3 19 []))))
def A28v4 : AC := (.seq (.region 3 [o1 3 (sk 0)] 0 none) []
 (.seq (.seq (.region 4 [o1 9 (ln 50 2 1),o1 10 (cf 44 [9] [50]),o1 11 (.len 48 false (tm 10)),o1 12 (.move (ic 0))] 0 none) []
 (.block 0
 (.loop [] (0 :: 1 :: 2 :: (rl 4 6 (rl 13 9 [])))
  A28v2))) (5 :: (rl 9 12 []))
 A28v3))
def A28 : AF := ⟨22,[.tmp 2],
 (.seq (.region 0 [o1 1 (bx 0 50 0),o1 2 (sk 0)] 1 none) []
 (.seq (.seq (.region 1 [o1 6 (ln 50 2 1),o1 7 (cs 24 [6] [50]),o1 8 (bk .neq 31 7 0)] 0 none) []
 (.cond (tm 8)
 (.seq (.region 2 [o1 2 (sk 0)] 0 none) []
  (.ret (0 :: 1 :: (rl 3 19 []))))
 .skip)) [2,6,7,8]
 A28v4))⟩
def N18v1 : St → Option St := nN 1 (0 :: 1 :: 2 :: (rl 4 6 (rl 13 9 [])))
def s18v0 : St := ⟨(us 3 (vxi i0 :: (us 6 (.x (.c (ro (.pr (.sl kP) .nil) n0 f0)) :: vxi i1 :: vxi i2 :: (us 9 []))))),[.box [(.c (ro kP n1 f1)),(.c (ro (.pr (.sl kP) .nil) n2 f2))]]⟩
def s18v1 : St := ⟨(us 3 (vxi i0 :: (us 18 []))),[.box [(.c (ro kP n0 f0)),(.c (ro (.pr (.sl kP) .nil) n1 f1))]]⟩
def L18v1 {ρ : Type} (u : Nat) (x0 : Nat) (x1 : FF) (x2 : Int) (x3 : Nat) (x4 : FF) (x5 : Nat) (x6 : FF) : Nat → Int → Int → (Int → Option ρ) → Option ρ
 | 0,_,_,_ => none
 | m + 1,x7,x8,k0 =>
  (bif (decide (x8 < x2)) then (bif (inb x8 x0) then (ob (F34 u (x1 x8.toNat 0).len (x1 x8.toNat 0).el) fun x9 => (L18v1 u x0 x1 x2 x3 x4 x5 x6 m (w64 (x7 + x9)) (w64 (x8 + 1)) k0)) else none) else (k0 x7))
theorem nl18v1 : ∀ (m : Nat) (x0 x1 : Int) (k0 : Int → Option ρ),ob (L18v1 u n0 f0 i0 n1 f1 n2 f2 m x0 x1 k0) ng = L18v1 u n0 f0 i0 n1 f1 n2 f2 m x0 x1 (fun x2 => ob (k0 x2) ng)
 | 0,_,_,_ => rfl
 | m + 1,x0,x1,k0 => by
  simp only [L18v1,ob_bif,ob_ob,ob_none,nl18v1 m]
theorem r18v1 :
  loopH (eB A28v2 (C82 u) u) N18v1 (m + 1) (s18v0 n0 n1 n2 f0 f1 f2 i1 i0 i2) k =
  (bif (decide (i2 < i0)) then (bif (inb i2 n0) then (ob (F34 u (f0 i2.toNat 0).len (f0 i2.toNat 0).el) fun x0 => (loopH (eB A28v2 (C82 u) u) N18v1 m (s18v0 n0 n1 n2 f0 f1 f2 (w64 (i1 + x0)) i0 (w64 (i2 + 1))) k)) else none) else (k (.exit 0) (s18v1 n1 n2 f1 f2 i1))) := by kernel_rfl
theorem q18v1 : ∀ (m : Nat) (x0 x1 : Int),
  loopH (eB A28v2 (C82 u) u) N18v1 m (s18v0 n0 n1 n2 f0 f1 f2 x0 i0 x1) k = L18v1 u n0 f0 i0 n1 f1 n2 f2 m x0 x1 (fun x2 => k (.exit 0) (s18v1 n1 n2 f1 f2 x2))
 | 0,_,_ => rfl
 | m + 1,x0,x1 => by
  rw [r18v1]
  simp only [L18v1,q18v1 m]
def F18 (x0 : Nat) (x1 : FF) (x2 : Nat) (x3 : FF) : Option (Int) :=
 (ob (F13 u x0 x1 x2 x3) fun x4 => (bif (x4 != 0) then (some 0) else (ob (F42 u x0 x1 x2 x3) fun x5 => (L18v1 u x5.1 x5.2 (Int.ofNat x5.1) x0 x1 x2 x3 u 0 0
  (fun x6 => (some x6))))))
def s18v2 (x0 : Nat × FF) : St := ⟨(.agg [(.c (ro kP n0 f0)),(.c (ro (.pr (.sl kP) .nil) n1 f1))] :: .x (.ptr 0 0) :: .u :: vxi 0 :: uu :: uu :: (us 3 [.agg [(.c (ro kP n0 f0)),(.c (ro (.pr (.sl kP) .nil) n1 f1))],.x (.c (ro (.pr (.sl kP) .nil) x0.1 x0.2)),vxi (Int.ofNat x0.1),vxi 0,uu,uu,uu,uu,uu,uu,uu,uu,uu])),[.box [(.c (ro kP n0 f0)),(.c (ro (.pr (.sl kP) .nil) n1 f1))]]⟩
theorem t18v1 (x0 : Nat × FF) :
  loopN (eB A28v2 (C82 u) u) N18v1 u (s18v2 n0 n1 f0 f1 x0) k =
  L18v1 u x0.1 x0.2 (Int.ofNat x0.1) n0 f0 n1 f1 u 0 0 (fun x1 => k (.exit 0) (s18v1 n0 n1 f0 f1 x1)) :=
 Eq.trans (loopN_at (by kernel_rfl)) (q18v1 ..)
theorem g18v2 :
  (kBlk 0 (kSeq (C82 u) u (5 :: (rl 9 12 [])) A28v3 (finish A28))) (.exit 0) (s18v1 n0 n1 f0 f1 i0) =
  (some [.v (vi i0)]) := by kernel_rfl
theorem e18 : evalF (C82 u) u A28 [.agg [(ro kP n0 f0),(ro (.pr (.sl kP) .nil) n1 f1)]] = ob (F18 u n0 f0 n1 f1) fun t => some [.v (vi t)] := Eq.trans (b := (ob (F13 u n0 f0 n1 f1) fun x0 => (bif (x0 != 0) then (some [.v (vi 0)]) else (ob (F42 u n0 f0 n1 f1) fun x1 => (loopN (eB A28v2 (C82 u) u) N18v1 u (s18v2 n0 n1 f0 f1 x1) (kBlk 0 (kSeq (C82 u) u (5 :: (rl 9 12 [])) A28v3 (finish A28)))))))) (by kernel_rfl) (by
 simp only [F18,ob_bif,ob_ob,ob_none,ob_some,nl18v1,t18v1,g18v2])
def O18 : Ora := mkO (q1 (ag (tc (cL kP) (t1 (cL (.pr (.sl kP) .nil)))))) (fun x => F18 u x.1.1 x.1.2 x.2.1 x.2.2) fun t => [.v (vi t)]
theorem d18 : DO (O18 u) (C82 u) 28 A28 := dO u (fun x => by exact e18 u x.1.1 x.2.1 x.1.2 x.2.2)
def C83 : Oracle := (C82 u).add 28 (fun _ => true) (O18 u)
def A17v1 : AC := (.region 9 [o1 33 (bk .add 3 16 1),mv 16 33] 0 none)
def A17v2 : AC := (.seq (.block 1
 (.seq (.region 5 [o1 18 (.indexAddr 22 43 5 (tm 14) (tm 16)),o1 19 (ln 43 5 18),o1 6 (.alloc 0 43 [vcs ByteArray.empty,vci 0,vci 0,vci 0,vcb false]),o0 (.store 43 5 (tm 6) (tm 19))] 1 none) []
  (.seq (.region 6 [mv 21 1,o1 22 (fa 43 6 0 0),o1 23 (lo 9 22),o1 24 (cf 30 [21,23] [27,9]),mv 20 24,o1 25 (.extract (tm 20) 0),o1 26 (.extract (tm 20) 1),o1 7 (.alloc 0 56 [vcs ByteArray.empty,vci 0,vci 0,vcs ByteArray.empty,vcs ByteArray.empty,vci 0,vcn,vcn,vcs ByteArray.empty,vci 0,vci 0,vci 0,vci 0,vci 0,vci 0,vci 0,vci 0,vci 0]),o0 (.store 56 18 (tm 7) (tm 25)),o1 8 (sg 26)] 1 none) []
  (.seq (.region 7 [mv 27 8] 0 none) []
  (.cond (tm 27)
  (.region 8 [mv 28 4,o1 29 (fa 56 7 6 6),o1 30 (ln 50 2 29),o1 31 (cs 28 [30] [50]),o1 32 (bt .add 3 28 31),o1 4 (sg 32)] 0 none)
  .skip))))) (6 :: 7 :: 8 :: (rl 18 15 []))
 A17v1)
def A17v3 : AC := (.seq (.region 4 [o1 17 (bt .lss 3 16 15)] 0 none) []
 (.seq (.cond (tm 17)
 .skip
 (.ghost [0] (.exit 0 (rl 0 4 (rl 5 30 []))))) []
 A17v2))
def A17v4 : AC := (.seq (.region 10 [mv 34 4,o1 4 (sg 34)] 0 none) []
 (.ghost [0] (.ret (rl 0 4 (rl 5 30 [])))))
def A17v5 : AC := (.seq (.seq (.region 3 [o1 13 (fa 24 2 2 2),o1 14 (lo 22 13),o1 15 (.len 22 false (tm 14)),o1 16 (.move (ic 0))] 0 none) []
 (.block 0
 (.ghost [0] (.loop [] (0 :: 2 :: 3 :: (rl 5 9 (rl 17 18 [])))
  A17v3)))) (6 :: 7 :: 8 :: (rl 13 21 []))
 A17v4)
def A17 : AF := ⟨35,[.tmp 4],
 (.seq (.region 0 [o1 2 (bx 0 24 0),o1 4 (sk 0)] 1 none) []
 (.seq (.seq (.region 1 [o1 9 (fa 24 2 2 2),o1 10 (lo 22 9),o1 11 (.len 22 false (tm 10)),o1 12 (bk .gtr 3 11 32)] 0 none) []
 (.cond (tm 12)
 (.seq (.region 2 [o1 4 (sk 0)] 0 none) []
  (.ghost [0] (.ret (rl 0 4 (rl 5 30 [])))))
 .skip)) (rl 9 4 [])
 A17v5))⟩
def N183v1 : St → Option St := nN 1 (0 :: 2 :: 3 :: (rl 5 9 (rl 17 18 [])))
def s183v0 : St := ⟨(.u :: .x (.c (ro kA n0 f0)) :: .u :: .u :: vxi i0 :: (us 9 (.x (.c (ro kE n1 f1)) :: vxi i1 :: vxi i2 :: (us 18 [])))),[.dead]⟩
def s183v1 : St := ⟨(us 4 (vxi i0 :: (us 30 []))),[.dead]⟩
def L183v1 {ρ : Type} (u : Nat) (x0 : Nat) (x1 : FF) (x2 : Nat) (x3 : FF) (x4 : Int) : Nat → Int → Int → (Int → Option ρ) → Option ρ
 | 0,_,_,_ => none
 | m + 1,x5,x6,k0 =>
  (bif (decide (x6 < x4)) then (bif (inb x6 x2) then (ob (F172 u x0 x1 (x3 x6.toNat 0).str) fun x7 => (bif x7.2.2.2.2.2.2.2.2.2.2.2.2.2.2.2.2.2.2.2.2 then (ob (F18 u x7.2.2.2.2.2.2.1 x7.2.2.2.2.2.2.2.1 x7.2.2.2.2.2.2.2.2.1 x7.2.2.2.2.2.2.2.2.2.1) fun x8 => (L183v1 u x0 x1 x2 x3 x4 m (w64 (x5 + x8)) (w64 (x6 + 1)) k0)) else (L183v1 u x0 x1 x2 x3 x4 m x5 (w64 (x6 + 1)) k0))) else none) else (k0 x5))
theorem nl183v1 : ∀ (m : Nat) (x0 x1 : Int) (k0 : Int → Option ρ),ob (L183v1 u n0 f0 n1 f1 i0 m x0 x1 k0) ng = L183v1 u n0 f0 n1 f1 i0 m x0 x1 (fun x2 => ob (k0 x2) ng)
 | 0,_,_,_ => rfl
 | m + 1,x0,x1,k0 => by
  simp only [L183v1,ob_bif,ob_ob,ob_none,nl183v1 m]
theorem r183v1 :
  loopH (eB A17v3 (C83 u) u) N183v1 (m + 1) (s183v0 n0 n1 f0 f1 i1 i0 i2) k =
  (bif (decide (i2 < i0)) then (bif (inb i2 n1) then (ob (F172 u n0 f0 (f1 i2.toNat 0).str) fun x0 => (bif x0.2.2.2.2.2.2.2.2.2.2.2.2.2.2.2.2.2.2.2.2 then (ob (F18 u x0.2.2.2.2.2.2.1 x0.2.2.2.2.2.2.2.1 x0.2.2.2.2.2.2.2.2.1 x0.2.2.2.2.2.2.2.2.2.1) fun x1 => (loopH (eB A17v3 (C83 u) u) N183v1 m (s183v0 n0 n1 f0 f1 (w64 (i1 + x1)) i0 (w64 (i2 + 1))) k)) else (loopH (eB A17v3 (C83 u) u) N183v1 m (s183v0 n0 n1 f0 f1 i1 i0 (w64 (i2 + 1))) k))) else none) else (k (.exit 0) (s183v1 i1))) := by kernel_rfl
theorem q183v1 : ∀ (m : Nat) (x0 x1 : Int),
  loopH (eB A17v3 (C83 u) u) N183v1 m (s183v0 n0 n1 f0 f1 x0 i0 x1) k = L183v1 u n0 f0 n1 f1 i0 m x0 x1 (fun x2 => k (.exit 0) (s183v1 x2))
 | 0,_,_ => rfl
 | m + 1,x0,x1 => by
  rw [r183v1]
  simp only [L183v1,q183v1 m]
def F183 (x0 : ByteArray) (x1 : Int) (x2 : Nat) (x3 : FF) (x4 : Nat) (x5 : FF) : Option (Int) :=
 (bif (decide ((Int.ofNat x2) > 32)) then (some 0) else (L183v1 u x4 x5 x2 x3 (Int.ofNat x2) u 0 0
  (fun x6 => (some x6))))
def s183v2 : St := ⟨(.agg [(vcs w0),(vci i0),(.c (ro kE n0 f0))] :: .x (.c (ro kA n1 f1)) :: .x (.c (.rp kC (listF [(.s w0),(vi i0),(ro kE n0 f0)]))) :: uu :: vxi 0 :: uu :: uu :: uu :: uu :: (us 4 [.x (.c (.rp kD (listF [(ro kE n0 f0)]))),.x (.c (ro kE n0 f0)),vxi (Int.ofNat n0),vxi 0,uu,uu,uu,uu,uu,uu,uu,uu,uu,uu,uu,uu,uu,uu,uu,uu,uu,uu])),[.dead]⟩
theorem t183v1 :
  loopN (eB A17v3 (C83 u) u) N183v1 u (s183v2 n0 n1 f0 f1 i0 w0) k =
  L183v1 u n1 f1 n0 f0 (Int.ofNat n0) u 0 0 (fun x0 => k (.exit 0) (s183v1 x0)) :=
 Eq.trans (loopN_at (by kernel_rfl)) (q183v1 ..)
theorem g183v2 :
  (kBlk 0 (kSeq (C83 u) u (6 :: 7 :: 8 :: (rl 13 21 [])) A17v4 (finish A17))) (.exit 0) (s183v1 i0) =
  (some [.v (vi i0)]) := by kernel_rfl
theorem e183 : evalF (C83 u) u A17 [.agg [(.s w0),(vi i0),(ro kE n0 f0)],.v (ro kA n1 f1)] = ob (F183 u w0 i0 n0 f0 n1 f1) fun t => some [.v (vi t)] := Eq.trans (b := (bif (decide ((Int.ofNat n0) > 32)) then (some [.v (vi 0)]) else (loopN (eB A17v3 (C83 u) u) N183v1 u (s183v2 n0 n1 f0 f1 i0 w0) (kBlk 0 (kSeq (C83 u) u (6 :: 7 :: 8 :: (rl 13 21 [])) A17v4 (finish A17)))))) (by kernel_rfl) (by
 simp only [F183,ob_bif,ob_ob,ob_none,ob_some,nl183v1,t183v1,g183v2])
def O183 : Ora := mkO (qc (ag (tc cS (tc ci (t1 (cL kE))))) (q1 (av (cL kA)))) (fun x => F183 u x.1.1 x.1.2.1 x.1.2.2.1 x.1.2.2.2 x.2.1 x.2.2) fun t => [.v (vi t)]
theorem d183 : DO (O183 u) (C83 u) 17 A17 := dO u (fun x => by exact e183 u x.1.2.2.1 x.2.1 x.1.2.2.2 x.2.2 x.1.2.1 x.1.1)
def C84 : Oracle := (C83 u).add 17 (fun _ => true) (O183 u)
def A66v1 : AC := (.seq (.region 5 [mv 17 0,mv 18 1,o1 19 (bt .quo 3 17 18),mv 20 0,mv 21 1,o1 22 (bt .rem 3 20 21),o1 4 (sg 19),o1 5 (sg 22),o1 6 (sk 0)] 0 (some [[],[],[0,1],[],[],[3,4],[0,1,2],(rl 0 7 []),(rl 0 8 [])])) []
 (.ret (rl 0 4 (rl 7 16 []))))
def A66 : AF := ⟨23,[.tmp 4,.tmp 5,.tmp 6],
 (.seq (.region 0 [o1 4 (sk 0),o1 5 (sk 0),o1 6 (sk 0)] 0 none) []
 (.seq (.block 0
 (.seq (.region 1 [mv 8 1,o1 9 (bk .eql 3 8 0),o1 7 (sg 9)] 0 none) []
  (.cond (tm 7)
  (.seq (.region 2 [o1 4 (sk 0),o1 5 (sk 0),o1 6 (sk 22)] 0 none) []
   (.ret (rl 0 4 (rl 7 16 []))))
  (.seq (.region 3 [mv 11 0,o1 12 (bk .eql 3 11 (-9223372036854775808)),mv 13 12,og 14 (.move (tm 1)) 13 true,og 15 (bk .eql 3 14 (-1)) 13 true,o1 16 (po 13 15),o1 10 (sg 16)] 0 none) []
   (.cond (tm 10)
   (.seq (.region 4 [o1 4 (sk 0),o1 5 (sk 0),o1 6 (sk 21)] 0 none) []
    (.ret (rl 0 4 (rl 7 16 []))))
   .skip))))) (rl 4 13 [])
 A66v1))⟩
def F184 (u : Nat) (x0 x1 : Int) : Option (Int × Int × Int) :=
 (bif (x1 == 0) then (some (0,0,22)) else (bif ((x0 == (-9223372036854775808)) == true) then (bif (x1 == (-1)) then (some (0,0,21)) else (bif (x1 == 0) then none else (bif (x1 == 0) then none else (some ((w64 (Int.tdiv x0 x1)),(Int.tmod x0 x1),0))))) else (bif (x1 == 0) then none else (bif (x1 == 0) then none else (some ((w64 (Int.tdiv x0 x1)),(Int.tmod x0 x1),0))))))
theorem e184 : evalF (C84 u) u A66 [.v (vi i0),.v (vi i1)] = ob (F184 u i0 i1) fun t => some [.v (vi t.1),.v (vi t.2.1),.v (vi t.2.2)] := Eq.trans (b := (bif (i1 == 0) then (some [.v (vi 0),.v (vi 0),.v (vi 22)]) else (bif ((i0 == (-9223372036854775808)) == true) then (bif (i1 == (-1)) then (some [.v (vi 0),.v (vi 0),.v (vi 21)]) else (bif (i1 == 0) then none else (bif (i1 == 0) then none else (some [.v (vi (w64 (Int.tdiv i0 i1))),.v (vi (Int.tmod i0 i1)),.v (vi 0)])))) else (bif (i1 == 0) then none else (bif (i1 == 0) then none else (some [.v (vi (w64 (Int.tdiv i0 i1))),.v (vi (Int.tmod i0 i1)),.v (vi 0)])))))) (by kernel_rfl) (by
 simp only [F184,ob_bif,ob_ob,ob_none,ob_some])
def O184 : Ora := mkO (qc (av ci) (q1 (av ci))) (fun x => F184 u x.1 x.2) fun t => [.v (vi t.1),.v (vi t.2.1),.v (vi t.2.2)]
theorem d184 : DO (O184 u) (C84 u) 66 A66 := dO u (fun x => by exact e184 u x.1 x.2)
def C85 : Oracle := (C84 u).add 66 (fun _ => true) (O184 u)
def A39v1 : AC := (.seq (.region 4 [mv 27 6,mv 28 8,o1 4 (sg 27),o1 5 (sg 28)] 0 none) []
 (.ret (rl 0 4 (rl 6 23 []))))
def A39 : AF := ⟨29,[.tmp 4,.tmp 5],
 (.seq (.region 0 [o1 4 (sk 0),o1 5 (sk 0)] 0 none) []
 (.seq (.region 1 [mv 10 0,mv 11 1,o1 12 (cs 66 [10,11] [3,3]),mv 9 12,o1 13 (.extract (tm 9) 0),o1 14 (.extract (tm 9) 1),o1 15 (.extract (tm 9) 2),o1 6 (sg 13),o1 7 (sg 14),o1 8 (sg 15)] 0 none) []
 (.seq (.seq (.region 2 [mv 16 7,o1 17 (bk .neq 3 16 0),mv 18 17,og 19 (.move (tm 7)) 18 true,og 20 (bk .lss 3 19 0) 18 true,og 21 (.move (tm 1)) 18 true,og 22 (bk .lss 3 21 0) 18 true,og 23 (.eqB true 4 (tm 20) (tm 22) 4) 18 true,o1 24 (po 18 23)] 0 none) []
 (.cond (tm 24)
 (.region 3 [mv 25 6,o1 26 (bk .sub 3 25 1),o1 6 (sg 26)] 0 none)
 .skip)) (rl 16 11 [])
 A39v1)))⟩
def F185 (x0 x1 : Int) : Option (Int × Int) :=
 (ob (F184 u x0 x1) fun x2 => (bif ((x2.2.1 != 0) == true) then (bif (!((decide (x2.2.1 < 0)) == (decide (x1 < 0)))) then (some ((w64 (x2.1 - 1)),x2.2.2)) else (some (x2.1,x2.2.2))) else (some (x2.1,x2.2.2))))
theorem e185 : evalF (C85 u) u A39 [.v (vi i0),.v (vi i1)] = ob (F185 u i0 i1) fun t => some [.v (vi t.1),.v (vi t.2)] := Eq.trans (b := (ob (F184 u i0 i1) fun x0 => (bif ((x0.2.1 != 0) == true) then (bif (!((decide (x0.2.1 < 0)) == (decide (i1 < 0)))) then (some [.v (vi (w64 (x0.1 - 1))),.v (vi x0.2.2)]) else (some [.v (vi x0.1),.v (vi x0.2.2)])) else (some [.v (vi x0.1),.v (vi x0.2.2)])))) (by kernel_rfl) (by
 simp only [F185,ob_bif,ob_ob,ob_none,ob_some])
def O185 : Ora := mkO (qc (av ci) (q1 (av ci))) (fun x => F185 u x.1 x.2) fun t => [.v (vi t.1),.v (vi t.2)]
theorem d185 : DO (O185 u) (C85 u) 39 A39 := dO u (fun x => by exact e185 u x.1 x.2)
def C86 : Oracle := (C85 u).add 39 (fun _ => true) (O185 u)
def A19v1 : AC := (.seq (.region 3 [o1 26 (ln 24 3 3),mv 27 2,o1 28 (cs 17 [26,27] [24,27]),o1 29 (bk .mul 3 28 1000),o1 30 (fa 26 4 3 3),o1 31 (lo 3 30),o1 32 (.binOp .mul 3 (ic 2) (tm 31) 3),o1 33 (fa 26 4 4 4),o1 34 (lo 3 33),o1 35 (bt .mul 3 32 34),o1 36 (cs 39 [29,35] [3,3]),mv 25 36,o1 37 (.extract (tm 25) 0),o1 38 (.extract (tm 25) 1),o1 6 (sg 37)] 0 (some [[],[],[0,1],[0,1,2],[],[4],[4,5],[],[7],(rl 4 5 []),(rl 0 10 []),(rl 0 11 []),(rl 0 12 []),(rl 0 12 []),(rl 0 13 [])])) []
 (.seq (.region 4 [mv 39 6,o1 6 (sg 39)] 0 none) []
 (.ghost [0,1] (.ret (rl 0 6 (rl 7 33 []))))))
def A19 : AF := ⟨40,[.tmp 6],
 (.seq (.region 0 [o1 3 (bx 0 24 0),o1 4 (bx 1 26 1),o1 6 (sk 0)] 2 none) []
 (.seq (.seq (.region 1 [o1 7 (fa 26 4 3 3),o1 8 (lo 3 7),o1 9 (bk .lss 3 8 1),mv 10 9,og 11 (fa 26 4 3 3) 10 false,og 12 (lo 3 11) 10 false,og 13 (bk .gtr 3 12 32768) 10 false,o1 14 (pa 10 13),mv 15 14,og 16 (fa 26 4 4 4) 15 false,og 17 (lo 3 16) 15 false,og 18 (bk .lss 3 17 1) 15 false,o1 19 (pa 15 18),mv 20 19,og 21 (fa 26 4 4 4) 20 false,og 22 (lo 3 21) 20 false,og 23 (bk .gtr 3 22 32768) 20 false,o1 24 (pa 20 23)] 0 none) []
 (.cond (tm 24)
 (.seq (.region 2 [o1 6 (sk 0)] 0 none) []
  (.ghost [0,1] (.ret (rl 0 6 (rl 7 33 [])))))
 .skip)) (rl 6 19 [])
 A19v1))⟩
def F186 (x0 : ByteArray) (x1 : Int) (x2 : Nat) (x3 : FF) (x4 x5 : ByteArray) (x6 x7 x8 : Int) (x9 : ByteArray) (xA : Nat) (xB : FF) : Option (Int) :=
 (bif ((decide (x7 < 1)) == false) then (bif ((decide (x7 > 32768)) == false) then (bif ((decide (x8 < 1)) == false) then (bif (decide (x8 > 32768)) then (some 0) else (ob (F183 u x0 x1 x2 x3 xA xB) fun xC => (ob (F185 u (w64 (xC * 1000)) (w64 ((w64 (2 * x7)) * x8))) fun xD => (some xD.1)))) else (some 0)) else (some 0)) else (some 0))
theorem e186 : evalF (C86 u) u A19 [.agg [(.s w0),(vi i0),(ro kE n0 f0)],.agg [(.s w1),(.s w2),(vi i1),(vi i2),(vi i3),(.s w3)],.v (ro kA n1 f1)] = ob (F186 u w0 i0 n0 f0 w1 w2 i1 i2 i3 w3 n1 f1) fun t => some [.v (vi t)] := Eq.trans (b := (bif ((decide (i2 < 1)) == false) then (bif ((decide (i2 > 32768)) == false) then (bif ((decide (i3 < 1)) == false) then (bif (decide (i3 > 32768)) then (some [.v (vi 0)]) else (ob (F183 u w0 i0 n0 f0 n1 f1) fun x0 => (ob (F185 u (w64 (x0 * 1000)) (w64 ((w64 (2 * i2)) * i3))) fun x1 => (some [.v (vi x1.1)])))) else (some [.v (vi 0)])) else (some [.v (vi 0)])) else (some [.v (vi 0)]))) (by kernel_rfl) (by
 simp only [F186,ob_bif,ob_ob,ob_none,ob_some])
def O186 : Ora := mkO (qc (ag (tc cS (tc ci (t1 (cL kE))))) (qc (ag (tc cS (tc cS (tc ci (tc ci (tc ci (t1 cS))))))) (q1 (av (cL kA))))) (fun x => F186 u x.1.1 x.1.2.1 x.1.2.2.1 x.1.2.2.2 x.2.1.1 x.2.1.2.1 x.2.1.2.2.1 x.2.1.2.2.2.1 x.2.1.2.2.2.2.1 x.2.1.2.2.2.2.2 x.2.2.1 x.2.2.2) fun t => [.v (vi t)]
theorem d186 : DO (O186 u) (C86 u) 19 A19 := dO u (fun x => by exact e186 u x.1.2.2.1 x.2.2.1 x.1.2.2.2 x.2.2.2 x.1.2.1 x.2.1.2.2.1 x.2.1.2.2.2.1 x.2.1.2.2.2.2.1 x.1.1 x.2.1.1 x.2.1.2.1 x.2.1.2.2.2.2.2)
def C87 : Oracle := (C86 u).add 19 (fun _ => true) (O186 u)
def A13v1 : AC := (.seq (.region 11 [mv 87 7,o1 88 (.indexAddr 34 50 2 (tm 87) (ic 1)),o1 89 (fa 50 88 0 0),o1 90 (lo 47 89),o1 91 (.indexAddr 47 41 2 (tm 90) (ic 0)),o1 92 (ln 41 2 91),o1 93 (.build 41 [vci 0,vci 0] [(0,1),(1,1)] 0 [(0,(ic 30)),(1,(ic 5))]),o1 94 (.eqA false kP 41 (tm 92) (tm 93) 41),mv 95 94,og 96 (ln 24 3 3) 95 true,og 97 (.move (tm 2)) 95 true,og 98 (cs 17 [96,97] [24,27]) 95 true,og 99 (bk .eql 3 98 1600) 95 true,o1 100 (po 95 99),mv 101 100,og 102 (ln 24 3 3) 101 true,og 103 (ln 26 6 1) 101 true,og 104 (.move (tm 2)) 101 true,og 105 (cs 19 [102,103,104] [24,26,27]) 101 true,og 106 (bk .eql 3 105 160) 101 true,o1 107 (po 101 106),o1 0 (sg 107)] 0 none) []
 (.ghost (0 :: (rl 3 6 [])) (.ret (rl 1 107 []))))
def A13 : AF := ⟨108,[.tmp 0],
 (.seq (.region 0 [o1 0 (sb false)] 0 none) []
 (.seq (.region 1 [o1 9 (.build 26 [vcs ByteArray.empty,vcs ByteArray.empty,vci 0,vci 0,vci 0,vcs ByteArray.empty] [(0,1),(1,1),(2,1),(3,1),(4,1),(5,1)] 0 [(0,(.const (.string (ByteArray.mk #[83])))),(1,(.const (.string (ByteArray.mk #[65])))),(2,(ic 10)),(3,(ic 100)),(4,(ic 50)),(5,(.const (.string (ByteArray.mk #[72]))))]),o1 1 (.alloc 0 26 [vcs ByteArray.empty,vcs ByteArray.empty,vci 0,vci 0,vci 0,vcs ByteArray.empty]),o0 (.store 26 6 (tm 1) (tm 9))] 1 none) []
 (.seq (.region 2 [o1 10 (.call 34 [(.const (.string (ByteArray.mk #[80]))),(ic 20)] [9,3] .freeze),o1 11 (.call 34 [(.const (.string (ByteArray.mk #[81]))),(ic 20)] [9,3] .freeze),o1 12 (.buildSlice 0 27 56 kA 2 [vcs ByteArray.empty,vci 0,vci 0,vcs ByteArray.empty,vcs ByteArray.empty,vci 0,vcn,vcn,vcs ByteArray.empty,vci 0,vci 0,vci 0,vci 0,vci 0,vci 0,vci 0,vci 0,vci 0] [(0,(tm 10)),(1,(tm 11))]),o1 2 (sg 12)] 1 none) []
 (.seq (.region 3 [o1 13 (.build 41 [vci 0,vci 0] [(0,1),(1,1)] 0 [(0,(ic 5)),(1,(ic 5))]),o1 14 (.build 43 [vcs ByteArray.empty,vci 0,vci 0,vci 0,vcb false] [(0,1),(1,2),(3,1),(4,1)] 0 [(0,(.const (.string (ByteArray.mk #[80])))),(1,(tm 13))]),o1 15 (.build 41 [vci 0,vci 0] [(0,1),(1,1)] 0 [(0,(ic 30)),(1,(ic 5))]),o1 16 (.build 43 [vcs ByteArray.empty,vci 0,vci 0,vci 0,vcb false] [(0,1),(1,2),(3,1),(4,1)] 0 [(0,(.const (.string (ByteArray.mk #[81])))),(1,(tm 15))]),o1 17 (.buildSlice 0 22 43 kE 2 [vcs ByteArray.empty,vci 0,vci 0,vci 0,vcb false] [(0,(tm 14)),(1,(tm 16))]),o1 18 (.build 24 [vcs ByteArray.empty,vci 0,vcn] [(0,1),(1,1),(2,1)] 0 [(0,(.const (.string (ByteArray.mk #[83])))),(1,(ic 5)),(2,(tm 17))]),o1 3 (.alloc 1 24 [vcs ByteArray.empty,vci 0,vcn]),o0 (.store 24 3 (tm 3) (tm 18))] 2 none) []
 (.seq (.region 4 [o1 19 (ln 24 3 3),o1 20 (ln 24 3 3),o1 4 (.alloc 0 24 [vcs ByteArray.empty,vci 0,vcn]),o1 5 (.alloc 1 24 [vcs ByteArray.empty,vci 0,vcn]),o0 (.store 24 3 (tm 4) (tm 19)),o0 (.store 24 3 (tm 5) (tm 20))] 2 (some [[],[],[],[],[0,2,3],(rl 0 5 [])])) []
 (.seq (.region 5 [o1 21 (fa 24 4 1 1),o0 (.store 3 1 (tm 21) (ic 6))] 0 none) []
 (.seq (.region 6 [o1 22 (fa 24 3 2 2),o1 23 (lo 22 22),o1 24 (.indexAddr 22 43 5 (tm 23) (ic 0)),o1 25 (ln 43 5 24),o1 26 (.build 41 [vci 0,vci 0] [(0,1),(1,1)] 0 [(0,(ic 60)),(1,(ic 5))]),o1 27 (.build 43 [vcs ByteArray.empty,vci 0,vci 0,vci 0,vcb false] [(0,1),(1,2),(3,1),(4,1)] 0 [(0,(.const (.string (ByteArray.mk #[80])))),(1,(tm 26))]),o1 28 (.buildSlice 0 22 43 kE 2 [vcs ByteArray.empty,vci 0,vci 0,vci 0,vcb false] [(0,(tm 25)),(1,(tm 27))]),o1 29 (fa 24 5 2 2),o0 (.store 22 1 (tm 29) (tm 28))] 1 none) []
 (.seq (.region 7 [o1 30 (fa 24 3 2 2),o1 31 (lo 22 30),o1 32 (.indexAddr 22 43 5 (tm 31) (ic 0)),o1 33 (ln 43 5 32),o1 34 (.build 41 [vci 0,vci 0] [(0,1),(1,1)] 0 [(0,(ic 29)),(1,(ic 5))]),o1 35 (.build 43 [vcs ByteArray.empty,vci 0,vci 0,vci 0,vcb false] [(0,1),(1,2),(3,1),(4,1)] 0 [(0,(.const (.string (ByteArray.mk #[81])))),(1,(tm 34))]),o1 36 (.buildSlice 0 22 43 kE 2 [vcs ByteArray.empty,vci 0,vci 0,vci 0,vcb false] [(0,(tm 33)),(1,(tm 35))]),o1 37 (.build 24 [vcs ByteArray.empty,vci 0,vcn] [(0,1),(1,1),(2,1)] 0 [(1,(ic 5)),(2,(tm 36))]),o1 6 (.alloc 1 24 [vcs ByteArray.empty,vci 0,vcn]),o0 (.store 24 3 (tm 6) (tm 37))] 2 none) []
 (.seq (.region 8 [o1 39 (ln 24 3 3),mv 40 2,o1 41 (cf 14 [39,40] [24,27]),mv 38 41,o1 42 (.extract (tm 38) 0),o1 43 (.extract (tm 38) 1),o1 7 (sg 42),o1 8 (sg 43)] 0 none) []
 (.seq (.seq (.region 9 [o1 44 (ln 24 3 3),o1 45 (ln 26 6 1),mv 46 2,o1 47 (cs 11 [44,45,46] [24,26,27]),o1 48 (bk .neq 31 47 0),mv 49 48,og 50 (ln 24 3 4) 49 false,og 51 (ln 26 6 1) 49 false,og 52 (.move (tm 2)) 49 false,og 53 (cs 11 [50,51,52] [24,26,27]) 49 false,og 54 (bk .neq 31 53 18) 49 false,o1 55 (pa 49 54),mv 56 55,og 57 (ln 24 3 5) 56 false,og 58 (ln 26 6 1) 56 false,og 59 (.move (tm 2)) 56 false,og 60 (cs 11 [57,58,59] [24,26,27]) 56 false,og 61 (bk .neq 31 60 7) 56 false,o1 62 (pa 56 61),mv 63 62,og 64 (ln 24 3 6) 63 false,og 65 (ln 26 6 1) 63 false,og 66 (.move (tm 2)) 63 false,og 67 (cs 11 [64,65,66] [24,26,27]) 63 false,og 68 (bk .neq 31 67 19) 63 false,o1 69 (pa 63 68),mv 70 69,og 71 (.move (tm 8)) 70 false,og 72 (bk .neq 31 71 0) 70 false,o1 73 (pa 70 72),mv 74 73,og 75 (.move (tm 7)) 74 false,og 76 (.len 34 false (tm 75)) 74 false,og 77 (bk .neq 3 76 2) 74 false,o1 78 (pa 74 77),mv 79 78,og 80 (.move (tm 7)) 79 false,og 81 (.indexAddr 34 50 2 (tm 80) (ic 1)) 79 false,og 82 (fa 50 81 0 0) 79 false,og 83 (lo 47 82) 79 false,og 84 (.len 47 false (tm 83)) 79 false,og 85 (bk .neq 3 84 4) 79 false,o1 86 (pa 79 85)] 0 none) []
 (.cond (tm 86)
 (.seq (.region 10 [o1 0 (sb false)] 0 none) []
  (.ghost (0 :: (rl 3 6 [])) (.ret (rl 1 107 []))))
 .skip)) (0 :: (rl 44 43 []))
 A13v1))))))))))⟩
def F187 : Option (Bool) :=
 (ob (F169 u (ByteArray.mk #[80]) 20) fun x0 => (ob (F169 u (ByteArray.mk #[81]) 20) fun x1 => (ob (F175 u (ByteArray.mk #[83]) 5 2 (rowsF 5 [(.s (ByteArray.mk #[80])),(.i .i64 5),(.i .i64 5),(.i .i64 0),(.b false),(.s (ByteArray.mk #[81])),(.i .i64 30),(.i .i64 5),(.i .i64 0),(.b false)]) 2 (rowsF 18 [(.s x0.1),(.i .i64 x0.2.1),(.i .i64 x0.2.2.1),(.s x0.2.2.2.1),(.s x0.2.2.2.2.1),(.i .i64 x0.2.2.2.2.2.1),(.ro false (.pr (.int .i64) (.pr (.int .i64) .nil)) x0.2.2.2.2.2.2.1 x0.2.2.2.2.2.2.2.1),(.ro false (.pr (.sl (.pr (.int .i64) (.pr (.int .i64) .nil))) .nil) x0.2.2.2.2.2.2.2.2.1 x0.2.2.2.2.2.2.2.2.2.1),(.s x0.2.2.2.2.2.2.2.2.2.2.1),(.i .i64 x0.2.2.2.2.2.2.2.2.2.2.2.1),(.i .i64 x0.2.2.2.2.2.2.2.2.2.2.2.2.1),(.i .i64 x0.2.2.2.2.2.2.2.2.2.2.2.2.2.1),(.i .i64 x0.2.2.2.2.2.2.2.2.2.2.2.2.2.2.1),(.i .i64 x0.2.2.2.2.2.2.2.2.2.2.2.2.2.2.2.1),(.i .i64 x0.2.2.2.2.2.2.2.2.2.2.2.2.2.2.2.2.1),(.i .i64 x0.2.2.2.2.2.2.2.2.2.2.2.2.2.2.2.2.2.1),(.i .i64 x0.2.2.2.2.2.2.2.2.2.2.2.2.2.2.2.2.2.2.1),(.i .i64 x0.2.2.2.2.2.2.2.2.2.2.2.2.2.2.2.2.2.2.2),(.s x1.1),(.i .i64 x1.2.1),(.i .i64 x1.2.2.1),(.s x1.2.2.2.1),(.s x1.2.2.2.2.1),(.i .i64 x1.2.2.2.2.2.1),(.ro false (.pr (.int .i64) (.pr (.int .i64) .nil)) x1.2.2.2.2.2.2.1 x1.2.2.2.2.2.2.2.1),(.ro false (.pr (.sl (.pr (.int .i64) (.pr (.int .i64) .nil))) .nil) x1.2.2.2.2.2.2.2.2.1 x1.2.2.2.2.2.2.2.2.2.1),(.s x1.2.2.2.2.2.2.2.2.2.2.1),(.i .i64 x1.2.2.2.2.2.2.2.2.2.2.2.1),(.i .i64 x1.2.2.2.2.2.2.2.2.2.2.2.2.1),(.i .i64 x1.2.2.2.2.2.2.2.2.2.2.2.2.2.1),(.i .i64 x1.2.2.2.2.2.2.2.2.2.2.2.2.2.2.1),(.i .i64 x1.2.2.2.2.2.2.2.2.2.2.2.2.2.2.2.1),(.i .i64 x1.2.2.2.2.2.2.2.2.2.2.2.2.2.2.2.2.1),(.i .i64 x1.2.2.2.2.2.2.2.2.2.2.2.2.2.2.2.2.2.1),(.i .i64 x1.2.2.2.2.2.2.2.2.2.2.2.2.2.2.2.2.2.2.1),(.i .i64 x1.2.2.2.2.2.2.2.2.2.2.2.2.2.2.2.2.2.2.2)])) fun x2 => (ob (F182 u (ByteArray.mk #[83]) 5 2 (rowsF 5 [(.s (ByteArray.mk #[80])),(.i .i64 5),(.i .i64 5),(.i .i64 0),(.b false),(.s (ByteArray.mk #[81])),(.i .i64 30),(.i .i64 5),(.i .i64 0),(.b false)]) (ByteArray.mk #[83]) (ByteArray.mk #[65]) 10 100 50 (ByteArray.mk #[72]) 2 (rowsF 18 [(.s x0.1),(.i .i64 x0.2.1),(.i .i64 x0.2.2.1),(.s x0.2.2.2.1),(.s x0.2.2.2.2.1),(.i .i64 x0.2.2.2.2.2.1),(.ro false (.pr (.int .i64) (.pr (.int .i64) .nil)) x0.2.2.2.2.2.2.1 x0.2.2.2.2.2.2.2.1),(.ro false (.pr (.sl (.pr (.int .i64) (.pr (.int .i64) .nil))) .nil) x0.2.2.2.2.2.2.2.2.1 x0.2.2.2.2.2.2.2.2.2.1),(.s x0.2.2.2.2.2.2.2.2.2.2.1),(.i .i64 x0.2.2.2.2.2.2.2.2.2.2.2.1),(.i .i64 x0.2.2.2.2.2.2.2.2.2.2.2.2.1),(.i .i64 x0.2.2.2.2.2.2.2.2.2.2.2.2.2.1),(.i .i64 x0.2.2.2.2.2.2.2.2.2.2.2.2.2.2.1),(.i .i64 x0.2.2.2.2.2.2.2.2.2.2.2.2.2.2.2.1),(.i .i64 x0.2.2.2.2.2.2.2.2.2.2.2.2.2.2.2.2.1),(.i .i64 x0.2.2.2.2.2.2.2.2.2.2.2.2.2.2.2.2.2.1),(.i .i64 x0.2.2.2.2.2.2.2.2.2.2.2.2.2.2.2.2.2.2.1),(.i .i64 x0.2.2.2.2.2.2.2.2.2.2.2.2.2.2.2.2.2.2.2),(.s x1.1),(.i .i64 x1.2.1),(.i .i64 x1.2.2.1),(.s x1.2.2.2.1),(.s x1.2.2.2.2.1),(.i .i64 x1.2.2.2.2.2.1),(.ro false (.pr (.int .i64) (.pr (.int .i64) .nil)) x1.2.2.2.2.2.2.1 x1.2.2.2.2.2.2.2.1),(.ro false (.pr (.sl (.pr (.int .i64) (.pr (.int .i64) .nil))) .nil) x1.2.2.2.2.2.2.2.2.1 x1.2.2.2.2.2.2.2.2.2.1),(.s x1.2.2.2.2.2.2.2.2.2.2.1),(.i .i64 x1.2.2.2.2.2.2.2.2.2.2.2.1),(.i .i64 x1.2.2.2.2.2.2.2.2.2.2.2.2.1),(.i .i64 x1.2.2.2.2.2.2.2.2.2.2.2.2.2.1),(.i .i64 x1.2.2.2.2.2.2.2.2.2.2.2.2.2.2.1),(.i .i64 x1.2.2.2.2.2.2.2.2.2.2.2.2.2.2.2.1),(.i .i64 x1.2.2.2.2.2.2.2.2.2.2.2.2.2.2.2.2.1),(.i .i64 x1.2.2.2.2.2.2.2.2.2.2.2.2.2.2.2.2.2.1),(.i .i64 x1.2.2.2.2.2.2.2.2.2.2.2.2.2.2.2.2.2.2.1),(.i .i64 x1.2.2.2.2.2.2.2.2.2.2.2.2.2.2.2.2.2.2.2)])) fun x3 => (bif ((x3 != 0) == false) then (ob (F182 u (ByteArray.mk #[83]) 6 2 (rowsF 5 [(.s (ByteArray.mk #[80])),(.i .i64 5),(.i .i64 5),(.i .i64 0),(.b false),(.s (ByteArray.mk #[81])),(.i .i64 30),(.i .i64 5),(.i .i64 0),(.b false)]) (ByteArray.mk #[83]) (ByteArray.mk #[65]) 10 100 50 (ByteArray.mk #[72]) 2 (rowsF 18 [(.s x0.1),(.i .i64 x0.2.1),(.i .i64 x0.2.2.1),(.s x0.2.2.2.1),(.s x0.2.2.2.2.1),(.i .i64 x0.2.2.2.2.2.1),(.ro false (.pr (.int .i64) (.pr (.int .i64) .nil)) x0.2.2.2.2.2.2.1 x0.2.2.2.2.2.2.2.1),(.ro false (.pr (.sl (.pr (.int .i64) (.pr (.int .i64) .nil))) .nil) x0.2.2.2.2.2.2.2.2.1 x0.2.2.2.2.2.2.2.2.2.1),(.s x0.2.2.2.2.2.2.2.2.2.2.1),(.i .i64 x0.2.2.2.2.2.2.2.2.2.2.2.1),(.i .i64 x0.2.2.2.2.2.2.2.2.2.2.2.2.1),(.i .i64 x0.2.2.2.2.2.2.2.2.2.2.2.2.2.1),(.i .i64 x0.2.2.2.2.2.2.2.2.2.2.2.2.2.2.1),(.i .i64 x0.2.2.2.2.2.2.2.2.2.2.2.2.2.2.2.1),(.i .i64 x0.2.2.2.2.2.2.2.2.2.2.2.2.2.2.2.2.1),(.i .i64 x0.2.2.2.2.2.2.2.2.2.2.2.2.2.2.2.2.2.1),(.i .i64 x0.2.2.2.2.2.2.2.2.2.2.2.2.2.2.2.2.2.2.1),(.i .i64 x0.2.2.2.2.2.2.2.2.2.2.2.2.2.2.2.2.2.2.2),(.s x1.1),(.i .i64 x1.2.1),(.i .i64 x1.2.2.1),(.s x1.2.2.2.1),(.s x1.2.2.2.2.1),(.i .i64 x1.2.2.2.2.2.1),(.ro false (.pr (.int .i64) (.pr (.int .i64) .nil)) x1.2.2.2.2.2.2.1 x1.2.2.2.2.2.2.2.1),(.ro false (.pr (.sl (.pr (.int .i64) (.pr (.int .i64) .nil))) .nil) x1.2.2.2.2.2.2.2.2.1 x1.2.2.2.2.2.2.2.2.2.1),(.s x1.2.2.2.2.2.2.2.2.2.2.1),(.i .i64 x1.2.2.2.2.2.2.2.2.2.2.2.1),(.i .i64 x1.2.2.2.2.2.2.2.2.2.2.2.2.1),(.i .i64 x1.2.2.2.2.2.2.2.2.2.2.2.2.2.1),(.i .i64 x1.2.2.2.2.2.2.2.2.2.2.2.2.2.2.1),(.i .i64 x1.2.2.2.2.2.2.2.2.2.2.2.2.2.2.2.1),(.i .i64 x1.2.2.2.2.2.2.2.2.2.2.2.2.2.2.2.2.1),(.i .i64 x1.2.2.2.2.2.2.2.2.2.2.2.2.2.2.2.2.2.1),(.i .i64 x1.2.2.2.2.2.2.2.2.2.2.2.2.2.2.2.2.2.2.1),(.i .i64 x1.2.2.2.2.2.2.2.2.2.2.2.2.2.2.2.2.2.2.2)])) fun x4 => (bif ((x4 != 18) == false) then (ob (F182 u (ByteArray.mk #[83]) 5 2 (rowsF 5 [(.s (CV.str ((rowsF 5 [(.s (ByteArray.mk #[80])),(.i .i64 5),(.i .i64 5),(.i .i64 0),(.b false),(.s (ByteArray.mk #[81])),(.i .i64 30),(.i .i64 5),(.i .i64 0),(.b false)]) 0 0))),(.i .i64 (CV.int ((rowsF 5 [(.s (ByteArray.mk #[80])),(.i .i64 5),(.i .i64 5),(.i .i64 0),(.b false),(.s (ByteArray.mk #[81])),(.i .i64 30),(.i .i64 5),(.i .i64 0),(.b false)]) 0 1))),(.i .i64 (CV.int ((rowsF 5 [(.s (ByteArray.mk #[80])),(.i .i64 5),(.i .i64 5),(.i .i64 0),(.b false),(.s (ByteArray.mk #[81])),(.i .i64 30),(.i .i64 5),(.i .i64 0),(.b false)]) 0 2))),(.i .i64 (CV.int ((rowsF 5 [(.s (ByteArray.mk #[80])),(.i .i64 5),(.i .i64 5),(.i .i64 0),(.b false),(.s (ByteArray.mk #[81])),(.i .i64 30),(.i .i64 5),(.i .i64 0),(.b false)]) 0 3))),(.b (CV.bool ((rowsF 5 [(.s (ByteArray.mk #[80])),(.i .i64 5),(.i .i64 5),(.i .i64 0),(.b false),(.s (ByteArray.mk #[81])),(.i .i64 30),(.i .i64 5),(.i .i64 0),(.b false)]) 0 4))),(.s (ByteArray.mk #[80])),(.i .i64 60),(.i .i64 5),(.i .i64 0),(.b false)]) (ByteArray.mk #[83]) (ByteArray.mk #[65]) 10 100 50 (ByteArray.mk #[72]) 2 (rowsF 18 [(.s x0.1),(.i .i64 x0.2.1),(.i .i64 x0.2.2.1),(.s x0.2.2.2.1),(.s x0.2.2.2.2.1),(.i .i64 x0.2.2.2.2.2.1),(.ro false (.pr (.int .i64) (.pr (.int .i64) .nil)) x0.2.2.2.2.2.2.1 x0.2.2.2.2.2.2.2.1),(.ro false (.pr (.sl (.pr (.int .i64) (.pr (.int .i64) .nil))) .nil) x0.2.2.2.2.2.2.2.2.1 x0.2.2.2.2.2.2.2.2.2.1),(.s x0.2.2.2.2.2.2.2.2.2.2.1),(.i .i64 x0.2.2.2.2.2.2.2.2.2.2.2.1),(.i .i64 x0.2.2.2.2.2.2.2.2.2.2.2.2.1),(.i .i64 x0.2.2.2.2.2.2.2.2.2.2.2.2.2.1),(.i .i64 x0.2.2.2.2.2.2.2.2.2.2.2.2.2.2.1),(.i .i64 x0.2.2.2.2.2.2.2.2.2.2.2.2.2.2.2.1),(.i .i64 x0.2.2.2.2.2.2.2.2.2.2.2.2.2.2.2.2.1),(.i .i64 x0.2.2.2.2.2.2.2.2.2.2.2.2.2.2.2.2.2.1),(.i .i64 x0.2.2.2.2.2.2.2.2.2.2.2.2.2.2.2.2.2.2.1),(.i .i64 x0.2.2.2.2.2.2.2.2.2.2.2.2.2.2.2.2.2.2.2),(.s x1.1),(.i .i64 x1.2.1),(.i .i64 x1.2.2.1),(.s x1.2.2.2.1),(.s x1.2.2.2.2.1),(.i .i64 x1.2.2.2.2.2.1),(.ro false (.pr (.int .i64) (.pr (.int .i64) .nil)) x1.2.2.2.2.2.2.1 x1.2.2.2.2.2.2.2.1),(.ro false (.pr (.sl (.pr (.int .i64) (.pr (.int .i64) .nil))) .nil) x1.2.2.2.2.2.2.2.2.1 x1.2.2.2.2.2.2.2.2.2.1),(.s x1.2.2.2.2.2.2.2.2.2.2.1),(.i .i64 x1.2.2.2.2.2.2.2.2.2.2.2.1),(.i .i64 x1.2.2.2.2.2.2.2.2.2.2.2.2.1),(.i .i64 x1.2.2.2.2.2.2.2.2.2.2.2.2.2.1),(.i .i64 x1.2.2.2.2.2.2.2.2.2.2.2.2.2.2.1),(.i .i64 x1.2.2.2.2.2.2.2.2.2.2.2.2.2.2.2.1),(.i .i64 x1.2.2.2.2.2.2.2.2.2.2.2.2.2.2.2.2.1),(.i .i64 x1.2.2.2.2.2.2.2.2.2.2.2.2.2.2.2.2.2.1),(.i .i64 x1.2.2.2.2.2.2.2.2.2.2.2.2.2.2.2.2.2.2.1),(.i .i64 x1.2.2.2.2.2.2.2.2.2.2.2.2.2.2.2.2.2.2.2)])) fun x5 => (bif ((x5 != 7) == false) then (ob (F182 u ByteArray.empty 5 2 (rowsF 5 [(.s (CV.str ((rowsF 5 [(.s (ByteArray.mk #[80])),(.i .i64 5),(.i .i64 5),(.i .i64 0),(.b false),(.s (ByteArray.mk #[81])),(.i .i64 30),(.i .i64 5),(.i .i64 0),(.b false)]) 0 0))),(.i .i64 (CV.int ((rowsF 5 [(.s (ByteArray.mk #[80])),(.i .i64 5),(.i .i64 5),(.i .i64 0),(.b false),(.s (ByteArray.mk #[81])),(.i .i64 30),(.i .i64 5),(.i .i64 0),(.b false)]) 0 1))),(.i .i64 (CV.int ((rowsF 5 [(.s (ByteArray.mk #[80])),(.i .i64 5),(.i .i64 5),(.i .i64 0),(.b false),(.s (ByteArray.mk #[81])),(.i .i64 30),(.i .i64 5),(.i .i64 0),(.b false)]) 0 2))),(.i .i64 (CV.int ((rowsF 5 [(.s (ByteArray.mk #[80])),(.i .i64 5),(.i .i64 5),(.i .i64 0),(.b false),(.s (ByteArray.mk #[81])),(.i .i64 30),(.i .i64 5),(.i .i64 0),(.b false)]) 0 3))),(.b (CV.bool ((rowsF 5 [(.s (ByteArray.mk #[80])),(.i .i64 5),(.i .i64 5),(.i .i64 0),(.b false),(.s (ByteArray.mk #[81])),(.i .i64 30),(.i .i64 5),(.i .i64 0),(.b false)]) 0 4))),(.s (ByteArray.mk #[81])),(.i .i64 29),(.i .i64 5),(.i .i64 0),(.b false)]) (ByteArray.mk #[83]) (ByteArray.mk #[65]) 10 100 50 (ByteArray.mk #[72]) 2 (rowsF 18 [(.s x0.1),(.i .i64 x0.2.1),(.i .i64 x0.2.2.1),(.s x0.2.2.2.1),(.s x0.2.2.2.2.1),(.i .i64 x0.2.2.2.2.2.1),(.ro false (.pr (.int .i64) (.pr (.int .i64) .nil)) x0.2.2.2.2.2.2.1 x0.2.2.2.2.2.2.2.1),(.ro false (.pr (.sl (.pr (.int .i64) (.pr (.int .i64) .nil))) .nil) x0.2.2.2.2.2.2.2.2.1 x0.2.2.2.2.2.2.2.2.2.1),(.s x0.2.2.2.2.2.2.2.2.2.2.1),(.i .i64 x0.2.2.2.2.2.2.2.2.2.2.2.1),(.i .i64 x0.2.2.2.2.2.2.2.2.2.2.2.2.1),(.i .i64 x0.2.2.2.2.2.2.2.2.2.2.2.2.2.1),(.i .i64 x0.2.2.2.2.2.2.2.2.2.2.2.2.2.2.1),(.i .i64 x0.2.2.2.2.2.2.2.2.2.2.2.2.2.2.2.1),(.i .i64 x0.2.2.2.2.2.2.2.2.2.2.2.2.2.2.2.2.1),(.i .i64 x0.2.2.2.2.2.2.2.2.2.2.2.2.2.2.2.2.2.1),(.i .i64 x0.2.2.2.2.2.2.2.2.2.2.2.2.2.2.2.2.2.2.1),(.i .i64 x0.2.2.2.2.2.2.2.2.2.2.2.2.2.2.2.2.2.2.2),(.s x1.1),(.i .i64 x1.2.1),(.i .i64 x1.2.2.1),(.s x1.2.2.2.1),(.s x1.2.2.2.2.1),(.i .i64 x1.2.2.2.2.2.1),(.ro false (.pr (.int .i64) (.pr (.int .i64) .nil)) x1.2.2.2.2.2.2.1 x1.2.2.2.2.2.2.2.1),(.ro false (.pr (.sl (.pr (.int .i64) (.pr (.int .i64) .nil))) .nil) x1.2.2.2.2.2.2.2.2.1 x1.2.2.2.2.2.2.2.2.2.1),(.s x1.2.2.2.2.2.2.2.2.2.2.1),(.i .i64 x1.2.2.2.2.2.2.2.2.2.2.2.1),(.i .i64 x1.2.2.2.2.2.2.2.2.2.2.2.2.1),(.i .i64 x1.2.2.2.2.2.2.2.2.2.2.2.2.2.1),(.i .i64 x1.2.2.2.2.2.2.2.2.2.2.2.2.2.2.1),(.i .i64 x1.2.2.2.2.2.2.2.2.2.2.2.2.2.2.2.1),(.i .i64 x1.2.2.2.2.2.2.2.2.2.2.2.2.2.2.2.2.1),(.i .i64 x1.2.2.2.2.2.2.2.2.2.2.2.2.2.2.2.2.2.1),(.i .i64 x1.2.2.2.2.2.2.2.2.2.2.2.2.2.2.2.2.2.2.1),(.i .i64 x1.2.2.2.2.2.2.2.2.2.2.2.2.2.2.2.2.2.2.2)])) fun x6 => (bif ((x6 != 19) == false) then (bif ((x2.2.2 != 0) == false) then (bif (((Int.ofNat x2.1) != 2) == false) then (bif (inb 1 x2.1) then (bif ((Int.ofNat (x2.2.1 1 0).len) != 4) then (some false) else (bif (inb 1 x2.1) then (bif (inb 0 (x2.2.1 1 0).len) then (bif (((((x2.2.1 1 0).el 0 0).int == 30) && ((((x2.2.1 1 0).el 0 1).int == 5) && true)) == true) then (ob (F183 u (ByteArray.mk #[83]) 5 2 (rowsF 5 [(.s (ByteArray.mk #[80])),(.i .i64 5),(.i .i64 5),(.i .i64 0),(.b false),(.s (ByteArray.mk #[81])),(.i .i64 30),(.i .i64 5),(.i .i64 0),(.b false)]) 2 (rowsF 18 [(.s x0.1),(.i .i64 x0.2.1),(.i .i64 x0.2.2.1),(.s x0.2.2.2.1),(.s x0.2.2.2.2.1),(.i .i64 x0.2.2.2.2.2.1),(.ro false (.pr (.int .i64) (.pr (.int .i64) .nil)) x0.2.2.2.2.2.2.1 x0.2.2.2.2.2.2.2.1),(.ro false (.pr (.sl (.pr (.int .i64) (.pr (.int .i64) .nil))) .nil) x0.2.2.2.2.2.2.2.2.1 x0.2.2.2.2.2.2.2.2.2.1),(.s x0.2.2.2.2.2.2.2.2.2.2.1),(.i .i64 x0.2.2.2.2.2.2.2.2.2.2.2.1),(.i .i64 x0.2.2.2.2.2.2.2.2.2.2.2.2.1),(.i .i64 x0.2.2.2.2.2.2.2.2.2.2.2.2.2.1),(.i .i64 x0.2.2.2.2.2.2.2.2.2.2.2.2.2.2.1),(.i .i64 x0.2.2.2.2.2.2.2.2.2.2.2.2.2.2.2.1),(.i .i64 x0.2.2.2.2.2.2.2.2.2.2.2.2.2.2.2.2.1),(.i .i64 x0.2.2.2.2.2.2.2.2.2.2.2.2.2.2.2.2.2.1),(.i .i64 x0.2.2.2.2.2.2.2.2.2.2.2.2.2.2.2.2.2.2.1),(.i .i64 x0.2.2.2.2.2.2.2.2.2.2.2.2.2.2.2.2.2.2.2),(.s x1.1),(.i .i64 x1.2.1),(.i .i64 x1.2.2.1),(.s x1.2.2.2.1),(.s x1.2.2.2.2.1),(.i .i64 x1.2.2.2.2.2.1),(.ro false (.pr (.int .i64) (.pr (.int .i64) .nil)) x1.2.2.2.2.2.2.1 x1.2.2.2.2.2.2.2.1),(.ro false (.pr (.sl (.pr (.int .i64) (.pr (.int .i64) .nil))) .nil) x1.2.2.2.2.2.2.2.2.1 x1.2.2.2.2.2.2.2.2.2.1),(.s x1.2.2.2.2.2.2.2.2.2.2.1),(.i .i64 x1.2.2.2.2.2.2.2.2.2.2.2.1),(.i .i64 x1.2.2.2.2.2.2.2.2.2.2.2.2.1),(.i .i64 x1.2.2.2.2.2.2.2.2.2.2.2.2.2.1),(.i .i64 x1.2.2.2.2.2.2.2.2.2.2.2.2.2.2.1),(.i .i64 x1.2.2.2.2.2.2.2.2.2.2.2.2.2.2.2.1),(.i .i64 x1.2.2.2.2.2.2.2.2.2.2.2.2.2.2.2.2.1),(.i .i64 x1.2.2.2.2.2.2.2.2.2.2.2.2.2.2.2.2.2.1),(.i .i64 x1.2.2.2.2.2.2.2.2.2.2.2.2.2.2.2.2.2.2.1),(.i .i64 x1.2.2.2.2.2.2.2.2.2.2.2.2.2.2.2.2.2.2.2)])) fun x7 => (bif ((x7 == 1600) == true) then (ob (F186 u (ByteArray.mk #[83]) 5 2 (rowsF 5 [(.s (ByteArray.mk #[80])),(.i .i64 5),(.i .i64 5),(.i .i64 0),(.b false),(.s (ByteArray.mk #[81])),(.i .i64 30),(.i .i64 5),(.i .i64 0),(.b false)]) (ByteArray.mk #[83]) (ByteArray.mk #[65]) 10 100 50 (ByteArray.mk #[72]) 2 (rowsF 18 [(.s x0.1),(.i .i64 x0.2.1),(.i .i64 x0.2.2.1),(.s x0.2.2.2.1),(.s x0.2.2.2.2.1),(.i .i64 x0.2.2.2.2.2.1),(.ro false (.pr (.int .i64) (.pr (.int .i64) .nil)) x0.2.2.2.2.2.2.1 x0.2.2.2.2.2.2.2.1),(.ro false (.pr (.sl (.pr (.int .i64) (.pr (.int .i64) .nil))) .nil) x0.2.2.2.2.2.2.2.2.1 x0.2.2.2.2.2.2.2.2.2.1),(.s x0.2.2.2.2.2.2.2.2.2.2.1),(.i .i64 x0.2.2.2.2.2.2.2.2.2.2.2.1),(.i .i64 x0.2.2.2.2.2.2.2.2.2.2.2.2.1),(.i .i64 x0.2.2.2.2.2.2.2.2.2.2.2.2.2.1),(.i .i64 x0.2.2.2.2.2.2.2.2.2.2.2.2.2.2.1),(.i .i64 x0.2.2.2.2.2.2.2.2.2.2.2.2.2.2.2.1),(.i .i64 x0.2.2.2.2.2.2.2.2.2.2.2.2.2.2.2.2.1),(.i .i64 x0.2.2.2.2.2.2.2.2.2.2.2.2.2.2.2.2.2.1),(.i .i64 x0.2.2.2.2.2.2.2.2.2.2.2.2.2.2.2.2.2.2.1),(.i .i64 x0.2.2.2.2.2.2.2.2.2.2.2.2.2.2.2.2.2.2.2),(.s x1.1),(.i .i64 x1.2.1),(.i .i64 x1.2.2.1),(.s x1.2.2.2.1),(.s x1.2.2.2.2.1),(.i .i64 x1.2.2.2.2.2.1),(.ro false (.pr (.int .i64) (.pr (.int .i64) .nil)) x1.2.2.2.2.2.2.1 x1.2.2.2.2.2.2.2.1),(.ro false (.pr (.sl (.pr (.int .i64) (.pr (.int .i64) .nil))) .nil) x1.2.2.2.2.2.2.2.2.1 x1.2.2.2.2.2.2.2.2.2.1),(.s x1.2.2.2.2.2.2.2.2.2.2.1),(.i .i64 x1.2.2.2.2.2.2.2.2.2.2.2.1),(.i .i64 x1.2.2.2.2.2.2.2.2.2.2.2.2.1),(.i .i64 x1.2.2.2.2.2.2.2.2.2.2.2.2.2.1),(.i .i64 x1.2.2.2.2.2.2.2.2.2.2.2.2.2.2.1),(.i .i64 x1.2.2.2.2.2.2.2.2.2.2.2.2.2.2.2.1),(.i .i64 x1.2.2.2.2.2.2.2.2.2.2.2.2.2.2.2.2.1),(.i .i64 x1.2.2.2.2.2.2.2.2.2.2.2.2.2.2.2.2.2.1),(.i .i64 x1.2.2.2.2.2.2.2.2.2.2.2.2.2.2.2.2.2.2.1),(.i .i64 x1.2.2.2.2.2.2.2.2.2.2.2.2.2.2.2.2.2.2.2)])) fun x8 => (some (x8 == 160))) else (some false))) else (some false)) else none) else none)) else none) else (some false)) else (some false)) else (some false))) else (some false))) else (some false))) else (some false))))))
theorem e187 : evalF (C87 u) u A13 [] = ob (F187 u) fun t => some [.v (.b t)] := Eq.trans (b := (ob (F169 u (ByteArray.mk #[80]) 20) fun x0 => (ob (F169 u (ByteArray.mk #[81]) 20) fun x1 => (ob (F175 u (ByteArray.mk #[83]) 5 2 (rowsF 5 [(.s (ByteArray.mk #[80])),(vi 5),(vi 5),(vi 0),(.b false),(.s (ByteArray.mk #[81])),(vi 30),(vi 5),(vi 0),(.b false)]) 2 (rowsF 18 [(.s x0.1),(vi x0.2.1),(vi x0.2.2.1),(.s x0.2.2.2.1),(.s x0.2.2.2.2.1),(vi x0.2.2.2.2.2.1),(ro kP x0.2.2.2.2.2.2.1 x0.2.2.2.2.2.2.2.1),(ro (.pr (.sl kP) .nil) x0.2.2.2.2.2.2.2.2.1 x0.2.2.2.2.2.2.2.2.2.1),(.s x0.2.2.2.2.2.2.2.2.2.2.1),(vi x0.2.2.2.2.2.2.2.2.2.2.2.1),(vi x0.2.2.2.2.2.2.2.2.2.2.2.2.1),(vi x0.2.2.2.2.2.2.2.2.2.2.2.2.2.1),(vi x0.2.2.2.2.2.2.2.2.2.2.2.2.2.2.1),(vi x0.2.2.2.2.2.2.2.2.2.2.2.2.2.2.2.1),(vi x0.2.2.2.2.2.2.2.2.2.2.2.2.2.2.2.2.1),(vi x0.2.2.2.2.2.2.2.2.2.2.2.2.2.2.2.2.2.1),(vi x0.2.2.2.2.2.2.2.2.2.2.2.2.2.2.2.2.2.2.1),(vi x0.2.2.2.2.2.2.2.2.2.2.2.2.2.2.2.2.2.2.2),(.s x1.1),(vi x1.2.1),(vi x1.2.2.1),(.s x1.2.2.2.1),(.s x1.2.2.2.2.1),(vi x1.2.2.2.2.2.1),(ro kP x1.2.2.2.2.2.2.1 x1.2.2.2.2.2.2.2.1),(ro (.pr (.sl kP) .nil) x1.2.2.2.2.2.2.2.2.1 x1.2.2.2.2.2.2.2.2.2.1),(.s x1.2.2.2.2.2.2.2.2.2.2.1),(vi x1.2.2.2.2.2.2.2.2.2.2.2.1),(vi x1.2.2.2.2.2.2.2.2.2.2.2.2.1),(vi x1.2.2.2.2.2.2.2.2.2.2.2.2.2.1),(vi x1.2.2.2.2.2.2.2.2.2.2.2.2.2.2.1),(vi x1.2.2.2.2.2.2.2.2.2.2.2.2.2.2.2.1),(vi x1.2.2.2.2.2.2.2.2.2.2.2.2.2.2.2.2.1),(vi x1.2.2.2.2.2.2.2.2.2.2.2.2.2.2.2.2.2.1),(vi x1.2.2.2.2.2.2.2.2.2.2.2.2.2.2.2.2.2.2.1),(vi x1.2.2.2.2.2.2.2.2.2.2.2.2.2.2.2.2.2.2.2)])) fun x2 => (ob (F182 u (ByteArray.mk #[83]) 5 2 (rowsF 5 [(.s (ByteArray.mk #[80])),(vi 5),(vi 5),(vi 0),(.b false),(.s (ByteArray.mk #[81])),(vi 30),(vi 5),(vi 0),(.b false)]) (ByteArray.mk #[83]) (ByteArray.mk #[65]) 10 100 50 (ByteArray.mk #[72]) 2 (rowsF 18 [(.s x0.1),(vi x0.2.1),(vi x0.2.2.1),(.s x0.2.2.2.1),(.s x0.2.2.2.2.1),(vi x0.2.2.2.2.2.1),(ro kP x0.2.2.2.2.2.2.1 x0.2.2.2.2.2.2.2.1),(ro (.pr (.sl kP) .nil) x0.2.2.2.2.2.2.2.2.1 x0.2.2.2.2.2.2.2.2.2.1),(.s x0.2.2.2.2.2.2.2.2.2.2.1),(vi x0.2.2.2.2.2.2.2.2.2.2.2.1),(vi x0.2.2.2.2.2.2.2.2.2.2.2.2.1),(vi x0.2.2.2.2.2.2.2.2.2.2.2.2.2.1),(vi x0.2.2.2.2.2.2.2.2.2.2.2.2.2.2.1),(vi x0.2.2.2.2.2.2.2.2.2.2.2.2.2.2.2.1),(vi x0.2.2.2.2.2.2.2.2.2.2.2.2.2.2.2.2.1),(vi x0.2.2.2.2.2.2.2.2.2.2.2.2.2.2.2.2.2.1),(vi x0.2.2.2.2.2.2.2.2.2.2.2.2.2.2.2.2.2.2.1),(vi x0.2.2.2.2.2.2.2.2.2.2.2.2.2.2.2.2.2.2.2),(.s x1.1),(vi x1.2.1),(vi x1.2.2.1),(.s x1.2.2.2.1),(.s x1.2.2.2.2.1),(vi x1.2.2.2.2.2.1),(ro kP x1.2.2.2.2.2.2.1 x1.2.2.2.2.2.2.2.1),(ro (.pr (.sl kP) .nil) x1.2.2.2.2.2.2.2.2.1 x1.2.2.2.2.2.2.2.2.2.1),(.s x1.2.2.2.2.2.2.2.2.2.2.1),(vi x1.2.2.2.2.2.2.2.2.2.2.2.1),(vi x1.2.2.2.2.2.2.2.2.2.2.2.2.1),(vi x1.2.2.2.2.2.2.2.2.2.2.2.2.2.1),(vi x1.2.2.2.2.2.2.2.2.2.2.2.2.2.2.1),(vi x1.2.2.2.2.2.2.2.2.2.2.2.2.2.2.2.1),(vi x1.2.2.2.2.2.2.2.2.2.2.2.2.2.2.2.2.1),(vi x1.2.2.2.2.2.2.2.2.2.2.2.2.2.2.2.2.2.1),(vi x1.2.2.2.2.2.2.2.2.2.2.2.2.2.2.2.2.2.2.1),(vi x1.2.2.2.2.2.2.2.2.2.2.2.2.2.2.2.2.2.2.2)])) fun x3 => (bif ((x3 != 0) == false) then (ob (F182 u (ByteArray.mk #[83]) 6 2 (rowsF 5 [(.s (ByteArray.mk #[80])),(vi 5),(vi 5),(vi 0),(.b false),(.s (ByteArray.mk #[81])),(vi 30),(vi 5),(vi 0),(.b false)]) (ByteArray.mk #[83]) (ByteArray.mk #[65]) 10 100 50 (ByteArray.mk #[72]) 2 (rowsF 18 [(.s x0.1),(vi x0.2.1),(vi x0.2.2.1),(.s x0.2.2.2.1),(.s x0.2.2.2.2.1),(vi x0.2.2.2.2.2.1),(ro kP x0.2.2.2.2.2.2.1 x0.2.2.2.2.2.2.2.1),(ro (.pr (.sl kP) .nil) x0.2.2.2.2.2.2.2.2.1 x0.2.2.2.2.2.2.2.2.2.1),(.s x0.2.2.2.2.2.2.2.2.2.2.1),(vi x0.2.2.2.2.2.2.2.2.2.2.2.1),(vi x0.2.2.2.2.2.2.2.2.2.2.2.2.1),(vi x0.2.2.2.2.2.2.2.2.2.2.2.2.2.1),(vi x0.2.2.2.2.2.2.2.2.2.2.2.2.2.2.1),(vi x0.2.2.2.2.2.2.2.2.2.2.2.2.2.2.2.1),(vi x0.2.2.2.2.2.2.2.2.2.2.2.2.2.2.2.2.1),(vi x0.2.2.2.2.2.2.2.2.2.2.2.2.2.2.2.2.2.1),(vi x0.2.2.2.2.2.2.2.2.2.2.2.2.2.2.2.2.2.2.1),(vi x0.2.2.2.2.2.2.2.2.2.2.2.2.2.2.2.2.2.2.2),(.s x1.1),(vi x1.2.1),(vi x1.2.2.1),(.s x1.2.2.2.1),(.s x1.2.2.2.2.1),(vi x1.2.2.2.2.2.1),(ro kP x1.2.2.2.2.2.2.1 x1.2.2.2.2.2.2.2.1),(ro (.pr (.sl kP) .nil) x1.2.2.2.2.2.2.2.2.1 x1.2.2.2.2.2.2.2.2.2.1),(.s x1.2.2.2.2.2.2.2.2.2.2.1),(vi x1.2.2.2.2.2.2.2.2.2.2.2.1),(vi x1.2.2.2.2.2.2.2.2.2.2.2.2.1),(vi x1.2.2.2.2.2.2.2.2.2.2.2.2.2.1),(vi x1.2.2.2.2.2.2.2.2.2.2.2.2.2.2.1),(vi x1.2.2.2.2.2.2.2.2.2.2.2.2.2.2.2.1),(vi x1.2.2.2.2.2.2.2.2.2.2.2.2.2.2.2.2.1),(vi x1.2.2.2.2.2.2.2.2.2.2.2.2.2.2.2.2.2.1),(vi x1.2.2.2.2.2.2.2.2.2.2.2.2.2.2.2.2.2.2.1),(vi x1.2.2.2.2.2.2.2.2.2.2.2.2.2.2.2.2.2.2.2)])) fun x4 => (bif ((x4 != 18) == false) then (ob (F182 u (ByteArray.mk #[83]) 5 2 (rowsF 5 [(.s (CV.str ((rowsF 5 [(.s (ByteArray.mk #[80])),(vi 5),(vi 5),(vi 0),(.b false),(.s (ByteArray.mk #[81])),(vi 30),(vi 5),(vi 0),(.b false)]) 0 0))),(vi (CV.int ((rowsF 5 [(.s (ByteArray.mk #[80])),(vi 5),(vi 5),(vi 0),(.b false),(.s (ByteArray.mk #[81])),(vi 30),(vi 5),(vi 0),(.b false)]) 0 1))),(vi (CV.int ((rowsF 5 [(.s (ByteArray.mk #[80])),(vi 5),(vi 5),(vi 0),(.b false),(.s (ByteArray.mk #[81])),(vi 30),(vi 5),(vi 0),(.b false)]) 0 2))),(vi (CV.int ((rowsF 5 [(.s (ByteArray.mk #[80])),(vi 5),(vi 5),(vi 0),(.b false),(.s (ByteArray.mk #[81])),(vi 30),(vi 5),(vi 0),(.b false)]) 0 3))),(.b (CV.bool ((rowsF 5 [(.s (ByteArray.mk #[80])),(vi 5),(vi 5),(vi 0),(.b false),(.s (ByteArray.mk #[81])),(vi 30),(vi 5),(vi 0),(.b false)]) 0 4))),(.s (ByteArray.mk #[80])),(vi 60),(vi 5),(vi 0),(.b false)]) (ByteArray.mk #[83]) (ByteArray.mk #[65]) 10 100 50 (ByteArray.mk #[72]) 2 (rowsF 18 [(.s x0.1),(vi x0.2.1),(vi x0.2.2.1),(.s x0.2.2.2.1),(.s x0.2.2.2.2.1),(vi x0.2.2.2.2.2.1),(ro kP x0.2.2.2.2.2.2.1 x0.2.2.2.2.2.2.2.1),(ro (.pr (.sl kP) .nil) x0.2.2.2.2.2.2.2.2.1 x0.2.2.2.2.2.2.2.2.2.1),(.s x0.2.2.2.2.2.2.2.2.2.2.1),(vi x0.2.2.2.2.2.2.2.2.2.2.2.1),(vi x0.2.2.2.2.2.2.2.2.2.2.2.2.1),(vi x0.2.2.2.2.2.2.2.2.2.2.2.2.2.1),(vi x0.2.2.2.2.2.2.2.2.2.2.2.2.2.2.1),(vi x0.2.2.2.2.2.2.2.2.2.2.2.2.2.2.2.1),(vi x0.2.2.2.2.2.2.2.2.2.2.2.2.2.2.2.2.1),(vi x0.2.2.2.2.2.2.2.2.2.2.2.2.2.2.2.2.2.1),(vi x0.2.2.2.2.2.2.2.2.2.2.2.2.2.2.2.2.2.2.1),(vi x0.2.2.2.2.2.2.2.2.2.2.2.2.2.2.2.2.2.2.2),(.s x1.1),(vi x1.2.1),(vi x1.2.2.1),(.s x1.2.2.2.1),(.s x1.2.2.2.2.1),(vi x1.2.2.2.2.2.1),(ro kP x1.2.2.2.2.2.2.1 x1.2.2.2.2.2.2.2.1),(ro (.pr (.sl kP) .nil) x1.2.2.2.2.2.2.2.2.1 x1.2.2.2.2.2.2.2.2.2.1),(.s x1.2.2.2.2.2.2.2.2.2.2.1),(vi x1.2.2.2.2.2.2.2.2.2.2.2.1),(vi x1.2.2.2.2.2.2.2.2.2.2.2.2.1),(vi x1.2.2.2.2.2.2.2.2.2.2.2.2.2.1),(vi x1.2.2.2.2.2.2.2.2.2.2.2.2.2.2.1),(vi x1.2.2.2.2.2.2.2.2.2.2.2.2.2.2.2.1),(vi x1.2.2.2.2.2.2.2.2.2.2.2.2.2.2.2.2.1),(vi x1.2.2.2.2.2.2.2.2.2.2.2.2.2.2.2.2.2.1),(vi x1.2.2.2.2.2.2.2.2.2.2.2.2.2.2.2.2.2.2.1),(vi x1.2.2.2.2.2.2.2.2.2.2.2.2.2.2.2.2.2.2.2)])) fun x5 => (bif ((x5 != 7) == false) then (ob (F182 u ByteArray.empty 5 2 (rowsF 5 [(.s (CV.str ((rowsF 5 [(.s (ByteArray.mk #[80])),(vi 5),(vi 5),(vi 0),(.b false),(.s (ByteArray.mk #[81])),(vi 30),(vi 5),(vi 0),(.b false)]) 0 0))),(vi (CV.int ((rowsF 5 [(.s (ByteArray.mk #[80])),(vi 5),(vi 5),(vi 0),(.b false),(.s (ByteArray.mk #[81])),(vi 30),(vi 5),(vi 0),(.b false)]) 0 1))),(vi (CV.int ((rowsF 5 [(.s (ByteArray.mk #[80])),(vi 5),(vi 5),(vi 0),(.b false),(.s (ByteArray.mk #[81])),(vi 30),(vi 5),(vi 0),(.b false)]) 0 2))),(vi (CV.int ((rowsF 5 [(.s (ByteArray.mk #[80])),(vi 5),(vi 5),(vi 0),(.b false),(.s (ByteArray.mk #[81])),(vi 30),(vi 5),(vi 0),(.b false)]) 0 3))),(.b (CV.bool ((rowsF 5 [(.s (ByteArray.mk #[80])),(vi 5),(vi 5),(vi 0),(.b false),(.s (ByteArray.mk #[81])),(vi 30),(vi 5),(vi 0),(.b false)]) 0 4))),(.s (ByteArray.mk #[81])),(vi 29),(vi 5),(vi 0),(.b false)]) (ByteArray.mk #[83]) (ByteArray.mk #[65]) 10 100 50 (ByteArray.mk #[72]) 2 (rowsF 18 [(.s x0.1),(vi x0.2.1),(vi x0.2.2.1),(.s x0.2.2.2.1),(.s x0.2.2.2.2.1),(vi x0.2.2.2.2.2.1),(ro kP x0.2.2.2.2.2.2.1 x0.2.2.2.2.2.2.2.1),(ro (.pr (.sl kP) .nil) x0.2.2.2.2.2.2.2.2.1 x0.2.2.2.2.2.2.2.2.2.1),(.s x0.2.2.2.2.2.2.2.2.2.2.1),(vi x0.2.2.2.2.2.2.2.2.2.2.2.1),(vi x0.2.2.2.2.2.2.2.2.2.2.2.2.1),(vi x0.2.2.2.2.2.2.2.2.2.2.2.2.2.1),(vi x0.2.2.2.2.2.2.2.2.2.2.2.2.2.2.1),(vi x0.2.2.2.2.2.2.2.2.2.2.2.2.2.2.2.1),(vi x0.2.2.2.2.2.2.2.2.2.2.2.2.2.2.2.2.1),(vi x0.2.2.2.2.2.2.2.2.2.2.2.2.2.2.2.2.2.1),(vi x0.2.2.2.2.2.2.2.2.2.2.2.2.2.2.2.2.2.2.1),(vi x0.2.2.2.2.2.2.2.2.2.2.2.2.2.2.2.2.2.2.2),(.s x1.1),(vi x1.2.1),(vi x1.2.2.1),(.s x1.2.2.2.1),(.s x1.2.2.2.2.1),(vi x1.2.2.2.2.2.1),(ro kP x1.2.2.2.2.2.2.1 x1.2.2.2.2.2.2.2.1),(ro (.pr (.sl kP) .nil) x1.2.2.2.2.2.2.2.2.1 x1.2.2.2.2.2.2.2.2.2.1),(.s x1.2.2.2.2.2.2.2.2.2.2.1),(vi x1.2.2.2.2.2.2.2.2.2.2.2.1),(vi x1.2.2.2.2.2.2.2.2.2.2.2.2.1),(vi x1.2.2.2.2.2.2.2.2.2.2.2.2.2.1),(vi x1.2.2.2.2.2.2.2.2.2.2.2.2.2.2.1),(vi x1.2.2.2.2.2.2.2.2.2.2.2.2.2.2.2.1),(vi x1.2.2.2.2.2.2.2.2.2.2.2.2.2.2.2.2.1),(vi x1.2.2.2.2.2.2.2.2.2.2.2.2.2.2.2.2.2.1),(vi x1.2.2.2.2.2.2.2.2.2.2.2.2.2.2.2.2.2.2.1),(vi x1.2.2.2.2.2.2.2.2.2.2.2.2.2.2.2.2.2.2.2)])) fun x6 => (bif ((x6 != 19) == false) then (bif ((x2.2.2 != 0) == false) then (bif (((Int.ofNat x2.1) != 2) == false) then (bif (inb 1 x2.1) then (bif ((Int.ofNat (x2.2.1 1 0).len) != 4) then (some [.v (.b false)]) else (bif (inb 1 x2.1) then (bif (inb 0 (x2.2.1 1 0).len) then (bif (((((x2.2.1 1 0).el 0 0).int == 30) && ((((x2.2.1 1 0).el 0 1).int == 5) && true)) == true) then (ob (F183 u (ByteArray.mk #[83]) 5 2 (rowsF 5 [(.s (ByteArray.mk #[80])),(vi 5),(vi 5),(vi 0),(.b false),(.s (ByteArray.mk #[81])),(vi 30),(vi 5),(vi 0),(.b false)]) 2 (rowsF 18 [(.s x0.1),(vi x0.2.1),(vi x0.2.2.1),(.s x0.2.2.2.1),(.s x0.2.2.2.2.1),(vi x0.2.2.2.2.2.1),(ro kP x0.2.2.2.2.2.2.1 x0.2.2.2.2.2.2.2.1),(ro (.pr (.sl kP) .nil) x0.2.2.2.2.2.2.2.2.1 x0.2.2.2.2.2.2.2.2.2.1),(.s x0.2.2.2.2.2.2.2.2.2.2.1),(vi x0.2.2.2.2.2.2.2.2.2.2.2.1),(vi x0.2.2.2.2.2.2.2.2.2.2.2.2.1),(vi x0.2.2.2.2.2.2.2.2.2.2.2.2.2.1),(vi x0.2.2.2.2.2.2.2.2.2.2.2.2.2.2.1),(vi x0.2.2.2.2.2.2.2.2.2.2.2.2.2.2.2.1),(vi x0.2.2.2.2.2.2.2.2.2.2.2.2.2.2.2.2.1),(vi x0.2.2.2.2.2.2.2.2.2.2.2.2.2.2.2.2.2.1),(vi x0.2.2.2.2.2.2.2.2.2.2.2.2.2.2.2.2.2.2.1),(vi x0.2.2.2.2.2.2.2.2.2.2.2.2.2.2.2.2.2.2.2),(.s x1.1),(vi x1.2.1),(vi x1.2.2.1),(.s x1.2.2.2.1),(.s x1.2.2.2.2.1),(vi x1.2.2.2.2.2.1),(ro kP x1.2.2.2.2.2.2.1 x1.2.2.2.2.2.2.2.1),(ro (.pr (.sl kP) .nil) x1.2.2.2.2.2.2.2.2.1 x1.2.2.2.2.2.2.2.2.2.1),(.s x1.2.2.2.2.2.2.2.2.2.2.1),(vi x1.2.2.2.2.2.2.2.2.2.2.2.1),(vi x1.2.2.2.2.2.2.2.2.2.2.2.2.1),(vi x1.2.2.2.2.2.2.2.2.2.2.2.2.2.1),(vi x1.2.2.2.2.2.2.2.2.2.2.2.2.2.2.1),(vi x1.2.2.2.2.2.2.2.2.2.2.2.2.2.2.2.1),(vi x1.2.2.2.2.2.2.2.2.2.2.2.2.2.2.2.2.1),(vi x1.2.2.2.2.2.2.2.2.2.2.2.2.2.2.2.2.2.1),(vi x1.2.2.2.2.2.2.2.2.2.2.2.2.2.2.2.2.2.2.1),(vi x1.2.2.2.2.2.2.2.2.2.2.2.2.2.2.2.2.2.2.2)])) fun x7 => (bif ((x7 == 1600) == true) then (ob (F186 u (ByteArray.mk #[83]) 5 2 (rowsF 5 [(.s (ByteArray.mk #[80])),(vi 5),(vi 5),(vi 0),(.b false),(.s (ByteArray.mk #[81])),(vi 30),(vi 5),(vi 0),(.b false)]) (ByteArray.mk #[83]) (ByteArray.mk #[65]) 10 100 50 (ByteArray.mk #[72]) 2 (rowsF 18 [(.s x0.1),(vi x0.2.1),(vi x0.2.2.1),(.s x0.2.2.2.1),(.s x0.2.2.2.2.1),(vi x0.2.2.2.2.2.1),(ro kP x0.2.2.2.2.2.2.1 x0.2.2.2.2.2.2.2.1),(ro (.pr (.sl kP) .nil) x0.2.2.2.2.2.2.2.2.1 x0.2.2.2.2.2.2.2.2.2.1),(.s x0.2.2.2.2.2.2.2.2.2.2.1),(vi x0.2.2.2.2.2.2.2.2.2.2.2.1),(vi x0.2.2.2.2.2.2.2.2.2.2.2.2.1),(vi x0.2.2.2.2.2.2.2.2.2.2.2.2.2.1),(vi x0.2.2.2.2.2.2.2.2.2.2.2.2.2.2.1),(vi x0.2.2.2.2.2.2.2.2.2.2.2.2.2.2.2.1),(vi x0.2.2.2.2.2.2.2.2.2.2.2.2.2.2.2.2.1),(vi x0.2.2.2.2.2.2.2.2.2.2.2.2.2.2.2.2.2.1),(vi x0.2.2.2.2.2.2.2.2.2.2.2.2.2.2.2.2.2.2.1),(vi x0.2.2.2.2.2.2.2.2.2.2.2.2.2.2.2.2.2.2.2),(.s x1.1),(vi x1.2.1),(vi x1.2.2.1),(.s x1.2.2.2.1),(.s x1.2.2.2.2.1),(vi x1.2.2.2.2.2.1),(ro kP x1.2.2.2.2.2.2.1 x1.2.2.2.2.2.2.2.1),(ro (.pr (.sl kP) .nil) x1.2.2.2.2.2.2.2.2.1 x1.2.2.2.2.2.2.2.2.2.1),(.s x1.2.2.2.2.2.2.2.2.2.2.1),(vi x1.2.2.2.2.2.2.2.2.2.2.2.1),(vi x1.2.2.2.2.2.2.2.2.2.2.2.2.1),(vi x1.2.2.2.2.2.2.2.2.2.2.2.2.2.1),(vi x1.2.2.2.2.2.2.2.2.2.2.2.2.2.2.1),(vi x1.2.2.2.2.2.2.2.2.2.2.2.2.2.2.2.1),(vi x1.2.2.2.2.2.2.2.2.2.2.2.2.2.2.2.2.1),(vi x1.2.2.2.2.2.2.2.2.2.2.2.2.2.2.2.2.2.1),(vi x1.2.2.2.2.2.2.2.2.2.2.2.2.2.2.2.2.2.2.1),(vi x1.2.2.2.2.2.2.2.2.2.2.2.2.2.2.2.2.2.2.2)])) fun x8 => (some [.v (.b (x8 == 160))])) else (some [.v (.b false)]))) else (some [.v (.b false)])) else none) else none)) else none) else (some [.v (.b false)])) else (some [.v (.b false)])) else (some [.v (.b false)]))) else (some [.v (.b false)]))) else (some [.v (.b false)]))) else (some [.v (.b false)]))))))) (by kernel_rfl) (by
 simp only [F187,ob_bif,ob_ob,ob_none,ob_some])
def O187 : Ora := mkO q0 (fun x => F187 u) fun t => [.v (.b t)]
theorem d187 : DO (O187 u) (C87 u) 13 A13 := dO u (fun x => by exact e187 u)
def C88 : Oracle := (C87 u).add 13 (fun _ => true) (O187 u)
def A21 : AF := ⟨15,[.tmp 2],
 (.seq (.region 0 [o1 1 (bx 0 29 0),o1 2 (sb false)] 1 none) []
 (.seq (.region 1 [o1 3 (ln 29 10 1),o1 4 (cs 10 [3] [29]),mv 5 4,og 6 (fa 29 1 0 0) 5 true,og 7 (ln 24 3 6) 5 true,og 8 (fa 29 1 1 3) 5 true,og 9 (ln 26 6 8) 5 true,og 10 (fa 29 1 2 9) 5 true,og 11 (lo 27 10) 5 true,og 12 (cs 12 [7,9,11] [24,26,27]) 5 true,og 13 (bk .eql 31 12 0) 5 true,o1 14 (po 5 13),o1 2 (sg 14)] 0 none) []
 (.ghost [0] (.ret (0 :: 1 :: (rl 3 12 []))))))⟩
def F181 (x0 : Nat → CV) : Option (Bool) :=
 (ob (F168 u (listF (pj kR0 x0))) fun x1 => (bif (x1 == true) then (ob (F180 u (x0 0).str (x0 1).int (x0 2).len (x0 2).el (x0 3).str (x0 4).str (x0 5).int (x0 6).int (x0 7).int (x0 8).str (x0 9).len (x0 9).el) fun x2 => (some (x2 == 0))) else (some false)))
theorem e181 : evalF (C88 u) u A21 [.agg (pj kR0 g0)] = ob (F181 u g0) fun t => some [.v (.b t)] := Eq.trans (b := (ob (F168 u (listF (pj kR0 g0))) fun x0 => (bif (x0 == true) then (ob (F180 u (g0 0).str (g0 1).int (g0 2).len (g0 2).el (g0 3).str (g0 4).str (g0 5).int (g0 6).int (g0 7).int (g0 8).str (g0 9).len (g0 9).el) fun x1 => (some [.v (.b (x1 == 0))])) else (some [.v (.b false)])))) (by kernel_rfl) (by
 simp only [F181,ob_bif,ob_ob,ob_none,ob_some])
def O181 : Ora := mkO (q1 (ar kR0)) (fun x => F181 u x) fun t => [.v (.b t)]
theorem d181 : DO (O181 u) (C88 u) 21 A21 := dO u (fun x => by exact e181 u x)
def C89 : Oracle := (C88 u).add 21 (fun _ => true) (O181 u)
def A27v1 : AC := (.seq (.region 3 [o1 8 (ln 50 2 2),o1 9 (ln 41 2 3),o1 10 (cs 40 [8,9] [50,41]),o1 4 (sg 10)] 0 none) []
 (.ret (rl 0 4 (rl 5 6 []))))
def A27 : AF := ⟨11,[.tmp 4],
 (.seq (.region 0 [o1 2 (bx 0 50 0),o1 3 (bx 1 41 1),o1 4 (sk 0)] 2 none) []
 (.seq (.seq (.region 1 [o1 5 (ln 50 2 2),o1 6 (cs 24 [5] [50]),o1 7 (bk .neq 31 6 0)] 0 none) []
 (.cond (tm 7)
 (.seq (.region 2 [o1 4 (sk (-1))] 0 none) []
  (.ret (rl 0 4 (rl 5 6 []))))
 .skip)) (rl 4 4 [])
 A27v1))⟩
def F22 (x0 : Nat) (x1 : FF) (x2 : Nat) (x3 : FF) (x4 x5 : Int) : Option (Int) :=
 (ob (F13 u x0 x1 x2 x3) fun x6 => (bif (x6 != 0) then (some (-1)) else (ob (F47 u x0 x1 x2 x3 x4 x5) fun x7 => (some x7))))
theorem e22 : evalF (C89 u) u A27 [.agg [(ro kP n0 f0),(ro (.pr (.sl kP) .nil) n1 f1)],.agg [(vi i0),(vi i1)]] = ob (F22 u n0 f0 n1 f1 i0 i1) fun t => some [.v (vi t)] := Eq.trans (b := (ob (F13 u n0 f0 n1 f1) fun x0 => (bif (x0 != 0) then (some [.v (vi (-1))]) else (ob (F47 u n0 f0 n1 f1 i0 i1) fun x1 => (some [.v (vi x1)]))))) (by kernel_rfl) (by
 simp only [F22,ob_bif,ob_ob,ob_none,ob_some])
def O22 : Ora := mkO (qc (ag (tc (cL kP) (t1 (cL (.pr (.sl kP) .nil))))) (q1 (ag (tc ci (t1 ci))))) (fun x => F22 u x.1.1.1 x.1.1.2 x.1.2.1 x.1.2.2 x.2.1 x.2.2) fun t => [.v (vi t)]
theorem d22 : DO (O22 u) (C89 u) 27 A27 := dO u (fun x => by exact e22 u x.1.1.1 x.1.2.1 x.1.1.2 x.1.2.2 x.2.1 x.2.2)
def C90 : Oracle := (C89 u).add 27 (fun _ => true) (O22 u)
def A9v1 : AC := (.region 12 [mv 50 8,mv 51 5,mv 52 9,o1 53 (.indexAddr 34 50 2 (tm 51) (tm 52)),o1 54 (ln 50 2 53),o1 55 (cs 28 [54] [50]),o1 56 (bt .add 3 50 55),o1 8 (sg 56)] 0 none)
def A9v2 : AC := (.region 9 [mv 39 9,o1 40 (bk .add 3 39 1),o1 9 (sg 40)] 0 none)
def A9v3 : AC := (.seq (.block 1
 (.seq (.seq (.region 10 [mv 41 5,mv 42 9,o1 43 (.indexAddr 34 50 2 (tm 41) (tm 42)),o1 44 (ln 50 2 43),o1 45 (ln 41 2 3),o1 46 (cs 27 [44,45] [50,41]),o1 47 (bk .geq 3 46 0)] 0 (some [[],[],[0,1],[0,1,2],[],(rl 0 5 []),(rl 0 6 [])])) []
  (.cond (tm 47)
  (.region 11 [mv 48 7,o1 49 (bk .add 3 48 1),o1 7 (sg 49)] 0 none)
  .skip)) (rl 41 9 [])
  A9v1)) (rl 41 16 [])
 A9v2)
def A9v4 : AC := (.seq (.seq (.region 8 [mv 35 9,mv 36 5,o1 37 (.len 34 false (tm 36)),o1 38 (bt .lss 3 35 37)] 0 none) []
 (.cond (tm 38)
 .skip
 (.exit 0 (0 :: 1 :: 4 :: 5 :: 6 :: (rl 9 139 []))))) (rl 35 4 [])
 A9v3)
def A9v5 : AC := (.seq (.region 13 [o1 57 (fa 41 3 0 0),o1 58 (lo 3 57),o1 59 (fa 29 2 0 0),o1 60 (fa 24 59 1 1),o1 61 (lo 3 60),o1 62 (bt .geq 3 58 61),mv 63 62,og 64 (fa 41 3 1 1) 63 true,og 65 (lo 3 64) 63 true,og 66 (fa 29 2 0 0) 63 true,og 67 (fa 24 66 1 1) 63 true,og 68 (lo 3 67) 63 true,og 69 (bt .geq 3 65 68) 63 true,o1 70 (po 63 69),mv 71 70,og 72 (fa 41 3 0 0) 71 true,og 73 (lo 3 72) 71 true,og 74 (fa 29 2 1 3) 71 true,og 75 (fa 26 74 3 3) 71 true,og 76 (lo 3 75) 71 true,og 77 (fa 29 2 0 0) 71 true,og 78 (fa 24 77 1 1) 71 true,og 79 (lo 3 78) 71 true,og 80 (bt .sub 3 76 79) 71 true,og 81 (bt .leq 3 73 80) 71 true,o1 82 (po 71 81),mv 83 82,og 84 (fa 41 3 1 1) 83 true,og 85 (lo 3 84) 83 true,og 86 (fa 29 2 1 3) 83 true,og 87 (fa 26 86 4 4) 83 true,og 88 (lo 3 87) 83 true,og 89 (fa 29 2 0 0) 83 true,og 90 (fa 24 89 1 1) 83 true,og 91 (lo 3 90) 83 true,og 92 (bt .sub 3 88 91) 83 true,og 93 (bt .leq 3 85 92) 83 true,o1 94 (po 83 93),o1 10 (sg 94)] 0 none) []
 (.seq (.region 14 [o1 95 (fa 29 2 0 0),o1 96 (ln 24 3 95),o1 97 (fa 29 2 1 3),o1 98 (ln 26 6 97),o1 99 (fa 29 2 2 9),o1 100 (lo 27 99),o1 101 (cs 19 [96,98,100] [24,26,27]),o1 11 (sg 101)] 0 none) []
 (.seq (.region 15 [mv 102 7,o1 103 (bk .eql 3 102 0),mv 104 103,og 105 (.move (tm 7)) 104 false,og 106 (bk .eql 3 105 1) 104 false,og 107 (.move (tm 106)) 104 false,og 108 (.move (tm 10)) 107 true,og 109 (po 107 108) 104 false,o1 110 (pa 104 109),mv 111 110,og 112 (.move (tm 8)) 111 true,og 113 (fa 29 2 0 0) 111 true,og 114 (ln 24 3 113) 111 true,og 115 (fa 29 2 2 9) 111 true,og 116 (lo 27 115) 111 true,og 117 (cs 17 [114,116] [24,27]) 111 true,og 118 (bt .eql 3 112 117) 111 true,o1 119 (po 111 118),mv 120 119,og 121 (.move (tm 11)) 120 true,og 122 (bk .geq 3 121 0) 120 true,o1 123 (po 120 122),mv 124 123,og 125 (.move (tm 11)) 124 true,og 126 (bk .leq 3 125 1000) 124 true,o1 127 (po 124 126),mv 128 127,og 129 (.move (tm 11)) 128 true,og 130 (.move (tm 8)) 128 true,og 131 (bk .mul 3 130 1000) 128 true,og 132 (fa 29 2 1 3) 128 true,og 133 (fa 26 132 3 3) 128 true,og 134 (lo 3 133) 128 true,og 135 (.mm true [(ic 1),(tm 134)] [3,3]) 128 true,og 136 (.binOp .mul 3 (ic 2) (tm 135) 3) 128 true,og 137 (fa 29 2 1 3) 128 true,og 138 (fa 26 137 4 4) 128 true,og 139 (lo 3 138) 128 true,og 140 (.mm true [(ic 1),(tm 139)] [3,3]) 128 true,og 141 (bt .mul 3 136 140) 128 true,og 142 (bt .quo 3 131 141) 128 true,og 143 (bt .eql 3 129 142) 128 true,o1 144 (po 128 143),mv 145 144,og 146 (cs 13 [] []) 145 true,o1 147 (po 145 146),o1 4 (sg 147)] 0 none) []
 (.ghost [0,1] (.ret (rl 0 4 (rl 5 143 [])))))))
def A9v6 : AC := (.seq (.region 6 [o1 7 (sk 0),o1 8 (sk 0)] 0 none) []
 (.seq (.seq (.region 7 [o1 9 (sk 0)] 0 none) []
 (.block 0
 (.loop [] (0 :: 1 :: 4 :: 6 :: (rl 10 138 []))
  A9v4))) (9 :: (rl 35 22 []))
 A9v5))
def A9v7 : AC := (.seq (.region 3 [o1 17 (fa 29 2 0 0),o1 18 (ln 24 3 17),o1 19 (fa 29 2 2 9),o1 20 (lo 27 19),o1 21 (cf 14 [18,20] [24,27]),mv 16 21,o1 22 (.extract (tm 16) 0),o1 23 (.extract (tm 16) 1),o1 5 (sg 22),o1 6 (sg 23)] 0 none) []
 (.seq (.seq (.region 4 [mv 24 6,o1 25 (bk .neq 31 24 0),mv 26 25,og 27 (.move (tm 5)) 26 false,og 28 (.len 34 false (tm 27)) 26 false,og 29 (fa 29 2 0 0) 26 false,og 30 (fa 24 29 2 2) 26 false,og 31 (lo 22 30) 26 false,og 32 (.len 22 false (tm 31)) 26 false,og 33 (bt .neq 3 28 32) 26 false,o1 34 (pa 26 33)] 0 none) []
 (.cond (tm 34)
 (.seq (.region 5 [o1 4 (sb false)] 0 none) []
  (.ghost [0,1] (.ret (rl 0 4 (rl 5 143 [])))))
 .skip)) (4 :: (rl 24 11 []))
 A9v6))
def A9 : AF := ⟨148,[.tmp 4],
 (.seq (.region 0 [o1 2 (bx 0 29 0),o1 3 (bx 1 41 1),o1 4 (sb false)] 2 none) []
 (.seq (.seq (.region 1 [o1 12 (ln 29 10 2),o1 13 (cs 21 [12] [29]),o1 14 (.unOp .not 4 (tm 13))] 0 none) []
 (.cond (tm 14)
 (.seq (.region 2 [o1 15 (cs 13 [] []),o1 4 (sg 15)] 0 none) []
  (.ghost [0,1] (.ret (rl 0 4 (rl 5 143 [])))))
 .skip)) (4 :: (rl 12 4 []))
 A9v7))⟩
def N198v1 : St → Option St := nN 2 (0 :: 1 :: 4 :: 6 :: (rl 10 138 []))
def s198v0 : St := ⟨(.u :: .u :: .x (.ptr 0 0) :: .x (.ptr 1 0) :: .u :: .x (.c (ro kF n0 f0)) :: .u :: vxi i0 :: vxi i1 :: vxi i2 :: (us 138 [])),[.box (pjc kR0 g0),.box [(vci i3),(vci i4)]]⟩
def s198v1 : St := ⟨(.u :: .u :: .x (.ptr 0 0) :: .x (.ptr 1 0) :: (us 3 (vxi i0 :: vxi i1 :: (us 139 [])))),[.box (pjc kR0 g0),.box [(vci i2),(vci i3)]]⟩
def L198v1 {ρ : Type} (u : Nat) (x0 : Nat) (x1 : FF) (x2 : Nat → CV) (x3 x4 : Int) : Nat → Int → Int → Int → (Int → Int → Option ρ) → Option ρ
 | 0,_,_,_,_ => none
 | m + 1,x5,x6,x7,k0 =>
  (bif (decide (x7 < (Int.ofNat x0))) then (bif (inb x7 x0) then (ob (F22 u (x1 x7.toNat 0).len (x1 x7.toNat 0).el (x1 x7.toNat 1).len (x1 x7.toNat 1).el x3 x4) fun x8 => (bif (decide (x8 ≥ 0)) then (bif (inb x7 x0) then (ob (F18 u (x1 x7.toNat 0).len (x1 x7.toNat 0).el (x1 x7.toNat 1).len (x1 x7.toNat 1).el) fun x9 => (L198v1 u x0 x1 x2 x3 x4 m (w64 (x5 + 1)) (w64 (x6 + x9)) (w64 (x7 + 1)) k0)) else none) else (bif (inb x7 x0) then (ob (F18 u (x1 x7.toNat 0).len (x1 x7.toNat 0).el (x1 x7.toNat 1).len (x1 x7.toNat 1).el) fun xA => (L198v1 u x0 x1 x2 x3 x4 m x5 (w64 (x6 + xA)) (w64 (x7 + 1)) k0)) else none))) else none) else (k0 x5 x6))
theorem nl198v1 : ∀ (m : Nat) (x0 x1 x2 : Int) (k0 : Int → Int → Option ρ),ob (L198v1 u n0 f0 g0 i0 i1 m x0 x1 x2 k0) ng = L198v1 u n0 f0 g0 i0 i1 m x0 x1 x2 (fun x3 x4 => ob (k0 x3 x4) ng)
 | 0,_,_,_,_ => rfl
 | m + 1,x0,x1,x2,k0 => by
  simp only [L198v1,ob_bif,ob_ob,ob_none,nl198v1 m]
theorem r198v1 :
  loopH (eB A9v4 (C90 u) u) N198v1 (m + 1) (s198v0 n0 f0 i2 i3 i4 i0 i1 g0) k =
  (bif (decide (i4 < (Int.ofNat n0))) then (bif (inb i4 n0) then (ob (F22 u (f0 i4.toNat 0).len (f0 i4.toNat 0).el (f0 i4.toNat 1).len (f0 i4.toNat 1).el i0 i1) fun x0 => (bif (decide (x0 ≥ 0)) then (bif (inb i4 n0) then (ob (F18 u (f0 i4.toNat 0).len (f0 i4.toNat 0).el (f0 i4.toNat 1).len (f0 i4.toNat 1).el) fun x1 => (loopH (eB A9v4 (C90 u) u) N198v1 m (s198v0 n0 f0 (w64 (i2 + 1)) (w64 (i3 + x1)) (w64 (i4 + 1)) i0 i1 g0) k)) else none) else (bif (inb i4 n0) then (ob (F18 u (f0 i4.toNat 0).len (f0 i4.toNat 0).el (f0 i4.toNat 1).len (f0 i4.toNat 1).el) fun x2 => (loopH (eB A9v4 (C90 u) u) N198v1 m (s198v0 n0 f0 i2 (w64 (i3 + x2)) (w64 (i4 + 1)) i0 i1 g0) k)) else none))) else none) else (k (.exit 0) (s198v1 i2 i3 i0 i1 g0))) := by kernel_rfl
theorem q198v1 : ∀ (m : Nat) (x0 x1 x2 : Int),
  loopH (eB A9v4 (C90 u) u) N198v1 m (s198v0 n0 f0 x0 x1 x2 i0 i1 g0) k = L198v1 u n0 f0 g0 i0 i1 m x0 x1 x2 (fun x3 x4 => k (.exit 0) (s198v1 x3 x4 i0 i1 g0))
 | 0,_,_,_ => rfl
 | m + 1,x0,x1,x2 => by
  rw [r198v1]
  simp only [L198v1,q198v1 m]
def F198 (x0 : Nat → CV) (x1 x2 : Int) : Option (Bool) :=
 (ob (F181 u (listF (pj kR0 x0))) fun x3 => (bif (!x3) then (ob (F187 u) fun x4 => (some x4)) else (ob (F175 u (x0 0).str (x0 1).int (x0 2).len (x0 2).el (x0 9).len (x0 9).el) fun x5 => (bif ((x5.2.2 != 0) == false) then (bif ((Int.ofNat x5.1) != (Int.ofNat (x0 2).len)) then (some false) else (L198v1 u x5.1 x5.2.1 x0 x1 x2 u 0 0 0
  (fun x6 x7 => (bif ((decide (x1 ≥ (x0 1).int)) == true) then (bif ((decide (x2 ≥ (x0 1).int)) == true) then (bif ((decide (x1 ≤ (w64 ((x0 6).int - (x0 1).int)))) == true) then (ob (F186 u (x0 0).str (x0 1).int (x0 2).len (x0 2).el (x0 3).str (x0 4).str (x0 5).int (x0 6).int (x0 7).int (x0 8).str (x0 9).len (x0 9).el) fun x8 => (bif ((x6 == 0) == false) then (bif ((x6 == 1) == true) then (bif ((decide (x2 ≤ (w64 ((x0 7).int - (x0 1).int)))) == true) then (ob (F183 u (x0 0).str (x0 1).int (x0 2).len (x0 2).el (x0 9).len (x0 9).el) fun x9 => (bif ((x7 == x9) == true) then (bif ((decide (x8 ≥ 0)) == true) then (bif ((decide (x8 ≤ 1000)) == true) then (bif ((w64 ((w64 (2 * (if (x0 6).int > 1 then (x0 6).int else 1))) * (if (x0 7).int > 1 then (x0 7).int else 1))) == 0) then none else (bif ((x8 == (w64 (Int.tdiv (w64 (x7 * 1000)) (w64 ((w64 (2 * (if (x0 6).int > 1 then (x0 6).int else 1))) * (if (x0 7).int > 1 then (x0 7).int else 1)))))) == true) then (ob (F187 u) fun xA => (some xA)) else (some false))) else (some false)) else (some false)) else (some false))) else (some false)) else (some false)) else (ob (F183 u (x0 0).str (x0 1).int (x0 2).len (x0 2).el (x0 9).len (x0 9).el) fun xB => (bif ((x7 == xB) == true) then (bif ((decide (x8 ≥ 0)) == true) then (bif ((decide (x8 ≤ 1000)) == true) then (bif ((w64 ((w64 (2 * (if (x0 6).int > 1 then (x0 6).int else 1))) * (if (x0 7).int > 1 then (x0 7).int else 1))) == 0) then none else (bif ((x8 == (w64 (Int.tdiv (w64 (x7 * 1000)) (w64 ((w64 (2 * (if (x0 6).int > 1 then (x0 6).int else 1))) * (if (x0 7).int > 1 then (x0 7).int else 1)))))) == true) then (ob (F187 u) fun xC => (some xC)) else (some false))) else (some false)) else (some false)) else (some false))))) else (ob (F186 u (x0 0).str (x0 1).int (x0 2).len (x0 2).el (x0 3).str (x0 4).str (x0 5).int (x0 6).int (x0 7).int (x0 8).str (x0 9).len (x0 9).el) fun xD => (bif ((x6 == 0) == false) then (bif ((x6 == 1) == true) then (some false) else (some false)) else (ob (F183 u (x0 0).str (x0 1).int (x0 2).len (x0 2).el (x0 9).len (x0 9).el) fun xE => (bif ((x7 == xE) == true) then (bif ((decide (xD ≥ 0)) == true) then (bif ((decide (xD ≤ 1000)) == true) then (bif ((w64 ((w64 (2 * (if (x0 6).int > 1 then (x0 6).int else 1))) * (if (x0 7).int > 1 then (x0 7).int else 1))) == 0) then none else (bif ((xD == (w64 (Int.tdiv (w64 (x7 * 1000)) (w64 ((w64 (2 * (if (x0 6).int > 1 then (x0 6).int else 1))) * (if (x0 7).int > 1 then (x0 7).int else 1)))))) == true) then (ob (F187 u) fun xF => (some xF)) else (some false))) else (some false)) else (some false)) else (some false)))))) else (ob (F186 u (x0 0).str (x0 1).int (x0 2).len (x0 2).el (x0 3).str (x0 4).str (x0 5).int (x0 6).int (x0 7).int (x0 8).str (x0 9).len (x0 9).el) fun xG => (bif ((x6 == 0) == false) then (bif ((x6 == 1) == true) then (some false) else (some false)) else (ob (F183 u (x0 0).str (x0 1).int (x0 2).len (x0 2).el (x0 9).len (x0 9).el) fun xH => (bif ((x7 == xH) == true) then (bif ((decide (xG ≥ 0)) == true) then (bif ((decide (xG ≤ 1000)) == true) then (bif ((w64 ((w64 (2 * (if (x0 6).int > 1 then (x0 6).int else 1))) * (if (x0 7).int > 1 then (x0 7).int else 1))) == 0) then none else (bif ((xG == (w64 (Int.tdiv (w64 (x7 * 1000)) (w64 ((w64 (2 * (if (x0 6).int > 1 then (x0 6).int else 1))) * (if (x0 7).int > 1 then (x0 7).int else 1)))))) == true) then (ob (F187 u) fun xI => (some xI)) else (some false))) else (some false)) else (some false)) else (some false)))))) else (ob (F186 u (x0 0).str (x0 1).int (x0 2).len (x0 2).el (x0 3).str (x0 4).str (x0 5).int (x0 6).int (x0 7).int (x0 8).str (x0 9).len (x0 9).el) fun xJ => (bif ((x6 == 0) == false) then (bif ((x6 == 1) == true) then (some false) else (some false)) else (ob (F183 u (x0 0).str (x0 1).int (x0 2).len (x0 2).el (x0 9).len (x0 9).el) fun xK => (bif ((x7 == xK) == true) then (bif ((decide (xJ ≥ 0)) == true) then (bif ((decide (xJ ≤ 1000)) == true) then (bif ((w64 ((w64 (2 * (if (x0 6).int > 1 then (x0 6).int else 1))) * (if (x0 7).int > 1 then (x0 7).int else 1))) == 0) then none else (bif ((xJ == (w64 (Int.tdiv (w64 (x7 * 1000)) (w64 ((w64 (2 * (if (x0 6).int > 1 then (x0 6).int else 1))) * (if (x0 7).int > 1 then (x0 7).int else 1)))))) == true) then (ob (F187 u) fun xL => (some xL)) else (some false))) else (some false)) else (some false)) else (some false))))))))) else (some false)))))
def s198v2 (x0 : Nat × FF × Int) : St := ⟨(.agg (pjc kR0 g0) :: .agg [(vci i0),(vci i1)] :: .x (.ptr 0 0) :: .x (.ptr 1 0) :: .u :: .x (.c (ro kF x0.1 x0.2.1)) :: vxi x0.2.2 :: vxi 0 :: vxi 0 :: vxi 0 :: uu :: uu :: (us 4 (.tup [.v (ro kF x0.1 x0.2.1),.v (vi x0.2.2)] :: .x (.ptr 0 0) :: .agg [(vcs (g0 0).str),(vci (g0 1).int),(.c (ro kE (g0 2).len (g0 2).el))] :: .x (.ptr 0 9) :: .x (.c (ro kA (g0 9).len (g0 9).el)) :: .tup [.v (ro kF x0.1 x0.2.1),.v (vi x0.2.2)] :: .x (.c (ro kF x0.1 x0.2.1)) :: vxi x0.2.2 :: (us 11 [uu,uu,uu,uu,uu,uu,uu,uu,uu,uu,uu,uu,uu,uu,uu,uu,uu,uu,uu,uu,uu,uu,uu,uu,uu,uu,uu,uu,uu,uu,uu,uu,uu,uu,uu,uu,uu,uu,uu,uu,uu,uu,uu,uu,uu,uu,uu,uu,uu,uu,uu,uu,uu,uu,uu,uu,uu,uu,uu,uu,uu,uu,uu,uu,uu,uu,uu,uu,uu,uu,uu,uu,uu,uu,uu,uu,uu,uu,uu,uu,uu,uu,uu,uu,uu,uu,uu,uu,uu,uu,uu,uu,uu,uu,uu,uu,uu,uu,uu,uu,uu,uu,uu,uu,uu,uu,uu,uu,uu,uu,uu,uu,uu])))),[.box (pjc kR0 g0),.box [(vci i0),(vci i1)]]⟩
theorem t198v1 (x0 : Nat × FF × Int) :
  loopN (eB A9v4 (C90 u) u) N198v1 u (s198v2 i0 i1 g0 x0) k =
  L198v1 u x0.1 x0.2.1 g0 i0 i1 u 0 0 0 (fun x1 x2 => k (.exit 0) (s198v1 x1 x2 i0 i1 g0)) :=
 Eq.trans (loopN_at (by kernel_rfl)) (q198v1 ..)
theorem g198v2 :
  (kBlk 0 (kSeq (C90 u) u (9 :: (rl 35 22 [])) A9v5 (finish A9))) (.exit 0) (s198v1 i0 i1 i2 i3 g0) =
  (bif ((decide (i2 ≥ (g0 1).int)) == true) then (bif ((decide (i3 ≥ (g0 1).int)) == true) then (bif ((decide (i2 ≤ (w64 ((g0 6).int - (g0 1).int)))) == true) then (ob (F186 u (g0 0).str (g0 1).int (g0 2).len (g0 2).el (g0 3).str (g0 4).str (g0 5).int (g0 6).int (g0 7).int (g0 8).str (g0 9).len (g0 9).el) fun x0 => (bif ((i0 == 0) == false) then (bif ((i0 == 1) == true) then (bif ((decide (i3 ≤ (w64 ((g0 7).int - (g0 1).int)))) == true) then (ob (F183 u (g0 0).str (g0 1).int (g0 2).len (g0 2).el (g0 9).len (g0 9).el) fun x1 => (bif ((i1 == x1) == true) then (bif ((decide (x0 ≥ 0)) == true) then (bif ((decide (x0 ≤ 1000)) == true) then (bif ((w64 ((w64 (2 * (if (g0 6).int > 1 then (g0 6).int else 1))) * (if (g0 7).int > 1 then (g0 7).int else 1))) == 0) then none else (bif ((x0 == (w64 (Int.tdiv (w64 (i1 * 1000)) (w64 ((w64 (2 * (if (g0 6).int > 1 then (g0 6).int else 1))) * (if (g0 7).int > 1 then (g0 7).int else 1)))))) == true) then (ob (F187 u) fun x2 => (some [.v (.b x2)])) else (some [.v (.b false)]))) else (some [.v (.b false)])) else (some [.v (.b false)])) else (some [.v (.b false)]))) else (some [.v (.b false)])) else (some [.v (.b false)])) else (ob (F183 u (g0 0).str (g0 1).int (g0 2).len (g0 2).el (g0 9).len (g0 9).el) fun x3 => (bif ((i1 == x3) == true) then (bif ((decide (x0 ≥ 0)) == true) then (bif ((decide (x0 ≤ 1000)) == true) then (bif ((w64 ((w64 (2 * (if (g0 6).int > 1 then (g0 6).int else 1))) * (if (g0 7).int > 1 then (g0 7).int else 1))) == 0) then none else (bif ((x0 == (w64 (Int.tdiv (w64 (i1 * 1000)) (w64 ((w64 (2 * (if (g0 6).int > 1 then (g0 6).int else 1))) * (if (g0 7).int > 1 then (g0 7).int else 1)))))) == true) then (ob (F187 u) fun x4 => (some [.v (.b x4)])) else (some [.v (.b false)]))) else (some [.v (.b false)])) else (some [.v (.b false)])) else (some [.v (.b false)]))))) else (ob (F186 u (g0 0).str (g0 1).int (g0 2).len (g0 2).el (g0 3).str (g0 4).str (g0 5).int (g0 6).int (g0 7).int (g0 8).str (g0 9).len (g0 9).el) fun x5 => (bif ((i0 == 0) == false) then (bif ((i0 == 1) == true) then (some [.v (.b false)]) else (some [.v (.b false)])) else (ob (F183 u (g0 0).str (g0 1).int (g0 2).len (g0 2).el (g0 9).len (g0 9).el) fun x6 => (bif ((i1 == x6) == true) then (bif ((decide (x5 ≥ 0)) == true) then (bif ((decide (x5 ≤ 1000)) == true) then (bif ((w64 ((w64 (2 * (if (g0 6).int > 1 then (g0 6).int else 1))) * (if (g0 7).int > 1 then (g0 7).int else 1))) == 0) then none else (bif ((x5 == (w64 (Int.tdiv (w64 (i1 * 1000)) (w64 ((w64 (2 * (if (g0 6).int > 1 then (g0 6).int else 1))) * (if (g0 7).int > 1 then (g0 7).int else 1)))))) == true) then (ob (F187 u) fun x7 => (some [.v (.b x7)])) else (some [.v (.b false)]))) else (some [.v (.b false)])) else (some [.v (.b false)])) else (some [.v (.b false)])))))) else (ob (F186 u (g0 0).str (g0 1).int (g0 2).len (g0 2).el (g0 3).str (g0 4).str (g0 5).int (g0 6).int (g0 7).int (g0 8).str (g0 9).len (g0 9).el) fun x8 => (bif ((i0 == 0) == false) then (bif ((i0 == 1) == true) then (some [.v (.b false)]) else (some [.v (.b false)])) else (ob (F183 u (g0 0).str (g0 1).int (g0 2).len (g0 2).el (g0 9).len (g0 9).el) fun x9 => (bif ((i1 == x9) == true) then (bif ((decide (x8 ≥ 0)) == true) then (bif ((decide (x8 ≤ 1000)) == true) then (bif ((w64 ((w64 (2 * (if (g0 6).int > 1 then (g0 6).int else 1))) * (if (g0 7).int > 1 then (g0 7).int else 1))) == 0) then none else (bif ((x8 == (w64 (Int.tdiv (w64 (i1 * 1000)) (w64 ((w64 (2 * (if (g0 6).int > 1 then (g0 6).int else 1))) * (if (g0 7).int > 1 then (g0 7).int else 1)))))) == true) then (ob (F187 u) fun xA => (some [.v (.b xA)])) else (some [.v (.b false)]))) else (some [.v (.b false)])) else (some [.v (.b false)])) else (some [.v (.b false)])))))) else (ob (F186 u (g0 0).str (g0 1).int (g0 2).len (g0 2).el (g0 3).str (g0 4).str (g0 5).int (g0 6).int (g0 7).int (g0 8).str (g0 9).len (g0 9).el) fun xB => (bif ((i0 == 0) == false) then (bif ((i0 == 1) == true) then (some [.v (.b false)]) else (some [.v (.b false)])) else (ob (F183 u (g0 0).str (g0 1).int (g0 2).len (g0 2).el (g0 9).len (g0 9).el) fun xC => (bif ((i1 == xC) == true) then (bif ((decide (xB ≥ 0)) == true) then (bif ((decide (xB ≤ 1000)) == true) then (bif ((w64 ((w64 (2 * (if (g0 6).int > 1 then (g0 6).int else 1))) * (if (g0 7).int > 1 then (g0 7).int else 1))) == 0) then none else (bif ((xB == (w64 (Int.tdiv (w64 (i1 * 1000)) (w64 ((w64 (2 * (if (g0 6).int > 1 then (g0 6).int else 1))) * (if (g0 7).int > 1 then (g0 7).int else 1)))))) == true) then (ob (F187 u) fun xD => (some [.v (.b xD)])) else (some [.v (.b false)]))) else (some [.v (.b false)])) else (some [.v (.b false)])) else (some [.v (.b false)])))))) := by kernel_rfl
theorem e198 : evalF (C90 u) u A9 [.agg (pj kR0 g0),.agg [(vi i0),(vi i1)]] = ob (F198 u g0 i0 i1) fun t => some [.v (.b t)] := Eq.trans (b := (ob (F181 u (listF (pj kR0 g0))) fun x0 => (bif (!x0) then (ob (F187 u) fun x1 => (some [.v (.b x1)])) else (ob (F175 u (g0 0).str (g0 1).int (g0 2).len (g0 2).el (g0 9).len (g0 9).el) fun x2 => (bif ((x2.2.2 != 0) == false) then (bif ((Int.ofNat x2.1) != (Int.ofNat (g0 2).len)) then (some [.v (.b false)]) else (loopN (eB A9v4 (C90 u) u) N198v1 u (s198v2 i0 i1 g0 x2) (kBlk 0 (kSeq (C90 u) u (9 :: (rl 35 22 [])) A9v5 (finish A9))))) else (some [.v (.b false)])))))) (by kernel_rfl) (by
 simp only [F198,ob_bif,ob_ob,ob_none,ob_some,nl198v1,t198v1,g198v2])
def O198 : Ora := mkO (qc (ar kR0) (q1 (ag (tc ci (t1 ci))))) (fun x => F198 u x.1 x.2.1 x.2.2) fun t => [.v (.b t)]
theorem d198 : DO (O198 u) (C90 u) 9 A9 := dO u (fun x => by exact e198 u x.2.1 x.2.2 x.1)
end Go.Eng.R13
