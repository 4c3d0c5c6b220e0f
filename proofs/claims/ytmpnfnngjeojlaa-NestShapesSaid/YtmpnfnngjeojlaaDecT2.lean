/-
 The functions of the program,run on symbols; printed by decomp.py.
-/
import Derived.Test.YtmpnfnngjeojlaaDecT1
set_option linter.all false
set_option maxRecDepth 1000000
set_option maxHeartbeats 4000000
namespace Go.Eng.R13
open Go Go.RowKit Go.Eng
variable {ρ σ : Type} (u m : Nat) (k : Ex → St → Option ρ) (ng : ρ → Option σ) (n0 n1 n2 n3 n4 n5 n6 : Nat) (f0 f1 f2 f3 f4 f5 f6 : FF) (i0 i1 i2 i3 i4 i5 i6 i7 i8 i9 iA iB iC iD iE iF iG iH iI iJ iK iL iM : Int) (b0 b1 : Bool) (w0 w1 w2 w3 w4 w5 w6 w7 w8 : ByteArray) (g0 g1 : Nat → CV)
def A36v1 : AC := (.seq (.block 3
 (.region 9 [mv 41 6,mv 42 41,og 43 (.move (tm 5)) 42 false,og 44 (.move (tm 7)) 42 false,og 45 (.indexAddr 48 47 1 (tm 43) (tm 44)) 42 false,og 46 (lo 47 45) 42 false,og 47 (.move (tm 8)) 42 false,og 48 (.indexAddr 47 41 2 (tm 46) (tm 47)) 42 false,og 49 (ln 41 2 48) 42 false,og 50 (cs 63 [49] [41]) 42 false,o1 51 (pa 42 50),o1 6 (sg 51)] 0 none)) []
 (.region 8 [mv 39 8,o1 40 (bk .add 3 39 1),o1 8 (sg 40)] 0 none))
def A36v2 : AC := (.seq (.seq (.region 7 [mv 32 8,mv 33 5,mv 34 7,o1 35 (.indexAddr 48 47 1 (tm 33) (tm 34)),o1 36 (lo 47 35),o1 37 (.len 47 false (tm 36)),o1 38 (bt .lss 3 32 37)] 0 none) []
 (.cond (tm 38)
 .skip
 (.exit 2 (0 :: 1 :: (rl 8 71 []))))) (rl 32 7 [])
 A36v1)
def A36v3 : AC := (.region 5 [mv 30 7,o1 31 (bk .add 3 30 1),o1 7 (sg 31)] 0 none)
def A36v4 : AC := (.seq (.block 1
 (.seq (.region 6 [o1 8 (sk 0)] 0 none) []
  (.block 2
  (.loop [] (0 :: 1 :: (rl 9 70 []))
   A36v2)))) (8 :: (rl 32 20 []))
 A36v3)
def A36v5 : AC := (.seq (.seq (.region 4 [mv 26 7,mv 27 5,o1 28 (.len 48 false (tm 27)),o1 29 (bt .lss 3 26 28)] 0 none) []
 (.cond (tm 29)
 .skip
 (.exit 0 (0 :: 1 :: 5 :: (rl 7 72 []))))) (rl 26 4 [])
 A36v4)
def A36v6 : AC := (.seq (.block 5
 (.region 16 [o1 66 (fa 50 9 1 1),o1 67 (lo 48 66),o1 68 (fa 50 2 1 1),o1 69 (lo 48 68),mv 70 10,o1 71 (.indexAddr 48 47 1 (tm 69) (tm 70)),o1 72 (lo 47 71),o1 73 (ln 43 5 3),o1 74 (cf 64 [72,73] [47,43]),o1 75 (.buildSlice 0 48 47 (.pr (.sl kP) .nil) 1 [vcn] [(0,(tm 74))]),o1 76 (.append 1 48 47 (.pr (.sl kP) .nil) 24 (tm 67) (tm 75)),o1 77 (fa 50 9 1 1),o0 (.store 48 1 (tm 77) (tm 76))] 2 (some [[],[0],[],[2],[],[2,3,4],(rl 2 4 []),[],(rl 2 6 []),(rl 2 7 []),(rl 0 10 []),(rl 0 11 []),(rl 0 12 [])]))) []
 (.region 15 [mv 64 10,o1 65 (bk .add 3 64 1),o1 10 (sg 65)] 0 none))
def A36v7 : AC := (.seq (.seq (.region 14 [mv 59 10,o1 60 (fa 50 2 1 1),o1 61 (lo 48 60),o1 62 (.len 48 false (tm 61)),o1 63 (bt .lss 3 59 62)] 0 none) []
 (.cond (tm 63)
 .skip
 (.exit 4 (rl 0 4 (rl 5 4 (rl 10 69 [])))))) (rl 59 5 [])
 A36v6)
def A36v8 : AC := (.seq (.region 17 [o1 78 (ln 50 2 9),o0 (.store 50 2 (tm 4) (tm 78))] 0 none) []
 (.ret (rl 0 4 (rl 5 74 []))))
def A36v9 : AC := (.seq (.region 12 [o1 54 (fa 50 2 0 0),o1 55 (lo 47 54),o1 56 (ln 43 5 3),o1 57 (cf 64 [55,56] [47,43]),o1 58 (.build 50 [vcn,vcn] [(0,1),(1,1)] 0 [(0,(tm 57))]),o1 9 (.alloc 0 50 [vcn,vcn]),o0 (.store 50 2 (tm 9) (tm 58))] 1 none) []
 (.seq (.seq (.region 13 [o1 10 (sk 0)] 0 none) []
 (.block 4
 (.loop [.cell 9 1 (.pr (.sl kP) .nil)] (0 :: 1 :: (rl 5 4 (rl 11 68 [])))
  A36v7))) (10 :: (rl 59 19 []))
 A36v8))
def A36v10 : AC := (.seq (.seq (.region 10 [mv 52 6] 0 none) []
 (.cond (tm 52)
 (.seq (.region 11 [o1 53 (.build 50 [vcn,vcn] [(0,1),(1,1)] 0 []),o0 (.store 50 2 (tm 4) (tm 53))] 0 none) []
  (.ret (rl 0 4 (rl 5 74 []))))
 .skip)) [52,53]
 A36v9)
def A36 : AF := ⟨79,[.cell 4 50 (some 2)],
 (.seq (.region 0 [o1 2 (bx 0 50 0),o1 3 (bx 1 43 1),o1 4 (.alloc 2 50 [vcn,vcn])] 3 none) []
 (.seq (.region 1 [o1 11 (ln 50 2 2),o1 12 (cf 62 [11] [50]),o1 5 (sg 12)] 0 none) []
 (.seq (.region 2 [o1 13 (fa 43 3 2 3),o1 14 (lo 3 13),o1 15 (bk .lss 3 14 0),mv 16 15,og 17 (fa 43 3 2 3) 16 false,og 18 (lo 3 17) 16 false,og 19 (bk .gtr 3 18 3) 16 false,o1 20 (pa 16 19),mv 21 20,og 22 (fa 43 3 1 1) 21 false,og 23 (ln 41 2 22) 21 false,og 24 (cs 63 [23] [41]) 21 false,o1 25 (pa 21 24),o1 6 (sg 25)] 0 none) []
 (.seq (.seq (.region 3 [o1 7 (sk 0)] 0 none) []
 (.block 0
 (.loop [] (0 :: 1 :: (rl 8 71 []))
  A36v5))) (7 :: 8 :: (rl 26 26 []))
 A36v10))))⟩
def N26v2 : St → Option St := nN 3 (0 :: 1 :: (rl 9 70 []))
def s26v0 : St := ⟨(.u :: .u :: .x (.ptr 0 0) :: .x (.ptr 1 0) :: .x (.ptr 2 0) :: .x (.c (ro (.pr (.sl kP) .nil) n0 f0)) :: vxb b0 :: vxi i0 :: vxi i1 :: (us 70 [])),[.box [(.c (ro kP n1 f1)),(.c (ro (.pr (.sl kP) .nil) n2 f2))],.box [(vcs w0),(vci i2),(vci i3),(vci i4),(vcb b1)],.box [(vcn),(vcn)]]⟩
def s26v1 : St := ⟨(.u :: .u :: .x (.ptr 0 0) :: .x (.ptr 1 0) :: .x (.ptr 2 0) :: .x (.c (ro (.pr (.sl kP) .nil) n0 f0)) :: vxb b0 :: vxi i0 :: (us 71 [])),[.box [(.c (ro kP n1 f1)),(.c (ro (.pr (.sl kP) .nil) n2 f2))],.box [(vcs w0),(vci i1),(vci i2),(vci i3),(vcb b1)],.box [(vcn),(vcn)]]⟩
def L26v2 {ρ : Type} (u : Nat) (x0 : Nat) (x1 : FF) (x2 : Int) (x3 : Nat) (x4 : FF) (x5 : Nat) (x6 : FF) (x7 : ByteArray) (x8 x9 xA : Int) (xB : Bool) : Nat → Bool → Int → (Bool → Option ρ) → Option ρ
 | 0,_,_,_ => none
 | m + 1,xC,xD,k0 =>
  (bif (inb x2 x0) then (bif (decide (xD < (Int.ofNat (x1 x2.toNat 0).len))) then (bif (xC == false) then (bif (inb x2 x0) then (bif (inb xD (x1 x2.toNat 0).len) then (ob (F53 u ((x1 x2.toNat 0).el xD.toNat 0).int ((x1 x2.toNat 0).el xD.toNat 1).int) fun xE => (L26v2 u x0 x1 x2 x3 x4 x5 x6 x7 x8 x9 xA xB m xE (w64 (xD + 1)) k0)) else none) else none) else (L26v2 u x0 x1 x2 x3 x4 x5 x6 x7 x8 x9 xA xB m true (w64 (xD + 1)) k0)) else (k0 xC)) else none)
theorem nl26v2 : ∀ (m : Nat) (x0 : Bool) (x1 : Int) (k0 : Bool → Option ρ),ob (L26v2 u n0 f0 i0 n1 f1 n2 f2 w0 i1 i2 i3 b0 m x0 x1 k0) ng = L26v2 u n0 f0 i0 n1 f1 n2 f2 w0 i1 i2 i3 b0 m x0 x1 (fun x2 => ob (k0 x2) ng)
 | 0,_,_,_ => rfl
 | m + 1,x0,x1,k0 => by
  simp only [L26v2,ob_bif,ob_ob,ob_none,nl26v2 m]
theorem r26v2 :
  loopH (eB A36v2 (C71 u) u) N26v2 (m + 1) (s26v0 n0 n1 n2 f0 f1 f2 i0 i4 i1 i2 i3 b1 b0 w0) k =
  (bif (inb i0 n0) then (bif (decide (i4 < (Int.ofNat (f0 i0.toNat 0).len))) then (bif (b1 == false) then (bif (inb i0 n0) then (bif (inb i4 (f0 i0.toNat 0).len) then (ob (F53 u ((f0 i0.toNat 0).el i4.toNat 0).int ((f0 i0.toNat 0).el i4.toNat 1).int) fun x0 => (loopH (eB A36v2 (C71 u) u) N26v2 m (s26v0 n0 n1 n2 f0 f1 f2 i0 (w64 (i4 + 1)) i1 i2 i3 x0 b0 w0) k)) else none) else none) else (loopH (eB A36v2 (C71 u) u) N26v2 m (s26v0 n0 n1 n2 f0 f1 f2 i0 (w64 (i4 + 1)) i1 i2 i3 true b0 w0) k)) else (k (.exit 2) (s26v1 n0 n1 n2 f0 f1 f2 i0 i1 i2 i3 b1 b0 w0))) else none) := by kernel_rfl
theorem q26v2 : ∀ (m : Nat) (x0 : Bool) (x1 : Int),
  loopH (eB A36v2 (C71 u) u) N26v2 m (s26v0 n0 n1 n2 f0 f1 f2 i0 x1 i1 i2 i3 x0 b0 w0) k = L26v2 u n0 f0 i0 n1 f1 n2 f2 w0 i1 i2 i3 b0 m x0 x1 (fun x2 => k (.exit 2) (s26v1 n0 n1 n2 f0 f1 f2 i0 i1 i2 i3 x2 b0 w0))
 | 0,_,_ => rfl
 | m + 1,x0,x1 => by
  rw [r26v2]
  simp only [L26v2,q26v2 m]
def N26v3 : St → Option St := nN 3 (0 :: 1 :: (rl 8 71 []))
def s26v2 : St := ⟨(.u :: .u :: .x (.ptr 0 0) :: .x (.ptr 1 0) :: .x (.ptr 2 0) :: .x (.c (ro (.pr (.sl kP) .nil) n0 f0)) :: vxb b0 :: vxi i0 :: (us 71 [])),[.box [(.c (ro kP n1 f1)),(.c (ro (.pr (.sl kP) .nil) n2 f2))],.box [(vcs w0),(vci i1),(vci i2),(vci i3),(vcb b1)],.box [(vcn),(vcn)]]⟩
def s26v3 : St := ⟨(.u :: .u :: .x (.ptr 0 0) :: .x (.ptr 1 0) :: .x (.ptr 2 0) :: .u :: vxb b0 :: (us 72 [])),[.box [(.c (ro kP n0 f0)),(.c (ro (.pr (.sl kP) .nil) n1 f1))],.box [(vcs w0),(vci i0),(vci i1),(vci i2),(vcb b1)],.box [(vcn),(vcn)]]⟩
def L26v3 {ρ : Type} (u : Nat) (x0 : Nat) (x1 : FF) (x2 : Nat) (x3 : FF) (x4 : Nat) (x5 : FF) (x6 : ByteArray) (x7 x8 x9 : Int) (xA : Bool) : Nat → Bool → Int → (Bool → Option ρ) → Option ρ
 | 0,_,_,_ => none
 | m + 1,xB,xC,k0 =>
  (bif (decide (xC < (Int.ofNat x0))) then (L26v2 u x0 x1 xC x2 x3 x4 x5 x6 x7 x8 x9 xA u xB 0
  (fun xD => (L26v3 u x0 x1 x2 x3 x4 x5 x6 x7 x8 x9 xA m xD (w64 (xC + 1)) k0))) else (k0 xB))
theorem nl26v3 : ∀ (m : Nat) (x0 : Bool) (x1 : Int) (k0 : Bool → Option ρ),ob (L26v3 u n0 f0 n1 f1 n2 f2 w0 i0 i1 i2 b0 m x0 x1 k0) ng = L26v3 u n0 f0 n1 f1 n2 f2 w0 i0 i1 i2 b0 m x0 x1 (fun x2 => ob (k0 x2) ng)
 | 0,_,_,_ => rfl
 | m + 1,x0,x1,k0 => by
  simp only [L26v3,ob_bif,ob_ob,ob_none,nl26v3 m,nl26v2]
def s26v4 : St := ⟨(.u :: .u :: .x (.ptr 0 0) :: .x (.ptr 1 0) :: .x (.ptr 2 0) :: .x (.c (ro (.pr (.sl kP) .nil) n0 f0)) :: vxb b0 :: vxi i0 :: vxi 0 :: (us 70 [])),[.box [(.c (ro kP n1 f1)),(.c (ro (.pr (.sl kP) .nil) n2 f2))],.box [(vcs w0),(vci i1),(vci i2),(vci i3),(vcb b1)],.box [(vcn),(vcn)]]⟩
theorem r26v3 :
  loopH (eB A36v5 (C71 u) u) N26v3 (m + 1) (s26v2 n0 n1 n2 f0 f1 f2 i3 i0 i1 i2 b1 b0 w0) k =
  (bif (decide (i3 < (Int.ofNat n0))) then (loopN (eB A36v2 (C71 u) u) N26v2 u (s26v4 n0 n1 n2 f0 f1 f2 i3 i0 i1 i2 b1 b0 w0) (kBlk 2 (kBlk 1 (kSeq (C71 u) u (8 :: (rl 32 20 [])) A36v3 (kLoop (eB A36v5 (C71 u) u) N26v3 m k))))) else (k (.exit 0) (s26v3 n1 n2 f1 f2 i0 i1 i2 b1 b0 w0))) := by kernel_rfl
theorem t26v1 :
  loopN (eB A36v2 (C71 u) u) N26v2 u (s26v4 n0 n1 n2 f0 f1 f2 i0 i1 i2 i3 b0 b1 w0) k =
  L26v2 u n0 f0 i0 n1 f1 n2 f2 w0 i1 i2 i3 b1 u b0 0 (fun x0 => k (.exit 2) (s26v1 n0 n1 n2 f0 f1 f2 i0 i1 i2 i3 x0 b1 w0)) :=
 Eq.trans (loopN_at (by kernel_rfl)) (q26v2 ..)
theorem g26v2 :
  (kBlk 2 (kBlk 1 (kSeq (C71 u) u (8 :: (rl 32 20 [])) A36v3 (kLoop (eB A36v5 (C71 u) u) N26v3 m k)))) (.exit 2) (s26v1 n0 n1 n2 f0 f1 f2 i0 i1 i2 i3 b0 b1 w0) =
  (loopH (eB A36v5 (C71 u) u) N26v3 m (s26v2 n0 n1 n2 f0 f1 f2 (w64 (i0 + 1)) i1 i2 i3 b0 b1 w0) k) := by kernel_rfl
theorem q26v3 : ∀ (m : Nat) (x0 : Bool) (x1 : Int),
  loopH (eB A36v5 (C71 u) u) N26v3 m (s26v2 n0 n1 n2 f0 f1 f2 x1 i0 i1 i2 x0 b0 w0) k = L26v3 u n0 f0 n1 f1 n2 f2 w0 i0 i1 i2 b0 m x0 x1 (fun x2 => k (.exit 0) (s26v3 n1 n2 f1 f2 i0 i1 i2 x2 b0 w0))
 | 0,_,_ => rfl
 | m + 1,x0,x1 => by
  rw [r26v3]
  simp only [L26v3,q26v3 m,t26v1,g26v2]
def N26v4 : St → Option St := nN 5 (0 :: 1 :: (rl 5 4 (rl 11 68 [])))
def s26v5 : St := ⟨(.u :: .u :: .x (.ptr 0 0) :: .x (.ptr 1 0) :: .x (.ptr 2 0) :: (us 4 (.x (.ptr 3 0) :: vxi i0 :: (us 68 [])))),[.box [(.c (ro kP n0 f0)),(.c (ro (.pr (.sl kP) .nil) n1 f1))],.box [(vcs w0),(vci i1),(vci i2),(vci i3),(vcb b0)],.box [(vcn),(vcn)],.box [(.c (ro kP n2 f2)),(.own 4 0 n3)],.arr (.pr (.sl kP) .nil) n3 f3]⟩
def s26v6 : St := ⟨(us 4 (.x (.ptr 2 0) :: (us 4 (.x (.ptr 3 0) :: (us 69 []))))),[.box [(.c (ro kP n0 f0)),(.c (ro (.pr (.sl kP) .nil) n1 f1))],.box [(vcs w0),(vci i0),(vci i1),(vci i2),(vcb b0)],.box [(vcn),(vcn)],.box [(.c (ro kP n2 f2)),(.own 4 0 n3)],.arr (.pr (.sl kP) .nil) n3 f3]⟩
def L26v4 {ρ : Type} (u : Nat) (x0 : Nat) (x1 : FF) (x2 : Nat) (x3 : FF) (x4 : ByteArray) (x5 x6 x7 : Int) (x8 : Bool) (x9 : Nat) (xA : FF) : Nat → Int → Nat → FF → (Nat → FF → Option ρ) → Option ρ
 | 0,_,_,_,_ => none
 | m + 1,xB,xC,xD,k0 =>
  (bif (decide (xB < (Int.ofNat x2))) then (bif (inb xB x2) then (ob (F54 u (x3 xB.toNat 0).len (x3 xB.toNat 0).el x4 x5 x6 x7 x8) fun xE => (bif (Nat.ble (xC + 1) 1073741824) then (L26v4 u x0 x1 x2 x3 x4 x5 x6 x7 x8 x9 xA m (w64 (xB + 1)) (xC + 1) (joinF xC xD (rowsF 1 [(.ro false (.pr (.int .i64) (.pr (.int .i64) .nil)) xE.1 xE.2)])) k0) else none)) else none) else (k0 xC xD))
theorem nl26v4 : ∀ (m : Nat) (x0 : Int) (x1 : Nat) (x2 : FF) (k0 : Nat → FF → Option ρ),ob (L26v4 u n0 f0 n1 f1 w0 i0 i1 i2 b0 n2 f2 m x0 x1 x2 k0) ng = L26v4 u n0 f0 n1 f1 w0 i0 i1 i2 b0 n2 f2 m x0 x1 x2 (fun x3 x4 => ob (k0 x3 x4) ng)
 | 0,_,_,_,_ => rfl
 | m + 1,x0,x1,x2,k0 => by
  simp only [L26v4,ob_bif,ob_ob,ob_none,nl26v4 m]
theorem r26v4 :
  loopH (eB A36v7 (C71 u) u) N26v4 (m + 1) (s26v5 n0 n1 n2 n3 f0 f1 f2 f3 i3 i0 i1 i2 b0 w0) k =
  (bif (decide (i3 < (Int.ofNat n1))) then (bif (inb i3 n1) then (ob (F54 u (f1 i3.toNat 0).len (f1 i3.toNat 0).el w0 i0 i1 i2 b0) fun x0 => (bif (Nat.ble (n3 + 1) 1073741824) then (loopH (eB A36v7 (C71 u) u) N26v4 m (s26v5 n0 n1 n2 (n3 + 1) f0 f1 f2 (joinF n3 f3 (rowsF 1 [(ro kP x0.1 x0.2)])) (w64 (i3 + 1)) i0 i1 i2 b0 w0) k) else none)) else none) else (k (.exit 4) (s26v6 n0 n1 n2 n3 f0 f1 f2 f3 i0 i1 i2 b0 w0))) := by kernel_rfl
theorem q26v4 : ∀ (m : Nat) (x0 : Int) (x1 : Nat) (x2 : FF),
  loopH (eB A36v7 (C71 u) u) N26v4 m (s26v5 n0 n1 n2 x1 f0 f1 f2 x2 x0 i0 i1 i2 b0 w0) k = L26v4 u n0 f0 n1 f1 w0 i0 i1 i2 b0 n2 f2 m x0 x1 x2 (fun x3 x4 => k (.exit 4) (s26v6 n0 n1 n2 x3 f0 f1 f2 x4 i0 i1 i2 b0 w0))
 | 0,_,_,_ => rfl
 | m + 1,x0,x1,x2 => by
  rw [r26v4]
  simp only [L26v4,q26v4 m]
def N26v6 : St → Option St := nN 3 (0 :: 1 :: (rl 9 70 []))
def s26v7 : St := ⟨(.u :: .u :: .x (.ptr 0 0) :: .x (.ptr 1 0) :: .x (.ptr 2 0) :: .x (.c (ro (.pr (.sl kP) .nil) n0 f0)) :: vxb true :: vxi i0 :: vxi i1 :: (us 70 [])),[.box [(.c (ro kP n1 f1)),(.c (ro (.pr (.sl kP) .nil) n2 f2))],.box [(vcs w0),(vci i2),(vci i3),(vci i4),(vcb b0)],.box [(vcn),(vcn)]]⟩
def s26v8 : St := ⟨(.u :: .u :: .x (.ptr 0 0) :: .x (.ptr 1 0) :: .x (.ptr 2 0) :: .x (.c (ro (.pr (.sl kP) .nil) n0 f0)) :: vxb true :: vxi i0 :: (us 71 [])),[.box [(.c (ro kP n1 f1)),(.c (ro (.pr (.sl kP) .nil) n2 f2))],.box [(vcs w0),(vci i1),(vci i2),(vci i3),(vcb b0)],.box [(vcn),(vcn)]]⟩
def L26v6 {ρ : Type} (u : Nat) (x0 : Nat) (x1 : FF) (x2 : Int) (x3 : Nat) (x4 : FF) (x5 : Nat) (x6 : FF) (x7 : ByteArray) (x8 x9 xA : Int) (xB : Bool) : Nat → Int → (Option ρ) → Option ρ
 | 0,_,_ => none
 | m + 1,xC,k0 =>
  (bif (inb x2 x0) then (bif (decide (xC < (Int.ofNat (x1 x2.toNat 0).len))) then (L26v6 u x0 x1 x2 x3 x4 x5 x6 x7 x8 x9 xA xB m (w64 (xC + 1)) k0) else k0) else none)
theorem nl26v6 : ∀ (m : Nat) (x0 : Int) (k0 : Option ρ),ob (L26v6 u n0 f0 i0 n1 f1 n2 f2 w0 i1 i2 i3 b0 m x0 k0) ng = L26v6 u n0 f0 i0 n1 f1 n2 f2 w0 i1 i2 i3 b0 m x0 (ob k0 ng)
 | 0,_,_ => rfl
 | m + 1,x0,k0 => by
  simp only [L26v6,ob_bif,ob_ob,ob_none,nl26v6 m]
theorem r26v6 :
  loopH (eB A36v2 (C71 u) u) N26v6 (m + 1) (s26v7 n0 n1 n2 f0 f1 f2 i0 i4 i1 i2 i3 b0 w0) k =
  (bif (inb i0 n0) then (bif (decide (i4 < (Int.ofNat (f0 i0.toNat 0).len))) then (loopH (eB A36v2 (C71 u) u) N26v6 m (s26v7 n0 n1 n2 f0 f1 f2 i0 (w64 (i4 + 1)) i1 i2 i3 b0 w0) k) else (k (.exit 2) (s26v8 n0 n1 n2 f0 f1 f2 i0 i1 i2 i3 b0 w0))) else none) := by kernel_rfl
theorem q26v6 : ∀ (m : Nat) (x0 : Int),
  loopH (eB A36v2 (C71 u) u) N26v6 m (s26v7 n0 n1 n2 f0 f1 f2 i0 x0 i1 i2 i3 b0 w0) k = L26v6 u n0 f0 i0 n1 f1 n2 f2 w0 i1 i2 i3 b0 m x0 (k (.exit 2) (s26v8 n0 n1 n2 f0 f1 f2 i0 i1 i2 i3 b0 w0))
 | 0,_ => rfl
 | m + 1,x0 => by
  rw [r26v6]
  simp only [L26v6,q26v6 m]
def N26v7 : St → Option St := nN 3 (0 :: 1 :: (rl 8 71 []))
def s26v9 : St := ⟨(.u :: .u :: .x (.ptr 0 0) :: .x (.ptr 1 0) :: .x (.ptr 2 0) :: .x (.c (ro (.pr (.sl kP) .nil) n0 f0)) :: vxb true :: vxi i0 :: (us 71 [])),[.box [(.c (ro kP n1 f1)),(.c (ro (.pr (.sl kP) .nil) n2 f2))],.box [(vcs w0),(vci i1),(vci i2),(vci i3),(vcb b0)],.box [(vcn),(vcn)]]⟩
def s26v10 : St := ⟨(.u :: .u :: .x (.ptr 0 0) :: .x (.ptr 1 0) :: .x (.ptr 2 0) :: .u :: vxb true :: (us 72 [])),[.box [(.c (ro kP n0 f0)),(.c (ro (.pr (.sl kP) .nil) n1 f1))],.box [(vcs w0),(vci i0),(vci i1),(vci i2),(vcb b0)],.box [(vcn),(vcn)]]⟩
def L26v7 {ρ : Type} (u : Nat) (x0 : Nat) (x1 : FF) (x2 : Nat) (x3 : FF) (x4 : Nat) (x5 : FF) (x6 : ByteArray) (x7 x8 x9 : Int) (xA : Bool) : Nat → Int → (Option ρ) → Option ρ
 | 0,_,_ => none
 | m + 1,xB,k0 =>
  (bif (decide (xB < (Int.ofNat x0))) then (L26v6 u x0 x1 xB x2 x3 x4 x5 x6 x7 x8 x9 xA u 0
  (L26v7 u x0 x1 x2 x3 x4 x5 x6 x7 x8 x9 xA m (w64 (xB + 1)) k0)) else k0)
theorem nl26v7 : ∀ (m : Nat) (x0 : Int) (k0 : Option ρ),ob (L26v7 u n0 f0 n1 f1 n2 f2 w0 i0 i1 i2 b0 m x0 k0) ng = L26v7 u n0 f0 n1 f1 n2 f2 w0 i0 i1 i2 b0 m x0 (ob k0 ng)
 | 0,_,_ => rfl
 | m + 1,x0,k0 => by
  simp only [L26v7,ob_bif,ob_ob,ob_none,nl26v7 m,nl26v6]
def s26v11 : St := ⟨(.u :: .u :: .x (.ptr 0 0) :: .x (.ptr 1 0) :: .x (.ptr 2 0) :: .x (.c (ro (.pr (.sl kP) .nil) n0 f0)) :: vxb true :: vxi i0 :: vxi 0 :: (us 70 [])),[.box [(.c (ro kP n1 f1)),(.c (ro (.pr (.sl kP) .nil) n2 f2))],.box [(vcs w0),(vci i1),(vci i2),(vci i3),(vcb b0)],.box [(vcn),(vcn)]]⟩
theorem r26v7 :
  loopH (eB A36v5 (C71 u) u) N26v7 (m + 1) (s26v9 n0 n1 n2 f0 f1 f2 i3 i0 i1 i2 b0 w0) k =
  (bif (decide (i3 < (Int.ofNat n0))) then (loopN (eB A36v2 (C71 u) u) N26v6 u (s26v11 n0 n1 n2 f0 f1 f2 i3 i0 i1 i2 b0 w0) (kBlk 2 (kBlk 1 (kSeq (C71 u) u (8 :: (rl 32 20 [])) A36v3 (kLoop (eB A36v5 (C71 u) u) N26v7 m k))))) else (k (.exit 0) (s26v10 n1 n2 f1 f2 i0 i1 i2 b0 w0))) := by kernel_rfl
theorem t26v3 :
  loopN (eB A36v2 (C71 u) u) N26v6 u (s26v11 n0 n1 n2 f0 f1 f2 i0 i1 i2 i3 b0 w0) k =
  L26v6 u n0 f0 i0 n1 f1 n2 f2 w0 i1 i2 i3 b0 u 0 (k (.exit 2) (s26v8 n0 n1 n2 f0 f1 f2 i0 i1 i2 i3 b0 w0)) :=
 Eq.trans (loopN_at (by kernel_rfl)) (q26v6 ..)
theorem g26v4 :
  (kBlk 2 (kBlk 1 (kSeq (C71 u) u (8 :: (rl 32 20 [])) A36v3 (kLoop (eB A36v5 (C71 u) u) N26v7 m k)))) (.exit 2) (s26v8 n0 n1 n2 f0 f1 f2 i0 i1 i2 i3 b0 w0) =
  (loopH (eB A36v5 (C71 u) u) N26v7 m (s26v9 n0 n1 n2 f0 f1 f2 (w64 (i0 + 1)) i1 i2 i3 b0 w0) k) := by kernel_rfl
theorem q26v7 : ∀ (m : Nat) (x0 : Int),
  loopH (eB A36v5 (C71 u) u) N26v7 m (s26v9 n0 n1 n2 f0 f1 f2 x0 i0 i1 i2 b0 w0) k = L26v7 u n0 f0 n1 f1 n2 f2 w0 i0 i1 i2 b0 m x0 (k (.exit 0) (s26v10 n1 n2 f1 f2 i0 i1 i2 b0 w0))
 | 0,_ => rfl
 | m + 1,x0 => by
  rw [r26v7]
  simp only [L26v7,q26v7 m,t26v3,g26v4]
def FT26 (x0 : Nat) (x1 : FF) (x2 : Nat) (x3 : FF) (x4 : ByteArray) (x5 x6 x7 : Int) (x8 : Bool) : Option (Bool × Nat × FF × Nat × FF) :=
 (ob (F44 u x0 x1 x2 x3) fun x9 => (bif ((decide (x7 < 0)) == false) then (bif ((decide (x7 > 3)) == false) then (ob (F53 u x5 x6) fun xA => (L26v3 u x9.1 x9.2 x0 x1 x2 x3 x4 x5 x6 x7 x8 u xA 0
  (fun xB => (bif xB then (some (true,0,(fun _ _ => .any),0,(fun _ _ => .any))) else (ob (F54 u x0 x1 x4 x5 x6 x7 x8) fun xC => (L26v4 u x0 x1 x2 x3 x4 x5 x6 x7 x8 xC.1 xC.2 u 0 0 (fun _ _ => .any)
  (fun xD xE => (some (false,xC.1,xC.2,xD,xE))))))))) else (L26v7 u x9.1 x9.2 x0 x1 x2 x3 x4 x5 x6 x7 x8 u 0
  (some (true,0,(fun _ _ => .any),0,(fun _ _ => .any))))) else (L26v7 u x9.1 x9.2 x0 x1 x2 x3 x4 x5 x6 x7 x8 u 0
  (some (true,0,(fun _ _ => .any),0,(fun _ _ => .any))))))
def s26v12 (x0 : Nat × FF) : St := ⟨[.agg [(.c (ro kP n0 f0)),(.c (ro (.pr (.sl kP) .nil) n1 f1))],.agg [(vcs w0),(vci i0),(vci i1),(vci i2),(vcb b0)],.x (.ptr 0 0),.x (.ptr 1 0),.x (.ptr 2 0),.x (.c (ro (.pr (.sl kP) .nil) x0.1 x0.2)),vxb b1,vxi 0,uu,uu,uu,.agg [(.c (ro kP n0 f0)),(.c (ro (.pr (.sl kP) .nil) n1 f1))],.x (.c (ro (.pr (.sl kP) .nil) x0.1 x0.2)),.x (.ptr 1 3),vxi i2,vxb (decide (i2 < 0)),vxb false,.x (.ptr 1 3),vxi i2,vxb (decide (i2 > 3)),vxb (decide (i2 > 3)),vxb false,.x (.ptr 1 1),.agg [(vci i0),(vci i1)],vxb b1,vxb b1,uu,uu,uu,uu,uu,uu,uu,uu,uu,uu,uu,uu,uu,uu,uu,uu,uu,uu,uu,uu,uu,uu,uu,uu,uu,uu,uu,uu,uu,uu,uu,uu,uu,uu,uu,uu,uu,uu,uu,uu,uu,uu,uu,uu,uu,uu,uu,uu,uu,uu,uu,uu,uu],[.box [(.c (ro kP n0 f0)),(.c (ro (.pr (.sl kP) .nil) n1 f1))],.box [(vcs w0),(vci i0),(vci i1),(vci i2),(vcb b0)],.box [(vcn),(vcn)]]⟩
def s26v13 (x0 : Nat × FF) : St := ⟨[.agg [(.c (ro kP n0 f0)),(.c (ro (.pr (.sl kP) .nil) n1 f1))],.agg [(vcs w0),(vci i0),(vci i1),(vci i2),(vcb b0)],.x (.ptr 0 0),.x (.ptr 1 0),.x (.ptr 2 0),.x (.c (ro (.pr (.sl kP) .nil) x0.1 x0.2)),vxb true,vxi 0,uu,uu,uu,.agg [(.c (ro kP n0 f0)),(.c (ro (.pr (.sl kP) .nil) n1 f1))],.x (.c (ro (.pr (.sl kP) .nil) x0.1 x0.2)),.x (.ptr 1 3),vxi i2,vxb (decide (i2 < 0)),vxb false,.x (.ptr 1 3),vxi i2,vxb (decide (i2 > 3)),vxb (decide (i2 > 3)),vxb true,uu,uu,uu,vxb true,uu,uu,uu,uu,uu,uu,uu,uu,uu,uu,uu,uu,uu,uu,uu,uu,uu,uu,uu,uu,uu,uu,uu,uu,uu,uu,uu,uu,uu,uu,uu,uu,uu,uu,uu,uu,uu,uu,uu,uu,uu,uu,uu,uu,uu,uu,uu,uu,uu,uu,uu,uu,uu],[.box [(.c (ro kP n0 f0)),(.c (ro (.pr (.sl kP) .nil) n1 f1))],.box [(vcs w0),(vci i0),(vci i1),(vci i2),(vcb b0)],.box [(vcn),(vcn)]]⟩
def s26v14 (x0 : Nat × FF) : St := ⟨[.agg [(.c (ro kP n0 f0)),(.c (ro (.pr (.sl kP) .nil) n1 f1))],.agg [(vcs w0),(vci i0),(vci i1),(vci i2),(vcb b0)],.x (.ptr 0 0),.x (.ptr 1 0),.x (.ptr 2 0),.x (.c (ro (.pr (.sl kP) .nil) x0.1 x0.2)),vxb true,vxi 0,uu,uu,uu,.agg [(.c (ro kP n0 f0)),(.c (ro (.pr (.sl kP) .nil) n1 f1))],.x (.c (ro (.pr (.sl kP) .nil) x0.1 x0.2)),.x (.ptr 1 3),vxi i2,vxb (decide (i2 < 0)),vxb true,uu,uu,uu,vxb true,vxb true,uu,uu,uu,vxb true,uu,uu,uu,uu,uu,uu,uu,uu,uu,uu,uu,uu,uu,uu,uu,uu,uu,uu,uu,uu,uu,uu,uu,uu,uu,uu,uu,uu,uu,uu,uu,uu,uu,uu,uu,uu,uu,uu,uu,uu,uu,uu,uu,uu,uu,uu,uu,uu,uu,uu,uu,uu,uu],[.box [(.c (ro kP n0 f0)),(.c (ro (.pr (.sl kP) .nil) n1 f1))],.box [(vcs w0),(vci i0),(vci i1),(vci i2),(vcb b0)],.box [(vcn),(vcn)]]⟩
theorem t26v5 (x0 : Nat × FF) :
  loopN (eB A36v5 (C71 u) u) N26v3 u (s26v12 n0 n1 f0 f1 i0 i1 i2 b0 b1 w0 x0) k =
  L26v3 u x0.1 x0.2 n0 f0 n1 f1 w0 i0 i1 i2 b0 u b1 0 (fun x1 => k (.exit 0) (s26v3 n0 n1 f0 f1 i0 i1 i2 x1 b0 w0)) :=
 Eq.trans (loopN_at (by kernel_rfl)) (q26v3 ..)
def s26v15 (x0 : Nat × FF) : St := ⟨(.u :: .u :: .x (.ptr 0 0) :: .x (.ptr 1 0) :: .x (.ptr 2 0) :: .u :: vxb b0 :: .u :: .u :: .x (.ptr 3 0) :: vxi 0 :: (us 43 (.x (.ptr 0 0) :: .x (.c (ro kP n0 f0)) :: .agg [(vcs w0),(vci i0),(vci i1),(vci i2),(vcb b1)] :: .x (.c (ro kP x0.1 x0.2)) :: .agg [(.c (ro kP x0.1 x0.2)),(vcn)] :: (us 20 [])))),[.box [(.c (ro kP n0 f0)),(.c (ro (.pr (.sl kP) .nil) n1 f1))],.box [(vcs w0),(vci i0),(vci i1),(vci i2),(vcb b1)],.box [(vcn),(vcn)],.box [(.c (ro kP x0.1 x0.2)),(.own 4 0 0)],.arr (.pr (.sl kP) .nil) 0 nilF]⟩
theorem g26v6 :
  (kBlk 0 (kSeq (C71 u) u (7 :: 8 :: (rl 26 26 [])) A36v10 (finish A36))) (.exit 0) (s26v3 n0 n1 f0 f1 i0 i1 i2 b0 b1 w0) =
  (bif b0 then (some [.agg [(.ro true .nil 0 nilF),(.ro true .nil 0 nilF)]]) else (ob (F54 u n0 f0 w0 i0 i1 i2 b1) fun x0 => (loopN (eB A36v7 (C71 u) u) N26v4 u (s26v15 n0 n1 f0 f1 i0 i1 i2 b0 b1 w0 x0) (kBlk 4 (kSeq (C71 u) u (10 :: (rl 59 19 [])) A36v8 (finish A36)))))) := by kernel_rfl
theorem t26v7 (x0 : Nat × FF) :
  loopN (eB A36v7 (C71 u) u) N26v4 u (s26v15 n0 n1 f0 f1 i0 i1 i2 b0 b1 w0 x0) k =
  L26v4 u n0 f0 n1 f1 w0 i0 i1 i2 b1 x0.1 x0.2 u 0 0 nilF (fun x1 x2 => k (.exit 4) (s26v6 n0 n1 x0.1 x1 f0 f1 x0.2 x2 i0 i1 i2 b1 w0)) :=
 Eq.trans (loopN_at (by kernel_rfl)) (q26v4 ..)
theorem g26v8 (x0 : Nat × FF) :
  (kBlk 4 (kSeq (C71 u) u (10 :: (rl 59 19 [])) A36v8 (finish A36))) (.exit 4) (s26v6 n0 n1 x0.1 n2 f0 f1 x0.2 f2 i0 i1 i2 b0 w0) =
  (some [.agg [(ro kP x0.1 x0.2),(ro (.pr (.sl kP) .nil) n2 f2)]]) := by kernel_rfl
theorem t26v9 (x0 : Nat × FF) :
  loopN (eB A36v5 (C71 u) u) N26v7 u (s26v13 n0 n1 f0 f1 i0 i1 i2 b0 w0 x0) k =
  L26v7 u x0.1 x0.2 n0 f0 n1 f1 w0 i0 i1 i2 b0 u 0 (k (.exit 0) (s26v10 n0 n1 f0 f1 i0 i1 i2 b0 w0)) :=
 Eq.trans (loopN_at (by kernel_rfl)) (q26v7 ..)
theorem g26v10 :
  (kBlk 0 (kSeq (C71 u) u (7 :: 8 :: (rl 26 26 [])) A36v10 (finish A36))) (.exit 0) (s26v10 n0 n1 f0 f1 i0 i1 i2 b0 w0) =
  (some [.agg [(.ro true .nil 0 nilF),(.ro true .nil 0 nilF)]]) := by kernel_rfl
theorem t26v11 (x0 : Nat × FF) :
  loopN (eB A36v5 (C71 u) u) N26v7 u (s26v14 n0 n1 f0 f1 i0 i1 i2 b0 w0 x0) k =
  L26v7 u x0.1 x0.2 n0 f0 n1 f1 w0 i0 i1 i2 b0 u 0 (k (.exit 0) (s26v10 n0 n1 f0 f1 i0 i1 i2 b0 w0)) :=
 Eq.trans (loopN_at (by kernel_rfl)) (q26v7 ..)
theorem g26v12 :
  (kBlk 0 (kSeq (C71 u) u (7 :: 8 :: (rl 26 26 [])) A36v10 (finish A36))) (.exit 0) (s26v10 n0 n1 f0 f1 i0 i1 i2 b0 w0) =
  (some [.agg [(.ro true .nil 0 nilF),(.ro true .nil 0 nilF)]]) := by kernel_rfl
theorem e26 : evalF (C71 u) u A36 [.agg [(ro kP n0 f0),(ro (.pr (.sl kP) .nil) n1 f1)],.agg [(.s w0),(vi i0),(vi i1),(vi i2),(.b b0)]] = ob (FT26 u n0 f0 n1 f1 w0 i0 i1 i2 b0) fun t => some (bif t.1 then [.agg [(.ro true .nil 0 nilF),(.ro true .nil 0 nilF)]] else [.agg [(ro kP t.2.1 t.2.2.1),(ro (.pr (.sl kP) .nil) t.2.2.2.1 t.2.2.2.2)]]) := Eq.trans (b := (ob (F44 u n0 f0 n1 f1) fun x0 => (bif ((decide (i2 < 0)) == false) then (bif ((decide (i2 > 3)) == false) then (ob (F53 u i0 i1) fun x1 => (loopN (eB A36v5 (C71 u) u) N26v3 u (s26v12 n0 n1 f0 f1 i0 i1 i2 b0 x1 w0 x0) (kBlk 0 (kSeq (C71 u) u (7 :: 8 :: (rl 26 26 [])) A36v10 (finish A36))))) else (loopN (eB A36v5 (C71 u) u) N26v7 u (s26v13 n0 n1 f0 f1 i0 i1 i2 b0 w0 x0) (kBlk 0 (kSeq (C71 u) u (7 :: 8 :: (rl 26 26 [])) A36v10 (finish A36))))) else (loopN (eB A36v5 (C71 u) u) N26v7 u (s26v14 n0 n1 f0 f1 i0 i1 i2 b0 w0 x0) (kBlk 0 (kSeq (C71 u) u (7 :: 8 :: (rl 26 26 [])) A36v10 (finish A36))))))) (by kernel_rfl) (by
 simp only [FT26,ob_bif,ob_ob,ob_none,ob_some,nl26v3,nl26v4,nl26v7,t26v5,g26v6,t26v7,g26v8,t26v9,g26v10,t26v11,g26v12,cond_true,cond_false])
def F26 (x0 : Nat) (x1 : FF) (x2 : Nat) (x3 : FF) (x4 : ByteArray) (x5 x6 x7 : Int) (x8 : Bool) : Option (Nat × FF × Nat × FF) := ob (FT26 u x0 x1 x2 x3 x4 x5 x6 x7 x8) fun t => some (bif t.1 then (0,(fun _ _ => .any),0,(fun _ _ => .any)) else (t.2.1,t.2.2.1,t.2.2.2.1,t.2.2.2.2))
def O26 : Ora := mkO (qc (ag (tc (cL kP) (t1 (cL (.pr (.sl kP) .nil))))) (q1 (ag (tc cS (tc ci (tc ci (tc ci (t1 cB)))))))) (fun x => F26 u x.1.1.1 x.1.1.2 x.1.2.1 x.1.2.2 x.2.1 x.2.2.1 x.2.2.2.1 x.2.2.2.2.1 x.2.2.2.2.2) fun t => [.agg [(ro kP t.1 t.2.1),(ro (.pr (.sl kP) .nil) t.2.2.1 t.2.2.2)]]
theorem d26 : DO (O26 u) (C71 u) 36 A36 := dW u (fun x => by exact e26 u x.1.1.1 x.1.2.1 x.1.1.2 x.1.2.2 x.2.2.1 x.2.2.2.1 x.2.2.2.2.1 x.2.2.2.2.2 x.2.1) (fun _ => rfl) fun t => by
 obtain ⟨b,t⟩ := t
 cases b with
 | true => exact (.cons (WkA.agg (.cons (Wk.ro (by rfl)) (.cons (Wk.ro (by rfl)) .nil))) .nil)
 | false =>
  exact (.cons (WkA.agg (.cons (Wk.refl _) (.cons (Wk.refl _) .nil))) .nil)
def C72 : Oracle := (C71 u).add 36 (fun _ => true) (O26 u)
def A34 : AF := ⟨17,[.cell 4 56 (some 18)],
 (.seq (.region 0 [o1 4 (.alloc 0 56 [vcs ByteArray.empty,vci 0,vci 0,vcs ByteArray.empty,vcs ByteArray.empty,vci 0,vcn,vcn,vcs ByteArray.empty,vci 0,vci 0,vci 0,vci 0,vci 0,vci 0,vci 0,vci 0,vci 0])] 1 none) []
 (.seq (.region 1 [mv 5 0,o1 6 (.build 41 [vci 0,vci 0] [(0,1),(1,1)] 0 []),mv 7 1,o1 8 (.build 41 [vci 0,vci 0] [(0,1),(1,1)] 0 [(0,(tm 7))]),mv 9 1,mv 10 1,o1 11 (.build 41 [vci 0,vci 0] [(0,1),(1,1)] 0 [(0,(tm 9)),(1,(tm 10))]),mv 12 1,o1 13 (.build 41 [vci 0,vci 0] [(0,1),(1,1)] 0 [(1,(tm 12))]),o1 14 (.buildSlice 0 47 41 kP 4 [vci 0,vci 0] [(0,(tm 6)),(1,(tm 8)),(2,(tm 11)),(3,(tm 13))]),o1 15 (.build 50 [vcn,vcn] [(0,1),(1,1)] 0 [(0,(tm 14))]),o1 16 (.build 56 [vcs ByteArray.empty,vci 0,vci 0,vcs ByteArray.empty,vcs ByteArray.empty,vci 0,vcn,vcn,vcs ByteArray.empty,vci 0,vci 0,vci 0,vci 0,vci 0,vci 0,vci 0,vci 0,vci 0] [(0,1),(1,1),(2,1),(3,1),(4,1),(5,1),(6,2),(8,1),(9,1),(10,1),(11,3),(14,4)] 0 [(0,(tm 5)),(1,(ic 1)),(2,(ic 1)),(3,(.const (.string (ByteArray.mk #[66])))),(4,(.const (.string (ByteArray.mk #[65])))),(5,(ic 10)),(6,(tm 15))]),o0 (.store 56 18 (tm 4) (tm 16))] 1 none) []
 (.ret (rl 0 4 (rl 5 12 [])))))⟩
def FT169 (u : Nat) (x0 : ByteArray) (x1 : Int) : Option (ByteArray × Int × Int × ByteArray × ByteArray × Int × Nat × FF × Nat × FF × ByteArray × Int × Int × Int × Int × Int × Int × Int × Int × Int) :=
 (some (x0,1,1,(ByteArray.mk #[66]),(ByteArray.mk #[65]),10,4,(rowsF 2 [(.i .i64 0),(.i .i64 0),(.i .i64 x1),(.i .i64 0),(.i .i64 x1),(.i .i64 x1),(.i .i64 0),(.i .i64 x1)]),0,(fun _ _ => .any),ByteArray.empty,0,0,0,0,0,0,0,0,0))
theorem e169 : evalF (C72 u) u A34 [.v (.s w0),.v (vi i0)] = ob (FT169 u w0 i0) fun t => some [.agg [(.s t.1),(vi 1),(vi 1),(.s (ByteArray.mk #[66])),(.s (ByteArray.mk #[65])),(vi 10),(ro kP 4 t.2.2.2.2.2.2.2.1),(.ro true .nil 0 nilF),(.s ByteArray.empty),(vi 0),(vi 0),(vi 0),(vi 0),(vi 0),(vi 0),(vi 0),(vi 0),(vi 0)]] := Eq.trans (b := (some [.agg [(.s w0),(vi 1),(vi 1),(.s (ByteArray.mk #[66])),(.s (ByteArray.mk #[65])),(vi 10),(ro kP 4 (rowsF 2 [(vi 0),(vi 0),(vi i0),(vi 0),(vi i0),(vi i0),(vi 0),(vi i0)])),(.ro true .nil 0 nilF),(.s ByteArray.empty),(vi 0),(vi 0),(vi 0),(vi 0),(vi 0),(vi 0),(vi 0),(vi 0),(vi 0)]])) (by kernel_rfl) (by
 simp only [FT169,ob_bif,ob_ob,ob_none,ob_some])
def F169 (x0 : ByteArray) (x1 : Int) : Option (ByteArray × Int × Int × ByteArray × ByteArray × Int × Nat × FF × Nat × FF × ByteArray × Int × Int × Int × Int × Int × Int × Int × Int × Int) := ob (FT169 u x0 x1) fun t => some (t.1,1,1,(ByteArray.mk #[66]),(ByteArray.mk #[65]),10,4,t.2.2.2.2.2.2.2.1,0,(fun _ _ => .any),ByteArray.empty,0,0,0,0,0,0,0,0,0)
def O169 : Ora := mkO (qc (av cS) (q1 (av ci))) (fun x => F169 u x.1 x.2) fun t => [.agg [(.s t.1),(vi t.2.1),(vi t.2.2.1),(.s t.2.2.2.1),(.s t.2.2.2.2.1),(vi t.2.2.2.2.2.1),(ro kP t.2.2.2.2.2.2.1 t.2.2.2.2.2.2.2.1),(ro (.pr (.sl kP) .nil) t.2.2.2.2.2.2.2.2.1 t.2.2.2.2.2.2.2.2.2.1),(.s t.2.2.2.2.2.2.2.2.2.2.1),(vi t.2.2.2.2.2.2.2.2.2.2.2.1),(vi t.2.2.2.2.2.2.2.2.2.2.2.2.1),(vi t.2.2.2.2.2.2.2.2.2.2.2.2.2.1),(vi t.2.2.2.2.2.2.2.2.2.2.2.2.2.2.1),(vi t.2.2.2.2.2.2.2.2.2.2.2.2.2.2.2.1),(vi t.2.2.2.2.2.2.2.2.2.2.2.2.2.2.2.2.1),(vi t.2.2.2.2.2.2.2.2.2.2.2.2.2.2.2.2.2.1),(vi t.2.2.2.2.2.2.2.2.2.2.2.2.2.2.2.2.2.2.1),(vi t.2.2.2.2.2.2.2.2.2.2.2.2.2.2.2.2.2.2.2)]]
theorem d169 : DO (O169 u) (C72 u) 34 A34 := dW u (fun x => by exact e169 u x.2 x.1) (fun _ => rfl) fun t => by
 exact (.cons (WkA.agg (.cons (Wk.refl _) (.cons (Wk.refl _) (.cons (Wk.refl _) (.cons (Wk.refl _) (.cons (Wk.refl _) (.cons (Wk.refl _) (.cons (Wk.refl _) (.cons (Wk.ro (by rfl)) (.cons (Wk.refl _) (.cons (Wk.refl _) (.cons (Wk.refl _) (.cons (Wk.refl _) (.cons (Wk.refl _) (.cons (Wk.refl _) (.cons (Wk.refl _) (.cons (Wk.refl _) (.cons (Wk.refl _) (.cons (Wk.refl _) .nil))))))))))))))))))) .nil)
def C73 : Oracle := (C72 u).add 34 (fun _ => true) (O169 u)
def A14v1 : AC := (.region 9 [mv 29 4,o1 30 (fa 56 8 6 6),o1 31 (ln 50 2 30),o1 32 (ln 43 5 7),o1 33 (cf 31 [31,32] [50,43]),o1 34 (.buildSlice 0 34 50 kF 1 [vcn,vcn] [(0,(tm 33))]),o1 35 (.append 1 34 50 kF 48 (tm 29) (tm 34)),o1 4 (sg 35)] 2 none)
def A14v2 : AC := (.seq (.seq (.region 7 [o1 26 (ln 43 5 7),o1 27 (cs 32 [26] [43]),o1 28 (.unOp .not 4 (tm 27))] 0 none) []
 (.cond (tm 28)
 (.seq (.region 8 [o1 4 (.assign (.const (.slice none 0 0))),o1 5 (sk 9)] 0 none) []
  (.ghost (rl 0 4 []) (.ret (rl 0 4 (rl 6 32 [])))))
 .skip)) [5,26,27,28]
 A14v1)
def A14v3 : AC := (.region 10 [o1 36 (bk .add 3 13 1),mv 13 36] 0 none)
def A14v4 : AC := (.seq (.block 1
 (.seq (.region 3 [o1 15 (.indexAddr 22 43 5 (tm 11) (tm 13)),o1 16 (ln 43 5 15),o1 7 (.alloc 0 43 [vcs ByteArray.empty,vci 0,vci 0,vci 0,vcb false]),o0 (.store 43 5 (tm 7) (tm 16))] 1 none) []
  (.seq (.region 4 [mv 18 1,o1 19 (fa 43 7 0 0),o1 20 (lo 9 19),o1 21 (cf 30 [18,20] [27,9]),mv 17 21,o1 22 (.extract (tm 17) 0),o1 23 (.extract (tm 17) 1),o1 8 (.alloc 0 56 [vcs ByteArray.empty,vci 0,vci 0,vcs ByteArray.empty,vcs ByteArray.empty,vci 0,vcn,vcn,vcs ByteArray.empty,vci 0,vci 0,vci 0,vci 0,vci 0,vci 0,vci 0,vci 0,vci 0]),o0 (.store 56 18 (tm 8) (tm 22)),o1 9 (sg 23)] 1 none) []
  (.seq (.seq (.region 5 [mv 24 9,o1 25 (.unOp .not 4 (tm 24))] 0 none) []
  (.cond (tm 25)
  (.seq (.region 6 [o1 4 (.assign (.const (.slice none 0 0))),o1 5 (sk 8)] 0 none) []
   (.ghost (rl 0 4 []) (.ret (rl 0 4 (rl 6 32 [])))))
  .skip)) [5,24,25]
  A14v2)))) (5 :: 7 :: 8 :: 9 :: (rl 15 21 []))
 A14v3)
def A14v5 : AC := (.seq (.region 2 [o1 14 (bt .lss 3 13 12)] 0 none) []
 (.seq (.cond (tm 14)
 .skip
 (.ghost [0] (.exit 0 (rl 0 4 (rl 5 33 []))))) []
 A14v4))
def A14v6 : AC := (.seq (.region 11 [mv 37 4,o1 4 (sg 37),o1 5 (sk 0)] 0 none) []
 (.ghost [0] (.ret (rl 0 4 (rl 6 32 [])))))
def A14 : AF := ⟨38,[.tmp 4,.tmp 5],
 (.seq (.region 0 [o1 2 (bx 0 24 0),o1 4 (.assign (.const (.slice none 0 0))),o1 5 (sk 0)] 1 none) []
 (.seq (.seq (.region 1 [o1 10 (fa 24 2 2 2),o1 11 (lo 22 10),o1 12 (.len 22 false (tm 11)),o1 13 (.move (ic 0))] 0 none) []
 (.block 0
 (.ghost [0] (.loop [.slot 4 kF] (0 :: 2 :: 3 :: (rl 5 6 (rl 14 24 [])))
  A14v5)))) (5 :: (rl 7 30 []))
 A14v6))⟩
def N175v1 : St → Option St := nN 2 (0 :: 2 :: 3 :: (rl 5 6 (rl 14 24 [])))
def s175v0 : St := ⟨(.u :: .x (.c (ro kA n0 f0)) :: .u :: .u :: .x (.own 1 0 n1) :: (us 6 (.x (.c (ro kE n2 f1)) :: vxi i0 :: vxi i1 :: (us 24 [])))),[.dead,.arr kF n1 f2]⟩
def s175v1 : St := ⟨(us 4 (.x (vcn) :: vxi i0 :: (us 32 []))),[.dead,.dead,.dead,.dead]⟩
def s175v2 : St := ⟨(us 4 (.x (.own 1 0 n0) :: (us 33 []))),[.dead,.arr kF n0 f0]⟩
def L175v1 {ρ : Type} (u : Nat) (x0 : Nat) (x1 : FF) (x2 : Nat) (x3 : FF) (x4 : Int) : Nat → Nat → Int → FF → (Int → Option ρ) → (Nat → FF → Option ρ) → Option ρ
 | 0,_,_,_,_,_ => none
 | m + 1,x5,x6,x7,k0,k1 =>
  (bif (decide (x6 < x4)) then (bif (inb x6 x2) then (ob (F172 u x0 x1 (x3 x6.toNat 0).str) fun x8 => (bif (!x8.2.2.2.2.2.2.2.2.2.2.2.2.2.2.2.2.2.2.2.2) then (k0 8) else (ob (F174 u (x3 x6.toNat 0).str (x3 x6.toNat 1).int (x3 x6.toNat 2).int (x3 x6.toNat 3).int (x3 x6.toNat 4).bool) fun x9 => (bif (!x9) then (k0 9) else (ob (F25 u x8.2.2.2.2.2.2.1 x8.2.2.2.2.2.2.2.1 x8.2.2.2.2.2.2.2.2.1 x8.2.2.2.2.2.2.2.2.2.1 (x3 x6.toNat 0).str (x3 x6.toNat 1).int (x3 x6.toNat 2).int (x3 x6.toNat 3).int (x3 x6.toNat 4).bool) fun xA => (bif (Nat.ble (x5 + 1) 1073741824) then (L175v1 u x0 x1 x2 x3 x4 m (x5 + 1) (w64 (x6 + 1)) (joinF x5 x7 (rowsF 2 [(.ro false (.pr (.int .i64) (.pr (.int .i64) .nil)) xA.1 xA.2.1),(.ro false (.pr (.sl (.pr (.int .i64) (.pr (.int .i64) .nil))) .nil) xA.2.2.1 xA.2.2.2)])) k0 k1) else none)))))) else none) else (k1 x5 x7))
theorem nl175v1 : ∀ (m : Nat) (x0 : Nat) (x1 : Int) (x2 : FF) (k0 : Int → Option ρ) (k1 : Nat → FF → Option ρ),ob (L175v1 u n0 f0 n1 f1 i0 m x0 x1 x2 k0 k1) ng = L175v1 u n0 f0 n1 f1 i0 m x0 x1 x2 (fun x3 => ob (k0 x3) ng) (fun x4 x5 => ob (k1 x4 x5) ng)
 | 0,_,_,_,_,_ => rfl
 | m + 1,x0,x1,x2,k0,k1 => by
  simp only [L175v1,ob_bif,ob_ob,ob_none,nl175v1 m]
theorem r175v1 :
  loopH (eB A14v5 (C73 u) u) N175v1 (m + 1) (s175v0 n0 n2 n1 f0 f1 f2 i0 i1) k =
  (bif (decide (i1 < i0)) then (bif (inb i1 n1) then (ob (F172 u n0 f0 (f1 i1.toNat 0).str) fun x0 => (bif (!x0.2.2.2.2.2.2.2.2.2.2.2.2.2.2.2.2.2.2.2.2) then (k .ret (s175v1 8)) else (ob (F174 u (f1 i1.toNat 0).str (f1 i1.toNat 1).int (f1 i1.toNat 2).int (f1 i1.toNat 3).int (f1 i1.toNat 4).bool) fun x1 => (bif (!x1) then (k .ret (s175v1 9)) else (ob (F25 u x0.2.2.2.2.2.2.1 x0.2.2.2.2.2.2.2.1 x0.2.2.2.2.2.2.2.2.1 x0.2.2.2.2.2.2.2.2.2.1 (f1 i1.toNat 0).str (f1 i1.toNat 1).int (f1 i1.toNat 2).int (f1 i1.toNat 3).int (f1 i1.toNat 4).bool) fun x2 => (bif (Nat.ble (n2 + 1) 1073741824) then (loopH (eB A14v5 (C73 u) u) N175v1 m (s175v0 n0 (n2 + 1) n1 f0 f1 (joinF n2 f2 (rowsF 2 [(ro kP x2.1 x2.2.1),(ro (.pr (.sl kP) .nil) x2.2.2.1 x2.2.2.2)])) i0 (w64 (i1 + 1))) k) else none)))))) else none) else (k (.exit 0) (s175v2 n2 f2))) := by kernel_rfl
theorem q175v1 : ∀ (m : Nat) (x0 : Nat) (x1 : Int) (x2 : FF),
  loopH (eB A14v5 (C73 u) u) N175v1 m (s175v0 n0 x0 n1 f0 f1 x2 i0 x1) k = L175v1 u n0 f0 n1 f1 i0 m x0 x1 x2 (fun x3 => k .ret (s175v1 x3)) (fun x4 x5 => k (.exit 0) (s175v2 x4 x5))
 | 0,_,_,_ => rfl
 | m + 1,x0,x1,x2 => by
  rw [r175v1]
  simp only [L175v1,q175v1 m]
def FT175 (x0 : ByteArray) (x1 : Int) (x2 : Nat) (x3 : FF) (x4 : Nat) (x5 : FF) : Option (Bool × Nat × FF × Int) :=
 (L175v1 u x4 x5 x2 x3 (Int.ofNat x2) u 0 0 (fun _ _ => .any)
  (fun x6 => (some (true,0,(fun _ _ => .any),x6)))
  (fun x7 x8 => (some (false,x7,x8,0))))
def s175v3 : St := ⟨[.agg [(vcs w0),(vci i0),(.c (ro kE n0 f0))],.x (.c (ro kA n1 f1)),.x (.c (.rp kC (listF [(.s w0),(vi i0),(ro kE n0 f0)]))),uu,.x (.own 1 0 0),vxi 0,uu,uu,uu,uu,.x (.c (.rp kD (listF [(ro kE n0 f0)]))),.x (.c (ro kE n0 f0)),vxi (Int.ofNat n0),vxi 0,uu,uu,uu,uu,uu,uu,uu,uu,uu,uu,uu,uu,uu,uu,uu,uu,uu,uu,uu,uu,uu,uu,uu,uu],[.dead,.arr kF 0 nilF]⟩
theorem t175v1 :
  loopN (eB A14v5 (C73 u) u) N175v1 u (s175v3 n0 n1 f0 f1 i0 w0) k =
  L175v1 u n1 f1 n0 f0 (Int.ofNat n0) u 0 0 nilF (fun x0 => k .ret (s175v1 x0)) (fun x1 x2 => k (.exit 0) (s175v2 x1 x2)) :=
 Eq.trans (loopN_at (by kernel_rfl)) (q175v1 ..)
theorem g175v2 :
  (kBlk 0 (kSeq (C73 u) u (5 :: (rl 7 30 [])) A14v6 (finish A14))) .ret (s175v1 i0) =
  (some [.v (.ro true .nil 0 nilF),.v (vi i0)]) := by kernel_rfl
theorem g175v3 :
  (kBlk 0 (kSeq (C73 u) u (5 :: (rl 7 30 [])) A14v6 (finish A14))) (.exit 0) (s175v2 n0 f0) =
  (some [.v (ro kF n0 f0),.v (vi 0)]) := by kernel_rfl
theorem e175 : evalF (C73 u) u A14 [.agg [(.s w0),(vi i0),(ro kE n0 f0)],.v (ro kA n1 f1)] = ob (FT175 u w0 i0 n0 f0 n1 f1) fun t => some (bif t.1 then [.v (.ro true .nil 0 nilF),.v (vi t.2.2.2)] else [.v (ro kF t.2.1 t.2.2.1),.v (vi 0)]) := Eq.trans (b := (loopN (eB A14v5 (C73 u) u) N175v1 u (s175v3 n0 n1 f0 f1 i0 w0) (kBlk 0 (kSeq (C73 u) u (5 :: (rl 7 30 [])) A14v6 (finish A14))))) (by kernel_rfl) (by
 simp only [FT175,ob_bif,ob_ob,ob_none,ob_some,nl175v1,t175v1,g175v2,g175v3,cond_true,cond_false])
def F175 (x0 : ByteArray) (x1 : Int) (x2 : Nat) (x3 : FF) (x4 : Nat) (x5 : FF) : Option (Nat × FF × Int) := ob (FT175 u x0 x1 x2 x3 x4 x5) fun t => some (bif t.1 then (0,(fun _ _ => .any),t.2.2.2) else (t.2.1,t.2.2.1,0))
def O175 : Ora := mkO (qc (ag (tc cS (tc ci (t1 (cL kE))))) (q1 (av (cL kA)))) (fun x => F175 u x.1.1 x.1.2.1 x.1.2.2.1 x.1.2.2.2 x.2.1 x.2.2) fun t => [.v (ro kF t.1 t.2.1),.v (vi t.2.2)]
theorem d175 : DO (O175 u) (C73 u) 14 A14 := dW u (fun x => by exact e175 u x.1.2.2.1 x.2.1 x.1.2.2.2 x.2.2 x.1.2.1 x.1.1) (fun _ => rfl) fun t => by
 obtain ⟨b,t⟩ := t
 cases b with
 | true => exact (.cons (WkA.v (Wk.ro (by rfl))) (.cons (WkA.v (Wk.refl _)) .nil))
 | false =>
  exact (.cons (WkA.v (Wk.refl _)) (.cons (WkA.v (Wk.refl _)) .nil))
def C74 : Oracle := (C73 u).add 14 (fun _ => true) (O175 u)
def A28v1 : AC := (.seq (.block 1
 (.seq (.region 6 [o1 14 (.indexAddr 48 47 1 (tm 10) (tm 12)),o1 15 (lo 47 14),o1 5 (sg 15)] 0 none) []
  (.region 7 [mv 16 3,mv 17 5,o1 18 (cs 47 [17] [47]),o1 19 (bt .add 3 16 18),o1 3 (sg 19)] 0 none))) []
 (.region 8 [o1 20 (bk .add 3 12 1),mv 12 20] 0 none))
def A28v2 : AC := (.seq (.region 5 [o1 13 (bt .lss 3 12 11)] 0 none) []
 (.seq (.cond (tm 13)
 .skip
 (.exit 0 (0 :: 1 :: 2 :: (rl 4 18 [])))) []
 A28v1))
def A28v3 : AC := (.seq (.region 9 [mv 21 3,o1 2 (sg 21)] 0 none) []
 (.ret (0 :: 1 :: (rl 3 19 []))))
def A28v4 : AC := (.seq (.region 3 [o1 3 (sk 0)] 0 none) []
 (.seq (.seq (.region 4 [o1 9 (ln 50 2 1),o1 10 (cf 44 [9] [50]),o1 11 (.len 48 false (tm 10)),o1 12 (.move (ic 0))] 0 none) []
 (.block 0
 (.loop [] (0 :: 1 :: 2 :: (rl 4 6 (rl 13 9 [])))
  A28v2))) (5 :: (rl 9 12 []))
 A28v3))
def A28 : AF := ⟨22,[.tmp 2],
 (.seq (.region 0 [o1 1 (bx 0 50 0),o1 2 (sk 0)] 1 none) []
 (.seq (.seq (.region 1 [o1 6 (ln 50 2 1),o1 7 (cs 24 [6] [50]),o1 8 (bk .neq 31 7 0)] 0 none) []
 (.cond (tm 8)
 (.seq (.region 2 [o1 2 (sk 0)] 0 none) []
  (.ret (0 :: 1 :: (rl 3 19 []))))
 .skip)) [2,6,7,8]
 A28v4))⟩
def N18v1 : St → Option St := nN 1 (0 :: 1 :: 2 :: (rl 4 6 (rl 13 9 [])))
def s18v0 : St := ⟨(us 3 (vxi i0 :: (us 6 (.x (.c (ro (.pr (.sl kP) .nil) n0 f0)) :: vxi i1 :: vxi i2 :: (us 9 []))))),[.box [(.c (ro kP n1 f1)),(.c (ro (.pr (.sl kP) .nil) n2 f2))]]⟩
def s18v1 : St := ⟨(us 3 (vxi i0 :: (us 18 []))),[.box [(.c (ro kP n0 f0)),(.c (ro (.pr (.sl kP) .nil) n1 f1))]]⟩
def L18v1 {ρ : Type} (u : Nat) (x0 : Nat) (x1 : FF) (x2 : Int) (x3 : Nat) (x4 : FF) (x5 : Nat) (x6 : FF) : Nat → Int → Int → (Int → Option ρ) → Option ρ
 | 0,_,_,_ => none
 | m + 1,x7,x8,k0 =>
  (bif (decide (x8 < x2)) then (bif (inb x8 x0) then (ob (F34 u (x1 x8.toNat 0).len (x1 x8.toNat 0).el) fun x9 => (L18v1 u x0 x1 x2 x3 x4 x5 x6 m (w64 (x7 + x9)) (w64 (x8 + 1)) k0)) else none) else (k0 x7))
theorem nl18v1 : ∀ (m : Nat) (x0 x1 : Int) (k0 : Int → Option ρ),ob (L18v1 u n0 f0 i0 n1 f1 n2 f2 m x0 x1 k0) ng = L18v1 u n0 f0 i0 n1 f1 n2 f2 m x0 x1 (fun x2 => ob (k0 x2) ng)
 | 0,_,_,_ => rfl
 | m + 1,x0,x1,k0 => by
  simp only [L18v1,ob_bif,ob_ob,ob_none,nl18v1 m]
theorem r18v1 :
  loopH (eB A28v2 (C74 u) u) N18v1 (m + 1) (s18v0 n0 n1 n2 f0 f1 f2 i1 i0 i2) k =
  (bif (decide (i2 < i0)) then (bif (inb i2 n0) then (ob (F34 u (f0 i2.toNat 0).len (f0 i2.toNat 0).el) fun x0 => (loopH (eB A28v2 (C74 u) u) N18v1 m (s18v0 n0 n1 n2 f0 f1 f2 (w64 (i1 + x0)) i0 (w64 (i2 + 1))) k)) else none) else (k (.exit 0) (s18v1 n1 n2 f1 f2 i1))) := by kernel_rfl
theorem q18v1 : ∀ (m : Nat) (x0 x1 : Int),
  loopH (eB A28v2 (C74 u) u) N18v1 m (s18v0 n0 n1 n2 f0 f1 f2 x0 i0 x1) k = L18v1 u n0 f0 i0 n1 f1 n2 f2 m x0 x1 (fun x2 => k (.exit 0) (s18v1 n1 n2 f1 f2 x2))
 | 0,_,_ => rfl
 | m + 1,x0,x1 => by
  rw [r18v1]
  simp only [L18v1,q18v1 m]
def F18 (x0 : Nat) (x1 : FF) (x2 : Nat) (x3 : FF) : Option (Int) :=
 (ob (F13 u x0 x1 x2 x3) fun x4 => (bif (x4 != 0) then (some 0) else (ob (F42 u x0 x1 x2 x3) fun x5 => (L18v1 u x5.1 x5.2 (Int.ofNat x5.1) x0 x1 x2 x3 u 0 0
  (fun x6 => (some x6))))))
def s18v2 (x0 : Nat × FF) : St := ⟨(.agg [(.c (ro kP n0 f0)),(.c (ro (.pr (.sl kP) .nil) n1 f1))] :: .x (.ptr 0 0) :: .u :: vxi 0 :: uu :: uu :: (us 3 [.agg [(.c (ro kP n0 f0)),(.c (ro (.pr (.sl kP) .nil) n1 f1))],.x (.c (ro (.pr (.sl kP) .nil) x0.1 x0.2)),vxi (Int.ofNat x0.1),vxi 0,uu,uu,uu,uu,uu,uu,uu,uu,uu])),[.box [(.c (ro kP n0 f0)),(.c (ro (.pr (.sl kP) .nil) n1 f1))]]⟩
theorem t18v1 (x0 : Nat × FF) :
  loopN (eB A28v2 (C74 u) u) N18v1 u (s18v2 n0 n1 f0 f1 x0) k =
  L18v1 u x0.1 x0.2 (Int.ofNat x0.1) n0 f0 n1 f1 u 0 0 (fun x1 => k (.exit 0) (s18v1 n0 n1 f0 f1 x1)) :=
 Eq.trans (loopN_at (by kernel_rfl)) (q18v1 ..)
theorem g18v2 :
  (kBlk 0 (kSeq (C74 u) u (5 :: (rl 9 12 [])) A28v3 (finish A28))) (.exit 0) (s18v1 n0 n1 f0 f1 i0) =
  (some [.v (vi i0)]) := by kernel_rfl
theorem e18 : evalF (C74 u) u A28 [.agg [(ro kP n0 f0),(ro (.pr (.sl kP) .nil) n1 f1)]] = ob (F18 u n0 f0 n1 f1) fun t => some [.v (vi t)] := Eq.trans (b := (ob (F13 u n0 f0 n1 f1) fun x0 => (bif (x0 != 0) then (some [.v (vi 0)]) else (ob (F42 u n0 f0 n1 f1) fun x1 => (loopN (eB A28v2 (C74 u) u) N18v1 u (s18v2 n0 n1 f0 f1 x1) (kBlk 0 (kSeq (C74 u) u (5 :: (rl 9 12 [])) A28v3 (finish A28)))))))) (by kernel_rfl) (by
 simp only [F18,ob_bif,ob_ob,ob_none,ob_some,nl18v1,t18v1,g18v2])
def O18 : Ora := mkO (q1 (ag (tc (cL kP) (t1 (cL (.pr (.sl kP) .nil)))))) (fun x => F18 u x.1.1 x.1.2 x.2.1 x.2.2) fun t => [.v (vi t)]
theorem d18 : DO (O18 u) (C74 u) 28 A28 := dO u (fun x => by exact e18 u x.1.1 x.2.1 x.1.2 x.2.2)
def C75 : Oracle := (C74 u).add 28 (fun _ => true) (O18 u)
def A17v1 : AC := (.region 9 [o1 33 (bk .add 3 16 1),mv 16 33] 0 none)
def A17v2 : AC := (.seq (.block 1
 (.seq (.region 5 [o1 18 (.indexAddr 22 43 5 (tm 14) (tm 16)),o1 19 (ln 43 5 18),o1 6 (.alloc 0 43 [vcs ByteArray.empty,vci 0,vci 0,vci 0,vcb false]),o0 (.store 43 5 (tm 6) (tm 19))] 1 none) []
  (.seq (.region 6 [mv 21 1,o1 22 (fa 43 6 0 0),o1 23 (lo 9 22),o1 24 (cf 30 [21,23] [27,9]),mv 20 24,o1 25 (.extract (tm 20) 0),o1 26 (.extract (tm 20) 1),o1 7 (.alloc 0 56 [vcs ByteArray.empty,vci 0,vci 0,vcs ByteArray.empty,vcs ByteArray.empty,vci 0,vcn,vcn,vcs ByteArray.empty,vci 0,vci 0,vci 0,vci 0,vci 0,vci 0,vci 0,vci 0,vci 0]),o0 (.store 56 18 (tm 7) (tm 25)),o1 8 (sg 26)] 1 none) []
  (.seq (.region 7 [mv 27 8] 0 none) []
  (.cond (tm 27)
  (.region 8 [mv 28 4,o1 29 (fa 56 7 6 6),o1 30 (ln 50 2 29),o1 31 (cs 28 [30] [50]),o1 32 (bt .add 3 28 31),o1 4 (sg 32)] 0 none)
  .skip))))) (6 :: 7 :: 8 :: (rl 18 15 []))
 A17v1)
def A17v3 : AC := (.seq (.region 4 [o1 17 (bt .lss 3 16 15)] 0 none) []
 (.seq (.cond (tm 17)
 .skip
 (.ghost [0] (.exit 0 (rl 0 4 (rl 5 30 []))))) []
 A17v2))
def A17v4 : AC := (.seq (.region 10 [mv 34 4,o1 4 (sg 34)] 0 none) []
 (.ghost [0] (.ret (rl 0 4 (rl 5 30 [])))))
def A17v5 : AC := (.seq (.seq (.region 3 [o1 13 (fa 24 2 2 2),o1 14 (lo 22 13),o1 15 (.len 22 false (tm 14)),o1 16 (.move (ic 0))] 0 none) []
 (.block 0
 (.ghost [0] (.loop [] (0 :: 2 :: 3 :: (rl 5 9 (rl 17 18 [])))
  A17v3)))) (6 :: 7 :: 8 :: (rl 13 21 []))
 A17v4)
def A17 : AF := ⟨35,[.tmp 4],
 (.seq (.region 0 [o1 2 (bx 0 24 0),o1 4 (sk 0)] 1 none) []
 (.seq (.seq (.region 1 [o1 9 (fa 24 2 2 2),o1 10 (lo 22 9),o1 11 (.len 22 false (tm 10)),o1 12 (bk .gtr 3 11 32)] 0 none) []
 (.cond (tm 12)
 (.seq (.region 2 [o1 4 (sk 0)] 0 none) []
  (.ghost [0] (.ret (rl 0 4 (rl 5 30 [])))))
 .skip)) (rl 9 4 [])
 A17v5))⟩
def N183v1 : St → Option St := nN 1 (0 :: 2 :: 3 :: (rl 5 9 (rl 17 18 [])))
def s183v0 : St := ⟨(.u :: .x (.c (ro kA n0 f0)) :: .u :: .u :: vxi i0 :: (us 9 (.x (.c (ro kE n1 f1)) :: vxi i1 :: vxi i2 :: (us 18 [])))),[.dead]⟩
def s183v1 : St := ⟨(us 4 (vxi i0 :: (us 30 []))),[.dead]⟩
def L183v1 {ρ : Type} (u : Nat) (x0 : Nat) (x1 : FF) (x2 : Nat) (x3 : FF) (x4 : Int) : Nat → Int → Int → (Int → Option ρ) → Option ρ
 | 0,_,_,_ => none
 | m + 1,x5,x6,k0 =>
  (bif (decide (x6 < x4)) then (bif (inb x6 x2) then (ob (F172 u x0 x1 (x3 x6.toNat 0).str) fun x7 => (bif x7.2.2.2.2.2.2.2.2.2.2.2.2.2.2.2.2.2.2.2.2 then (ob (F18 u x7.2.2.2.2.2.2.1 x7.2.2.2.2.2.2.2.1 x7.2.2.2.2.2.2.2.2.1 x7.2.2.2.2.2.2.2.2.2.1) fun x8 => (L183v1 u x0 x1 x2 x3 x4 m (w64 (x5 + x8)) (w64 (x6 + 1)) k0)) else (L183v1 u x0 x1 x2 x3 x4 m x5 (w64 (x6 + 1)) k0))) else none) else (k0 x5))
theorem nl183v1 : ∀ (m : Nat) (x0 x1 : Int) (k0 : Int → Option ρ),ob (L183v1 u n0 f0 n1 f1 i0 m x0 x1 k0) ng = L183v1 u n0 f0 n1 f1 i0 m x0 x1 (fun x2 => ob (k0 x2) ng)
 | 0,_,_,_ => rfl
 | m + 1,x0,x1,k0 => by
  simp only [L183v1,ob_bif,ob_ob,ob_none,nl183v1 m]
theorem r183v1 :
  loopH (eB A17v3 (C75 u) u) N183v1 (m + 1) (s183v0 n0 n1 f0 f1 i1 i0 i2) k =
  (bif (decide (i2 < i0)) then (bif (inb i2 n1) then (ob (F172 u n0 f0 (f1 i2.toNat 0).str) fun x0 => (bif x0.2.2.2.2.2.2.2.2.2.2.2.2.2.2.2.2.2.2.2.2 then (ob (F18 u x0.2.2.2.2.2.2.1 x0.2.2.2.2.2.2.2.1 x0.2.2.2.2.2.2.2.2.1 x0.2.2.2.2.2.2.2.2.2.1) fun x1 => (loopH (eB A17v3 (C75 u) u) N183v1 m (s183v0 n0 n1 f0 f1 (w64 (i1 + x1)) i0 (w64 (i2 + 1))) k)) else (loopH (eB A17v3 (C75 u) u) N183v1 m (s183v0 n0 n1 f0 f1 i1 i0 (w64 (i2 + 1))) k))) else none) else (k (.exit 0) (s183v1 i1))) := by kernel_rfl
theorem q183v1 : ∀ (m : Nat) (x0 x1 : Int),
  loopH (eB A17v3 (C75 u) u) N183v1 m (s183v0 n0 n1 f0 f1 x0 i0 x1) k = L183v1 u n0 f0 n1 f1 i0 m x0 x1 (fun x2 => k (.exit 0) (s183v1 x2))
 | 0,_,_ => rfl
 | m + 1,x0,x1 => by
  rw [r183v1]
  simp only [L183v1,q183v1 m]
def F183 (x0 : ByteArray) (x1 : Int) (x2 : Nat) (x3 : FF) (x4 : Nat) (x5 : FF) : Option (Int) :=
 (bif (decide ((Int.ofNat x2) > 32)) then (some 0) else (L183v1 u x4 x5 x2 x3 (Int.ofNat x2) u 0 0
  (fun x6 => (some x6))))
def s183v2 : St := ⟨(.agg [(vcs w0),(vci i0),(.c (ro kE n0 f0))] :: .x (.c (ro kA n1 f1)) :: .x (.c (.rp kC (listF [(.s w0),(vi i0),(ro kE n0 f0)]))) :: uu :: vxi 0 :: uu :: uu :: uu :: uu :: (us 4 [.x (.c (.rp kD (listF [(ro kE n0 f0)]))),.x (.c (ro kE n0 f0)),vxi (Int.ofNat n0),vxi 0,uu,uu,uu,uu,uu,uu,uu,uu,uu,uu,uu,uu,uu,uu,uu,uu,uu,uu])),[.dead]⟩
theorem t183v1 :
  loopN (eB A17v3 (C75 u) u) N183v1 u (s183v2 n0 n1 f0 f1 i0 w0) k =
  L183v1 u n1 f1 n0 f0 (Int.ofNat n0) u 0 0 (fun x0 => k (.exit 0) (s183v1 x0)) :=
 Eq.trans (loopN_at (by kernel_rfl)) (q183v1 ..)
theorem g183v2 :
  (kBlk 0 (kSeq (C75 u) u (6 :: 7 :: 8 :: (rl 13 21 [])) A17v4 (finish A17))) (.exit 0) (s183v1 i0) =
  (some [.v (vi i0)]) := by kernel_rfl
theorem e183 : evalF (C75 u) u A17 [.agg [(.s w0),(vi i0),(ro kE n0 f0)],.v (ro kA n1 f1)] = ob (F183 u w0 i0 n0 f0 n1 f1) fun t => some [.v (vi t)] := Eq.trans (b := (bif (decide ((Int.ofNat n0) > 32)) then (some [.v (vi 0)]) else (loopN (eB A17v3 (C75 u) u) N183v1 u (s183v2 n0 n1 f0 f1 i0 w0) (kBlk 0 (kSeq (C75 u) u (6 :: 7 :: 8 :: (rl 13 21 [])) A17v4 (finish A17)))))) (by kernel_rfl) (by
 simp only [F183,ob_bif,ob_ob,ob_none,ob_some,nl183v1,t183v1,g183v2])
def O183 : Ora := mkO (qc (ag (tc cS (tc ci (t1 (cL kE))))) (q1 (av (cL kA)))) (fun x => F183 u x.1.1 x.1.2.1 x.1.2.2.1 x.1.2.2.2 x.2.1 x.2.2) fun t => [.v (vi t)]
theorem d183 : DO (O183 u) (C75 u) 17 A17 := dO u (fun x => by exact e183 u x.1.2.2.1 x.2.1 x.1.2.2.2 x.2.2 x.1.2.1 x.1.1)
def C76 : Oracle := (C75 u).add 17 (fun _ => true) (O183 u)
def A66v1 : AC := (.seq (.region 5 [mv 17 0,mv 18 1,o1 19 (bt .quo 3 17 18),mv 20 0,mv 21 1,o1 22 (bt .rem 3 20 21),o1 4 (sg 19),o1 5 (sg 22),o1 6 (sk 0)] 0 (some [[],[],[0,1],[],[],[3,4],[0,1,2],(rl 0 7 []),(rl 0 8 [])])) []
 (.ret (rl 0 4 (rl 7 16 []))))
def A66 : AF := ⟨23,[.tmp 4,.tmp 5,.tmp 6],
 (.seq (.region 0 [o1 4 (sk 0),o1 5 (sk 0),o1 6 (sk 0)] 0 none) []
 (.seq (.block 0
 (.seq (.region 1 [mv 8 1,o1 9 (bk .eql 3 8 0),o1 7 (sg 9)] 0 none) []
  (.cond (tm 7)
  (.seq (.region 2 [o1 4 (sk 0),o1 5 (sk 0),o1 6 (sk 22)] 0 none) []
   (.ret (rl 0 4 (rl 7 16 []))))
  (.seq (.region 3 [mv 11 0,o1 12 (bk .eql 3 11 (-9223372036854775808)),mv 13 12,og 14 (.move (tm 1)) 13 true,og 15 (bk .eql 3 14 (-1)) 13 true,o1 16 (po 13 15),o1 10 (sg 16)] 0 none) []
   (.cond (tm 10)
   (.seq (.region 4 [o1 4 (sk 0),o1 5 (sk 0),o1 6 (sk 21)] 0 none) []
    (.ret (rl 0 4 (rl 7 16 []))))
   .skip))))) (rl 4 13 [])
 A66v1))⟩
def F184 (u : Nat) (x0 x1 : Int) : Option (Int × Int × Int) :=
 (bif (x1 == 0) then (some (0,0,22)) else (bif ((x0 == (-9223372036854775808)) == true) then (bif (x1 == (-1)) then (some (0,0,21)) else (bif (x1 == 0) then none else (bif (x1 == 0) then none else (some ((w64 (Int.tdiv x0 x1)),(Int.tmod x0 x1),0))))) else (bif (x1 == 0) then none else (bif (x1 == 0) then none else (some ((w64 (Int.tdiv x0 x1)),(Int.tmod x0 x1),0))))))
theorem e184 : evalF (C76 u) u A66 [.v (vi i0),.v (vi i1)] = ob (F184 u i0 i1) fun t => some [.v (vi t.1),.v (vi t.2.1),.v (vi t.2.2)] := Eq.trans (b := (bif (i1 == 0) then (some [.v (vi 0),.v (vi 0),.v (vi 22)]) else (bif ((i0 == (-9223372036854775808)) == true) then (bif (i1 == (-1)) then (some [.v (vi 0),.v (vi 0),.v (vi 21)]) else (bif (i1 == 0) then none else (bif (i1 == 0) then none else (some [.v (vi (w64 (Int.tdiv i0 i1))),.v (vi (Int.tmod i0 i1)),.v (vi 0)])))) else (bif (i1 == 0) then none else (bif (i1 == 0) then none else (some [.v (vi (w64 (Int.tdiv i0 i1))),.v (vi (Int.tmod i0 i1)),.v (vi 0)])))))) (by kernel_rfl) (by
 simp only [F184,ob_bif,ob_ob,ob_none,ob_some])
def O184 : Ora := mkO (qc (av ci) (q1 (av ci))) (fun x => F184 u x.1 x.2) fun t => [.v (vi t.1),.v (vi t.2.1),.v (vi t.2.2)]
theorem d184 : DO (O184 u) (C76 u) 66 A66 := dO u (fun x => by exact e184 u x.1 x.2)
def C77 : Oracle := (C76 u).add 66 (fun _ => true) (O184 u)
def A39v1 : AC := (.seq (.region 4 [mv 27 6,mv 28 8,o1 4 (sg 27),o1 5 (sg 28)] 0 none) []
 (.ret (rl 0 4 (rl 6 23 []))))
def A39 : AF := ⟨29,[.tmp 4,.tmp 5],
 (.seq (.region 0 [o1 4 (sk 0),o1 5 (sk 0)] 0 none) []
 (.seq (.region 1 [mv 10 0,mv 11 1,o1 12 (cs 66 [10,11] [3,3]),mv 9 12,o1 13 (.extract (tm 9) 0),o1 14 (.extract (tm 9) 1),o1 15 (.extract (tm 9) 2),o1 6 (sg 13),o1 7 (sg 14),o1 8 (sg 15)] 0 none) []
 (.seq (.seq (.region 2 [mv 16 7,o1 17 (bk .neq 3 16 0),mv 18 17,og 19 (.move (tm 7)) 18 true,og 20 (bk .lss 3 19 0) 18 true,og 21 (.move (tm 1)) 18 true,og 22 (bk .lss 3 21 0) 18 true,og 23 (.eqB true 4 (tm 20) (tm 22) 4) 18 true,o1 24 (po 18 23)] 0 none) []
 (.cond (tm 24)
 (.region 3 [mv 25 6,o1 26 (bk .sub 3 25 1),o1 6 (sg 26)] 0 none)
 .skip)) (rl 16 11 [])
 A39v1)))⟩
def F185 (x0 x1 : Int) : Option (Int × Int) :=
 (ob (F184 u x0 x1) fun x2 => (bif ((x2.2.1 != 0) == true) then (bif (!((decide (x2.2.1 < 0)) == (decide (x1 < 0)))) then (some ((w64 (x2.1 - 1)),x2.2.2)) else (some (x2.1,x2.2.2))) else (some (x2.1,x2.2.2))))
theorem e185 : evalF (C77 u) u A39 [.v (vi i0),.v (vi i1)] = ob (F185 u i0 i1) fun t => some [.v (vi t.1),.v (vi t.2)] := Eq.trans (b := (ob (F184 u i0 i1) fun x0 => (bif ((x0.2.1 != 0) == true) then (bif (!((decide (x0.2.1 < 0)) == (decide (i1 < 0)))) then (some [.v (vi (w64 (x0.1 - 1))),.v (vi x0.2.2)]) else (some [.v (vi x0.1),.v (vi x0.2.2)])) else (some [.v (vi x0.1),.v (vi x0.2.2)])))) (by kernel_rfl) (by
 simp only [F185,ob_bif,ob_ob,ob_none,ob_some])
def O185 : Ora := mkO (qc (av ci) (q1 (av ci))) (fun x => F185 u x.1 x.2) fun t => [.v (vi t.1),.v (vi t.2)]
theorem d185 : DO (O185 u) (C77 u) 39 A39 := dO u (fun x => by exact e185 u x.1 x.2)
def C78 : Oracle := (C77 u).add 39 (fun _ => true) (O185 u)
def A19v1 : AC := (.seq (.region 3 [o1 26 (ln 24 3 3),mv 27 2,o1 28 (cs 17 [26,27] [24,27]),o1 29 (bk .mul 3 28 1000),o1 30 (fa 26 4 3 3),o1 31 (lo 3 30),o1 32 (.binOp .mul 3 (ic 2) (tm 31) 3),o1 33 (fa 26 4 4 4),o1 34 (lo 3 33),o1 35 (bt .mul 3 32 34),o1 36 (cs 39 [29,35] [3,3]),mv 25 36,o1 37 (.extract (tm 25) 0),o1 38 (.extract (tm 25) 1),o1 6 (sg 37)] 0 (some [[],[],[0,1],[0,1,2],[],[4],[4,5],[],[7],(rl 4 5 []),(rl 0 10 []),(rl 0 11 []),(rl 0 12 []),(rl 0 12 []),(rl 0 13 [])])) []
 (.seq (.region 4 [mv 39 6,o1 6 (sg 39)] 0 none) []
 (.ghost [0,1] (.ret (rl 0 6 (rl 7 33 []))))))
def A19 : AF := ⟨40,[.tmp 6],
 (.seq (.region 0 [o1 3 (bx 0 24 0),o1 4 (bx 1 26 1),o1 6 (sk 0)] 2 none) []
 (.seq (.seq (.region 1 [o1 7 (fa 26 4 3 3),o1 8 (lo 3 7),o1 9 (bk .lss 3 8 1),mv 10 9,og 11 (fa 26 4 3 3) 10 false,og 12 (lo 3 11) 10 false,og 13 (bk .gtr 3 12 32768) 10 false,o1 14 (pa 10 13),mv 15 14,og 16 (fa 26 4 4 4) 15 false,og 17 (lo 3 16) 15 false,og 18 (bk .lss 3 17 1) 15 false,o1 19 (pa 15 18),mv 20 19,og 21 (fa 26 4 4 4) 20 false,og 22 (lo 3 21) 20 false,og 23 (bk .gtr 3 22 32768) 20 false,o1 24 (pa 20 23)] 0 none) []
 (.cond (tm 24)
 (.seq (.region 2 [o1 6 (sk 0)] 0 none) []
  (.ghost [0,1] (.ret (rl 0 6 (rl 7 33 [])))))
 .skip)) (rl 6 19 [])
 A19v1))⟩
def F186 (x0 : ByteArray) (x1 : Int) (x2 : Nat) (x3 : FF) (x4 x5 : ByteArray) (x6 x7 x8 : Int) (x9 : ByteArray) (xA : Nat) (xB : FF) : Option (Int) :=
 (bif ((decide (x7 < 1)) == false) then (bif ((decide (x7 > 32768)) == false) then (bif ((decide (x8 < 1)) == false) then (bif (decide (x8 > 32768)) then (some 0) else (ob (F183 u x0 x1 x2 x3 xA xB) fun xC => (ob (F185 u (w64 (xC * 1000)) (w64 ((w64 (2 * x7)) * x8))) fun xD => (some xD.1)))) else (some 0)) else (some 0)) else (some 0))
theorem e186 : evalF (C78 u) u A19 [.agg [(.s w0),(vi i0),(ro kE n0 f0)],.agg [(.s w1),(.s w2),(vi i1),(vi i2),(vi i3),(.s w3)],.v (ro kA n1 f1)] = ob (F186 u w0 i0 n0 f0 w1 w2 i1 i2 i3 w3 n1 f1) fun t => some [.v (vi t)] := Eq.trans (b := (bif ((decide (i2 < 1)) == false) then (bif ((decide (i2 > 32768)) == false) then (bif ((decide (i3 < 1)) == false) then (bif (decide (i3 > 32768)) then (some [.v (vi 0)]) else (ob (F183 u w0 i0 n0 f0 n1 f1) fun x0 => (ob (F185 u (w64 (x0 * 1000)) (w64 ((w64 (2 * i2)) * i3))) fun x1 => (some [.v (vi x1.1)])))) else (some [.v (vi 0)])) else (some [.v (vi 0)])) else (some [.v (vi 0)]))) (by kernel_rfl) (by
 simp only [F186,ob_bif,ob_ob,ob_none,ob_some])
def O186 : Ora := mkO (qc (ag (tc cS (tc ci (t1 (cL kE))))) (qc (ag (tc cS (tc cS (tc ci (tc ci (tc ci (t1 cS))))))) (q1 (av (cL kA))))) (fun x => F186 u x.1.1 x.1.2.1 x.1.2.2.1 x.1.2.2.2 x.2.1.1 x.2.1.2.1 x.2.1.2.2.1 x.2.1.2.2.2.1 x.2.1.2.2.2.2.1 x.2.1.2.2.2.2.2 x.2.2.1 x.2.2.2) fun t => [.v (vi t)]
theorem d186 : DO (O186 u) (C78 u) 19 A19 := dO u (fun x => by exact e186 u x.1.2.2.1 x.2.2.1 x.1.2.2.2 x.2.2.2 x.1.2.1 x.2.1.2.2.1 x.2.1.2.2.2.1 x.2.1.2.2.2.2.1 x.1.1 x.2.1.1 x.2.1.2.1 x.2.1.2.2.2.2.2)
def C79 : Oracle := (C78 u).add 19 (fun _ => true) (O186 u)
def A13v1 : AC := (.seq (.region 11 [mv 87 7,o1 88 (.indexAddr 34 50 2 (tm 87) (ic 1)),o1 89 (fa 50 88 0 0),o1 90 (lo 47 89),o1 91 (.indexAddr 47 41 2 (tm 90) (ic 0)),o1 92 (ln 41 2 91),o1 93 (.build 41 [vci 0,vci 0] [(0,1),(1,1)] 0 [(0,(ic 30)),(1,(ic 5))]),o1 94 (.eqA false kP 41 (tm 92) (tm 93) 41),mv 95 94,og 96 (ln 24 3 3) 95 true,og 97 (.move (tm 2)) 95 true,og 98 (cs 17 [96,97] [24,27]) 95 true,og 99 (bk .eql 3 98 1600) 95 true,o1 100 (po 95 99),mv 101 100,og 102 (ln 24 3 3) 101 true,og 103 (ln 26 6 1) 101 true,og 104 (.move (tm 2)) 101 true,og 105 (cs 19 [102,103,104] [24,26,27]) 101 true,og 106 (bk .eql 3 105 160) 101 true,o1 107 (po 101 106),o1 0 (sg 107)] 0 none) []
 (.ghost (0 :: (rl 3 6 [])) (.ret (rl 1 107 []))))
def A13 : AF := ⟨108,[.tmp 0],
 (.seq (.region 0 [o1 0 (sb false)] 0 none) []
 (.seq (.region 1 [o1 9 (.build 26 [vcs ByteArray.empty,vcs ByteArray.empty,vci 0,vci 0,vci 0,vcs ByteArray.empty] [(0,1),(1,1),(2,1),(3,1),(4,1),(5,1)] 0 [(0,(.const (.string (ByteArray.mk #[83])))),(1,(.const (.string (ByteArray.mk #[65])))),(2,(ic 10)),(3,(ic 100)),(4,(ic 50)),(5,(.const (.string (ByteArray.mk #[72]))))]),o1 1 (.alloc 0 26 [vcs ByteArray.empty,vcs ByteArray.empty,vci 0,vci 0,vci 0,vcs ByteArray.empty]),o0 (.store 26 6 (tm 1) (tm 9))] 1 none) []
 (.seq (.region 2 [o1 10 (.call 34 [(.const (.string (ByteArray.mk #[80]))),(ic 20)] [9,3] .freeze),o1 11 (.call 34 [(.const (.string (ByteArray.mk #[81]))),(ic 20)] [9,3] .freeze),o1 12 (.buildSlice 0 27 56 kA 2 [vcs ByteArray.empty,vci 0,vci 0,vcs ByteArray.empty,vcs ByteArray.empty,vci 0,vcn,vcn,vcs ByteArray.empty,vci 0,vci 0,vci 0,vci 0,vci 0,vci 0,vci 0,vci 0,vci 0] [(0,(tm 10)),(1,(tm 11))]),o1 2 (sg 12)] 1 none) []
 (.seq (.region 3 [o1 13 (.build 41 [vci 0,vci 0] [(0,1),(1,1)] 0 [(0,(ic 5)),(1,(ic 5))]),o1 14 (.build 43 [vcs ByteArray.empty,vci 0,vci 0,vci 0,vcb false] [(0,1),(1,2),(3,1),(4,1)] 0 [(0,(.const (.string (ByteArray.mk #[80])))),(1,(tm 13))]),o1 15 (.build 41 [vci 0,vci 0] [(0,1),(1,1)] 0 [(0,(ic 30)),(1,(ic 5))]),o1 16 (.build 43 [vcs ByteArray.empty,vci 0,vci 0,vci 0,vcb false] [(0,1),(1,2),(3,1),(4,1)] 0 [(0,(.const (.string (ByteArray.mk #[81])))),(1,(tm 15))]),o1 17 (.buildSlice 0 22 43 kE 2 [vcs ByteArray.empty,vci 0,vci 0,vci 0,vcb false] [(0,(tm 14)),(1,(tm 16))]),o1 18 (.build 24 [vcs ByteArray.empty,vci 0,vcn] [(0,1),(1,1),(2,1)] 0 [(0,(.const (.string (ByteArray.mk #[83])))),(1,(ic 5)),(2,(tm 17))]),o1 3 (.alloc 1 24 [vcs ByteArray.empty,vci 0,vcn]),o0 (.store 24 3 (tm 3) (tm 18))] 2 none) []
 (.seq (.region 4 [o1 19 (ln 24 3 3),o1 20 (ln 24 3 3),o1 4 (.alloc 0 24 [vcs ByteArray.empty,vci 0,vcn]),o1 5 (.alloc 1 24 [vcs ByteArray.empty,vci 0,vcn]),o0 (.store 24 3 (tm 4) (tm 19)),o0 (.store 24 3 (tm 5) (tm 20))] 2 (some [[],[],[],[],[0,2,3],(rl 0 5 [])])) []
 (.seq (.region 5 [o1 21 (fa 24 4 1 1),o0 (.store 3 1 (tm 21) (ic 6))] 0 none) []
 (.seq (.region 6 [o1 22 (fa 24 3 2 2),o1 23 (lo 22 22),o1 24 (.indexAddr 22 43 5 (tm 23) (ic 0)),o1 25 (ln 43 5 24),o1 26 (.build 41 [vci 0,vci 0] [(0,1),(1,1)] 0 [(0,(ic 60)),(1,(ic 5))]),o1 27 (.build 43 [vcs ByteArray.empty,vci 0,vci 0,vci 0,vcb false] [(0,1),(1,2),(3,1),(4,1)] 0 [(0,(.const (.string (ByteArray.mk #[80])))),(1,(tm 26))]),o1 28 (.buildSlice 0 22 43 kE 2 [vcs ByteArray.empty,vci 0,vci 0,vci 0,vcb false] [(0,(tm 25)),(1,(tm 27))]),o1 29 (fa 24 5 2 2),o0 (.store 22 1 (tm 29) (tm 28))] 1 none) []
 (.seq (.region 7 [o1 30 (fa 24 3 2 2),o1 31 (lo 22 30),o1 32 (.indexAddr 22 43 5 (tm 31) (ic 0)),o1 33 (ln 43 5 32),o1 34 (.build 41 [vci 0,vci 0] [(0,1),(1,1)] 0 [(0,(ic 29)),(1,(ic 5))]),o1 35 (.build 43 [vcs ByteArray.empty,vci 0,vci 0,vci 0,vcb false] [(0,1),(1,2),(3,1),(4,1)] 0 [(0,(.const (.string (ByteArray.mk #[81])))),(1,(tm 34))]),o1 36 (.buildSlice 0 22 43 kE 2 [vcs ByteArray.empty,vci 0,vci 0,vci 0,vcb false] [(0,(tm 33)),(1,(tm 35))]),o1 37 (.build 24 [vcs ByteArray.empty,vci 0,vcn] [(0,1),(1,1),(2,1)] 0 [(1,(ic 5)),(2,(tm 36))]),o1 6 (.alloc 1 24 [vcs ByteArray.empty,vci 0,vcn]),o0 (.store 24 3 (tm 6) (tm 37))] 2 none) []
 (.seq (.region 8 [o1 39 (ln 24 3 3),mv 40 2,o1 41 (cf 14 [39,40] [24,27]),mv 38 41,o1 42 (.extract (tm 38) 0),o1 43 (.extract (tm 38) 1),o1 7 (sg 42),o1 8 (sg 43)] 0 none) []
 (.seq (.seq (.region 9 [o1 44 (ln 24 3 3),o1 45 (ln 26 6 1),mv 46 2,o1 47 (cs 11 [44,45,46] [24,26,27]),o1 48 (bk .neq 31 47 0),mv 49 48,og 50 (ln 24 3 4) 49 false,og 51 (ln 26 6 1) 49 false,og 52 (.move (tm 2)) 49 false,og 53 (cs 11 [50,51,52] [24,26,27]) 49 false,og 54 (bk .neq 31 53 18) 49 false,o1 55 (pa 49 54),mv 56 55,og 57 (ln 24 3 5) 56 false,og 58 (ln 26 6 1) 56 false,og 59 (.move (tm 2)) 56 false,og 60 (cs 11 [57,58,59] [24,26,27]) 56 false,og 61 (bk .neq 31 60 7) 56 false,o1 62 (pa 56 61),mv 63 62,og 64 (ln 24 3 6) 63 false,og 65 (ln 26 6 1) 63 false,og 66 (.move (tm 2)) 63 false,og 67 (cs 11 [64,65,66] [24,26,27]) 63 false,og 68 (bk .neq 31 67 19) 63 false,o1 69 (pa 63 68),mv 70 69,og 71 (.move (tm 8)) 70 false,og 72 (bk .neq 31 71 0) 70 false,o1 73 (pa 70 72),mv 74 73,og 75 (.move (tm 7)) 74 false,og 76 (.len 34 false (tm 75)) 74 false,og 77 (bk .neq 3 76 2) 74 false,o1 78 (pa 74 77),mv 79 78,og 80 (.move (tm 7)) 79 false,og 81 (.indexAddr 34 50 2 (tm 80) (ic 1)) 79 false,og 82 (fa 50 81 0 0) 79 false,og 83 (lo 47 82) 79 false,og 84 (.len 47 false (tm 83)) 79 false,og 85 (bk .neq 3 84 4) 79 false,o1 86 (pa 79 85)] 0 none) []
 (.cond (tm 86)
 (.seq (.region 10 [o1 0 (sb false)] 0 none) []
  (.ghost (0 :: (rl 3 6 [])) (.ret (rl 1 107 []))))
 .skip)) (0 :: (rl 44 43 []))
 A13v1))))))))))⟩
def F187 : Option (Bool) :=
 (ob (F169 u (ByteArray.mk #[80]) 20) fun x0 => (ob (F169 u (ByteArray.mk #[81]) 20) fun x1 => (ob (F175 u (ByteArray.mk #[83]) 5 2 (rowsF 5 [(.s (ByteArray.mk #[80])),(.i .i64 5),(.i .i64 5),(.i .i64 0),(.b false),(.s (ByteArray.mk #[81])),(.i .i64 30),(.i .i64 5),(.i .i64 0),(.b false)]) 2 (rowsF 18 [(.s x0.1),(.i .i64 x0.2.1),(.i .i64 x0.2.2.1),(.s x0.2.2.2.1),(.s x0.2.2.2.2.1),(.i .i64 x0.2.2.2.2.2.1),(.ro false (.pr (.int .i64) (.pr (.int .i64) .nil)) x0.2.2.2.2.2.2.1 x0.2.2.2.2.2.2.2.1),(.ro false (.pr (.sl (.pr (.int .i64) (.pr (.int .i64) .nil))) .nil) x0.2.2.2.2.2.2.2.2.1 x0.2.2.2.2.2.2.2.2.2.1),(.s x0.2.2.2.2.2.2.2.2.2.2.1),(.i .i64 x0.2.2.2.2.2.2.2.2.2.2.2.1),(.i .i64 x0.2.2.2.2.2.2.2.2.2.2.2.2.1),(.i .i64 x0.2.2.2.2.2.2.2.2.2.2.2.2.2.1),(.i .i64 x0.2.2.2.2.2.2.2.2.2.2.2.2.2.2.1),(.i .i64 x0.2.2.2.2.2.2.2.2.2.2.2.2.2.2.2.1),(.i .i64 x0.2.2.2.2.2.2.2.2.2.2.2.2.2.2.2.2.1),(.i .i64 x0.2.2.2.2.2.2.2.2.2.2.2.2.2.2.2.2.2.1),(.i .i64 x0.2.2.2.2.2.2.2.2.2.2.2.2.2.2.2.2.2.2.1),(.i .i64 x0.2.2.2.2.2.2.2.2.2.2.2.2.2.2.2.2.2.2.2),(.s x1.1),(.i .i64 x1.2.1),(.i .i64 x1.2.2.1),(.s x1.2.2.2.1),(.s x1.2.2.2.2.1),(.i .i64 x1.2.2.2.2.2.1),(.ro false (.pr (.int .i64) (.pr (.int .i64) .nil)) x1.2.2.2.2.2.2.1 x1.2.2.2.2.2.2.2.1),(.ro false (.pr (.sl (.pr (.int .i64) (.pr (.int .i64) .nil))) .nil) x1.2.2.2.2.2.2.2.2.1 x1.2.2.2.2.2.2.2.2.2.1),(.s x1.2.2.2.2.2.2.2.2.2.2.1),(.i .i64 x1.2.2.2.2.2.2.2.2.2.2.2.1),(.i .i64 x1.2.2.2.2.2.2.2.2.2.2.2.2.1),(.i .i64 x1.2.2.2.2.2.2.2.2.2.2.2.2.2.1),(.i .i64 x1.2.2.2.2.2.2.2.2.2.2.2.2.2.2.1),(.i .i64 x1.2.2.2.2.2.2.2.2.2.2.2.2.2.2.2.1),(.i .i64 x1.2.2.2.2.2.2.2.2.2.2.2.2.2.2.2.2.1),(.i .i64 x1.2.2.2.2.2.2.2.2.2.2.2.2.2.2.2.2.2.1),(.i .i64 x1.2.2.2.2.2.2.2.2.2.2.2.2.2.2.2.2.2.2.1),(.i .i64 x1.2.2.2.2.2.2.2.2.2.2.2.2.2.2.2.2.2.2.2)])) fun x2 => (ob (F182 u (ByteArray.mk #[83]) 5 2 (rowsF 5 [(.s (ByteArray.mk #[80])),(.i .i64 5),(.i .i64 5),(.i .i64 0),(.b false),(.s (ByteArray.mk #[81])),(.i .i64 30),(.i .i64 5),(.i .i64 0),(.b false)]) (ByteArray.mk #[83]) (ByteArray.mk #[65]) 10 100 50 (ByteArray.mk #[72]) 2 (rowsF 18 [(.s x0.1),(.i .i64 x0.2.1),(.i .i64 x0.2.2.1),(.s x0.2.2.2.1),(.s x0.2.2.2.2.1),(.i .i64 x0.2.2.2.2.2.1),(.ro false (.pr (.int .i64) (.pr (.int .i64) .nil)) x0.2.2.2.2.2.2.1 x0.2.2.2.2.2.2.2.1),(.ro false (.pr (.sl (.pr (.int .i64) (.pr (.int .i64) .nil))) .nil) x0.2.2.2.2.2.2.2.2.1 x0.2.2.2.2.2.2.2.2.2.1),(.s x0.2.2.2.2.2.2.2.2.2.2.1),(.i .i64 x0.2.2.2.2.2.2.2.2.2.2.2.1),(.i .i64 x0.2.2.2.2.2.2.2.2.2.2.2.2.1),(.i .i64 x0.2.2.2.2.2.2.2.2.2.2.2.2.2.1),(.i .i64 x0.2.2.2.2.2.2.2.2.2.2.2.2.2.2.1),(.i .i64 x0.2.2.2.2.2.2.2.2.2.2.2.2.2.2.2.1),(.i .i64 x0.2.2.2.2.2.2.2.2.2.2.2.2.2.2.2.2.1),(.i .i64 x0.2.2.2.2.2.2.2.2.2.2.2.2.2.2.2.2.2.1),(.i .i64 x0.2.2.2.2.2.2.2.2.2.2.2.2.2.2.2.2.2.2.1),(.i .i64 x0.2.2.2.2.2.2.2.2.2.2.2.2.2.2.2.2.2.2.2),(.s x1.1),(.i .i64 x1.2.1),(.i .i64 x1.2.2.1),(.s x1.2.2.2.1),(.s x1.2.2.2.2.1),(.i .i64 x1.2.2.2.2.2.1),(.ro false (.pr (.int .i64) (.pr (.int .i64) .nil)) x1.2.2.2.2.2.2.1 x1.2.2.2.2.2.2.2.1),(.ro false (.pr (.sl (.pr (.int .i64) (.pr (.int .i64) .nil))) .nil) x1.2.2.2.2.2.2.2.2.1 x1.2.2.2.2.2.2.2.2.2.1),(.s x1.2.2.2.2.2.2.2.2.2.2.1),(.i .i64 x1.2.2.2.2.2.2.2.2.2.2.2.1),(.i .i64 x1.2.2.2.2.2.2.2.2.2.2.2.2.1),(.i .i64 x1.2.2.2.2.2.2.2.2.2.2.2.2.2.1),(.i .i64 x1.2.2.2.2.2.2.2.2.2.2.2.2.2.2.1),(.i .i64 x1.2.2.2.2.2.2.2.2.2.2.2.2.2.2.2.1),(.i .i64 x1.2.2.2.2.2.2.2.2.2.2.2.2.2.2.2.2.1),(.i .i64 x1.2.2.2.2.2.2.2.2.2.2.2.2.2.2.2.2.2.1),(.i .i64 x1.2.2.2.2.2.2.2.2.2.2.2.2.2.2.2.2.2.2.1),(.i .i64 x1.2.2.2.2.2.2.2.2.2.2.2.2.2.2.2.2.2.2.2)])) fun x3 => (bif ((x3 != 0) == false) then (ob (F182 u (ByteArray.mk #[83]) 6 2 (rowsF 5 [(.s (ByteArray.mk #[80])),(.i .i64 5),(.i .i64 5),(.i .i64 0),(.b false),(.s (ByteArray.mk #[81])),(.i .i64 30),(.i .i64 5),(.i .i64 0),(.b false)]) (ByteArray.mk #[83]) (ByteArray.mk #[65]) 10 100 50 (ByteArray.mk #[72]) 2 (rowsF 18 [(.s x0.1),(.i .i64 x0.2.1),(.i .i64 x0.2.2.1),(.s x0.2.2.2.1),(.s x0.2.2.2.2.1),(.i .i64 x0.2.2.2.2.2.1),(.ro false (.pr (.int .i64) (.pr (.int .i64) .nil)) x0.2.2.2.2.2.2.1 x0.2.2.2.2.2.2.2.1),(.ro false (.pr (.sl (.pr (.int .i64) (.pr (.int .i64) .nil))) .nil) x0.2.2.2.2.2.2.2.2.1 x0.2.2.2.2.2.2.2.2.2.1),(.s x0.2.2.2.2.2.2.2.2.2.2.1),(.i .i64 x0.2.2.2.2.2.2.2.2.2.2.2.1),(.i .i64 x0.2.2.2.2.2.2.2.2.2.2.2.2.1),(.i .i64 x0.2.2.2.2.2.2.2.2.2.2.2.2.2.1),(.i .i64 x0.2.2.2.2.2.2.2.2.2.2.2.2.2.2.1),(.i .i64 x0.2.2.2.2.2.2.2.2.2.2.2.2.2.2.2.1),(.i .i64 x0.2.2.2.2.2.2.2.2.2.2.2.2.2.2.2.2.1),(.i .i64 x0.2.2.2.2.2.2.2.2.2.2.2.2.2.2.2.2.2.1),(.i .i64 x0.2.2.2.2.2.2.2.2.2.2.2.2.2.2.2.2.2.2.1),(.i .i64 x0.2.2.2.2.2.2.2.2.2.2.2.2.2.2.2.2.2.2.2),(.s x1.1),(.i .i64 x1.2.1),(.i .i64 x1.2.2.1),(.s x1.2.2.2.1),(.s x1.2.2.2.2.1),(.i .i64 x1.2.2.2.2.2.1),(.ro false (.pr (.int .i64) (.pr (.int .i64) .nil)) x1.2.2.2.2.2.2.1 x1.2.2.2.2.2.2.2.1),(.ro false (.pr (.sl (.pr (.int .i64) (.pr (.int .i64) .nil))) .nil) x1.2.2.2.2.2.2.2.2.1 x1.2.2.2.2.2.2.2.2.2.1),(.s x1.2.2.2.2.2.2.2.2.2.2.1),(.i .i64 x1.2.2.2.2.2.2.2.2.2.2.2.1),(.i .i64 x1.2.2.2.2.2.2.2.2.2.2.2.2.1),(.i .i64 x1.2.2.2.2.2.2.2.2.2.2.2.2.2.1),(.i .i64 x1.2.2.2.2.2.2.2.2.2.2.2.2.2.2.1),(.i .i64 x1.2.2.2.2.2.2.2.2.2.2.2.2.2.2.2.1),(.i .i64 x1.2.2.2.2.2.2.2.2.2.2.2.2.2.2.2.2.1),(.i .i64 x1.2.2.2.2.2.2.2.2.2.2.2.2.2.2.2.2.2.1),(.i .i64 x1.2.2.2.2.2.2.2.2.2.2.2.2.2.2.2.2.2.2.1),(.i .i64 x1.2.2.2.2.2.2.2.2.2.2.2.2.2.2.2.2.2.2.2)])) fun x4 => (bif ((x4 != 18) == false) then (ob (F182 u (ByteArray.mk #[83]) 5 2 (rowsF 5 [(.s (CV.str ((rowsF 5 [(.s (ByteArray.mk #[80])),(.i .i64 5),(.i .i64 5),(.i .i64 0),(.b false),(.s (ByteArray.mk #[81])),(.i .i64 30),(.i .i64 5),(.i .i64 0),(.b false)]) 0 0))),(.i .i64 (CV.int ((rowsF 5 [(.s (ByteArray.mk #[80])),(.i .i64 5),(.i .i64 5),(.i .i64 0),(.b false),(.s (ByteArray.mk #[81])),(.i .i64 30),(.i .i64 5),(.i .i64 0),(.b false)]) 0 1))),(.i .i64 (CV.int ((rowsF 5 [(.s (ByteArray.mk #[80])),(.i .i64 5),(.i .i64 5),(.i .i64 0),(.b false),(.s (ByteArray.mk #[81])),(.i .i64 30),(.i .i64 5),(.i .i64 0),(.b false)]) 0 2))),(.i .i64 (CV.int ((rowsF 5 [(.s (ByteArray.mk #[80])),(.i .i64 5),(.i .i64 5),(.i .i64 0),(.b false),(.s (ByteArray.mk #[81])),(.i .i64 30),(.i .i64 5),(.i .i64 0),(.b false)]) 0 3))),(.b (CV.bool ((rowsF 5 [(.s (ByteArray.mk #[80])),(.i .i64 5),(.i .i64 5),(.i .i64 0),(.b false),(.s (ByteArray.mk #[81])),(.i .i64 30),(.i .i64 5),(.i .i64 0),(.b false)]) 0 4))),(.s (ByteArray.mk #[80])),(.i .i64 60),(.i .i64 5),(.i .i64 0),(.b false)]) (ByteArray.mk #[83]) (ByteArray.mk #[65]) 10 100 50 (ByteArray.mk #[72]) 2 (rowsF 18 [(.s x0.1),(.i .i64 x0.2.1),(.i .i64 x0.2.2.1),(.s x0.2.2.2.1),(.s x0.2.2.2.2.1),(.i .i64 x0.2.2.2.2.2.1),(.ro false (.pr (.int .i64) (.pr (.int .i64) .nil)) x0.2.2.2.2.2.2.1 x0.2.2.2.2.2.2.2.1),(.ro false (.pr (.sl (.pr (.int .i64) (.pr (.int .i64) .nil))) .nil) x0.2.2.2.2.2.2.2.2.1 x0.2.2.2.2.2.2.2.2.2.1),(.s x0.2.2.2.2.2.2.2.2.2.2.1),(.i .i64 x0.2.2.2.2.2.2.2.2.2.2.2.1),(.i .i64 x0.2.2.2.2.2.2.2.2.2.2.2.2.1),(.i .i64 x0.2.2.2.2.2.2.2.2.2.2.2.2.2.1),(.i .i64 x0.2.2.2.2.2.2.2.2.2.2.2.2.2.2.1),(.i .i64 x0.2.2.2.2.2.2.2.2.2.2.2.2.2.2.2.1),(.i .i64 x0.2.2.2.2.2.2.2.2.2.2.2.2.2.2.2.2.1),(.i .i64 x0.2.2.2.2.2.2.2.2.2.2.2.2.2.2.2.2.2.1),(.i .i64 x0.2.2.2.2.2.2.2.2.2.2.2.2.2.2.2.2.2.2.1),(.i .i64 x0.2.2.2.2.2.2.2.2.2.2.2.2.2.2.2.2.2.2.2),(.s x1.1),(.i .i64 x1.2.1),(.i .i64 x1.2.2.1),(.s x1.2.2.2.1),(.s x1.2.2.2.2.1),(.i .i64 x1.2.2.2.2.2.1),(.ro false (.pr (.int .i64) (.pr (.int .i64) .nil)) x1.2.2.2.2.2.2.1 x1.2.2.2.2.2.2.2.1),(.ro false (.pr (.sl (.pr (.int .i64) (.pr (.int .i64) .nil))) .nil) x1.2.2.2.2.2.2.2.2.1 x1.2.2.2.2.2.2.2.2.2.1),(.s x1.2.2.2.2.2.2.2.2.2.2.1),(.i .i64 x1.2.2.2.2.2.2.2.2.2.2.2.1),(.i .i64 x1.2.2.2.2.2.2.2.2.2.2.2.2.1),(.i .i64 x1.2.2.2.2.2.2.2.2.2.2.2.2.2.1),(.i .i64 x1.2.2.2.2.2.2.2.2.2.2.2.2.2.2.1),(.i .i64 x1.2.2.2.2.2.2.2.2.2.2.2.2.2.2.2.1),(.i .i64 x1.2.2.2.2.2.2.2.2.2.2.2.2.2.2.2.2.1),(.i .i64 x1.2.2.2.2.2.2.2.2.2.2.2.2.2.2.2.2.2.1),(.i .i64 x1.2.2.2.2.2.2.2.2.2.2.2.2.2.2.2.2.2.2.1),(.i .i64 x1.2.2.2.2.2.2.2.2.2.2.2.2.2.2.2.2.2.2.2)])) fun x5 => (bif ((x5 != 7) == false) then (ob (F182 u ByteArray.empty 5 2 (rowsF 5 [(.s (CV.str ((rowsF 5 [(.s (ByteArray.mk #[80])),(.i .i64 5),(.i .i64 5),(.i .i64 0),(.b false),(.s (ByteArray.mk #[81])),(.i .i64 30),(.i .i64 5),(.i .i64 0),(.b false)]) 0 0))),(.i .i64 (CV.int ((rowsF 5 [(.s (ByteArray.mk #[80])),(.i .i64 5),(.i .i64 5),(.i .i64 0),(.b false),(.s (ByteArray.mk #[81])),(.i .i64 30),(.i .i64 5),(.i .i64 0),(.b false)]) 0 1))),(.i .i64 (CV.int ((rowsF 5 [(.s (ByteArray.mk #[80])),(.i .i64 5),(.i .i64 5),(.i .i64 0),(.b false),(.s (ByteArray.mk #[81])),(.i .i64 30),(.i .i64 5),(.i .i64 0),(.b false)]) 0 2))),(.i .i64 (CV.int ((rowsF 5 [(.s (ByteArray.mk #[80])),(.i .i64 5),(.i .i64 5),(.i .i64 0),(.b false),(.s (ByteArray.mk #[81])),(.i .i64 30),(.i .i64 5),(.i .i64 0),(.b false)]) 0 3))),(.b (CV.bool ((rowsF 5 [(.s (ByteArray.mk #[80])),(.i .i64 5),(.i .i64 5),(.i .i64 0),(.b false),(.s (ByteArray.mk #[81])),(.i .i64 30),(.i .i64 5),(.i .i64 0),(.b false)]) 0 4))),(.s (ByteArray.mk #[81])),(.i .i64 29),(.i .i64 5),(.i .i64 0),(.b false)]) (ByteArray.mk #[83]) (ByteArray.mk #[65]) 10 100 50 (ByteArray.mk #[72]) 2 (rowsF 18 [(.s x0.1),(.i .i64 x0.2.1),(.i .i64 x0.2.2.1),(.s x0.2.2.2.1),(.s x0.2.2.2.2.1),(.i .i64 x0.2.2.2.2.2.1),(.ro false (.pr (.int .i64) (.pr (.int .i64) .nil)) x0.2.2.2.2.2.2.1 x0.2.2.2.2.2.2.2.1),(.ro false (.pr (.sl (.pr (.int .i64) (.pr (.int .i64) .nil))) .nil) x0.2.2.2.2.2.2.2.2.1 x0.2.2.2.2.2.2.2.2.2.1),(.s x0.2.2.2.2.2.2.2.2.2.2.1),(.i .i64 x0.2.2.2.2.2.2.2.2.2.2.2.1),(.i .i64 x0.2.2.2.2.2.2.2.2.2.2.2.2.1),(.i .i64 x0.2.2.2.2.2.2.2.2.2.2.2.2.2.1),(.i .i64 x0.2.2.2.2.2.2.2.2.2.2.2.2.2.2.1),(.i .i64 x0.2.2.2.2.2.2.2.2.2.2.2.2.2.2.2.1),(.i .i64 x0.2.2.2.2.2.2.2.2.2.2.2.2.2.2.2.2.1),(.i .i64 x0.2.2.2.2.2.2.2.2.2.2.2.2.2.2.2.2.2.1),(.i .i64 x0.2.2.2.2.2.2.2.2.2.2.2.2.2.2.2.2.2.2.1),(.i .i64 x0.2.2.2.2.2.2.2.2.2.2.2.2.2.2.2.2.2.2.2),(.s x1.1),(.i .i64 x1.2.1),(.i .i64 x1.2.2.1),(.s x1.2.2.2.1),(.s x1.2.2.2.2.1),(.i .i64 x1.2.2.2.2.2.1),(.ro false (.pr (.int .i64) (.pr (.int .i64) .nil)) x1.2.2.2.2.2.2.1 x1.2.2.2.2.2.2.2.1),(.ro false (.pr (.sl (.pr (.int .i64) (.pr (.int .i64) .nil))) .nil) x1.2.2.2.2.2.2.2.2.1 x1.2.2.2.2.2.2.2.2.2.1),(.s x1.2.2.2.2.2.2.2.2.2.2.1),(.i .i64 x1.2.2.2.2.2.2.2.2.2.2.2.1),(.i .i64 x1.2.2.2.2.2.2.2.2.2.2.2.2.1),(.i .i64 x1.2.2.2.2.2.2.2.2.2.2.2.2.2.1),(.i .i64 x1.2.2.2.2.2.2.2.2.2.2.2.2.2.2.1),(.i .i64 x1.2.2.2.2.2.2.2.2.2.2.2.2.2.2.2.1),(.i .i64 x1.2.2.2.2.2.2.2.2.2.2.2.2.2.2.2.2.1),(.i .i64 x1.2.2.2.2.2.2.2.2.2.2.2.2.2.2.2.2.2.1),(.i .i64 x1.2.2.2.2.2.2.2.2.2.2.2.2.2.2.2.2.2.2.1),(.i .i64 x1.2.2.2.2.2.2.2.2.2.2.2.2.2.2.2.2.2.2.2)])) fun x6 => (bif ((x6 != 19) == false) then (bif ((x2.2.2 != 0) == false) then (bif (((Int.ofNat x2.1) != 2) == false) then (bif (inb 1 x2.1) then (bif ((Int.ofNat (x2.2.1 1 0).len) != 4) then (some false) else (bif (inb 1 x2.1) then (bif (inb 0 (x2.2.1 1 0).len) then (bif (((((x2.2.1 1 0).el 0 0).int == 30) && ((((x2.2.1 1 0).el 0 1).int == 5) && true)) == true) then (ob (F183 u (ByteArray.mk #[83]) 5 2 (rowsF 5 [(.s (ByteArray.mk #[80])),(.i .i64 5),(.i .i64 5),(.i .i64 0),(.b false),(.s (ByteArray.mk #[81])),(.i .i64 30),(.i .i64 5),(.i .i64 0),(.b false)]) 2 (rowsF 18 [(.s x0.1),(.i .i64 x0.2.1),(.i .i64 x0.2.2.1),(.s x0.2.2.2.1),(.s x0.2.2.2.2.1),(.i .i64 x0.2.2.2.2.2.1),(.ro false (.pr (.int .i64) (.pr (.int .i64) .nil)) x0.2.2.2.2.2.2.1 x0.2.2.2.2.2.2.2.1),(.ro false (.pr (.sl (.pr (.int .i64) (.pr (.int .i64) .nil))) .nil) x0.2.2.2.2.2.2.2.2.1 x0.2.2.2.2.2.2.2.2.2.1),(.s x0.2.2.2.2.2.2.2.2.2.2.1),(.i .i64 x0.2.2.2.2.2.2.2.2.2.2.2.1),(.i .i64 x0.2.2.2.2.2.2.2.2.2.2.2.2.1),(.i .i64 x0.2.2.2.2.2.2.2.2.2.2.2.2.2.1),(.i .i64 x0.2.2.2.2.2.2.2.2.2.2.2.2.2.2.1),(.i .i64 x0.2.2.2.2.2.2.2.2.2.2.2.2.2.2.2.1),(.i .i64 x0.2.2.2.2.2.2.2.2.2.2.2.2.2.2.2.2.1),(.i .i64 x0.2.2.2.2.2.2.2.2.2.2.2.2.2.2.2.2.2.1),(.i .i64 x0.2.2.2.2.2.2.2.2.2.2.2.2.2.2.2.2.2.2.1),(.i .i64 x0.2.2.2.2.2.2.2.2.2.2.2.2.2.2.2.2.2.2.2),(.s x1.1),(.i .i64 x1.2.1),(.i .i64 x1.2.2.1),(.s x1.2.2.2.1),(.s x1.2.2.2.2.1),(.i .i64 x1.2.2.2.2.2.1),(.ro false (.pr (.int .i64) (.pr (.int .i64) .nil)) x1.2.2.2.2.2.2.1 x1.2.2.2.2.2.2.2.1),(.ro false (.pr (.sl (.pr (.int .i64) (.pr (.int .i64) .nil))) .nil) x1.2.2.2.2.2.2.2.2.1 x1.2.2.2.2.2.2.2.2.2.1),(.s x1.2.2.2.2.2.2.2.2.2.2.1),(.i .i64 x1.2.2.2.2.2.2.2.2.2.2.2.1),(.i .i64 x1.2.2.2.2.2.2.2.2.2.2.2.2.1),(.i .i64 x1.2.2.2.2.2.2.2.2.2.2.2.2.2.1),(.i .i64 x1.2.2.2.2.2.2.2.2.2.2.2.2.2.2.1),(.i .i64 x1.2.2.2.2.2.2.2.2.2.2.2.2.2.2.2.1),(.i .i64 x1.2.2.2.2.2.2.2.2.2.2.2.2.2.2.2.2.1),(.i .i64 x1.2.2.2.2.2.2.2.2.2.2.2.2.2.2.2.2.2.1),(.i .i64 x1.2.2.2.2.2.2.2.2.2.2.2.2.2.2.2.2.2.2.1),(.i .i64 x1.2.2.2.2.2.2.2.2.2.2.2.2.2.2.2.2.2.2.2)])) fun x7 => (bif ((x7 == 1600) == true) then (ob (F186 u (ByteArray.mk #[83]) 5 2 (rowsF 5 [(.s (ByteArray.mk #[80])),(.i .i64 5),(.i .i64 5),(.i .i64 0),(.b false),(.s (ByteArray.mk #[81])),(.i .i64 30),(.i .i64 5),(.i .i64 0),(.b false)]) (ByteArray.mk #[83]) (ByteArray.mk #[65]) 10 100 50 (ByteArray.mk #[72]) 2 (rowsF 18 [(.s x0.1),(.i .i64 x0.2.1),(.i .i64 x0.2.2.1),(.s x0.2.2.2.1),(.s x0.2.2.2.2.1),(.i .i64 x0.2.2.2.2.2.1),(.ro false (.pr (.int .i64) (.pr (.int .i64) .nil)) x0.2.2.2.2.2.2.1 x0.2.2.2.2.2.2.2.1),(.ro false (.pr (.sl (.pr (.int .i64) (.pr (.int .i64) .nil))) .nil) x0.2.2.2.2.2.2.2.2.1 x0.2.2.2.2.2.2.2.2.2.1),(.s x0.2.2.2.2.2.2.2.2.2.2.1),(.i .i64 x0.2.2.2.2.2.2.2.2.2.2.2.1),(.i .i64 x0.2.2.2.2.2.2.2.2.2.2.2.2.1),(.i .i64 x0.2.2.2.2.2.2.2.2.2.2.2.2.2.1),(.i .i64 x0.2.2.2.2.2.2.2.2.2.2.2.2.2.2.1),(.i .i64 x0.2.2.2.2.2.2.2.2.2.2.2.2.2.2.2.1),(.i .i64 x0.2.2.2.2.2.2.2.2.2.2.2.2.2.2.2.2.1),(.i .i64 x0.2.2.2.2.2.2.2.2.2.2.2.2.2.2.2.2.2.1),(.i .i64 x0.2.2.2.2.2.2.2.2.2.2.2.2.2.2.2.2.2.2.1),(.i .i64 x0.2.2.2.2.2.2.2.2.2.2.2.2.2.2.2.2.2.2.2),(.s x1.1),(.i .i64 x1.2.1),(.i .i64 x1.2.2.1),(.s x1.2.2.2.1),(.s x1.2.2.2.2.1),(.i .i64 x1.2.2.2.2.2.1),(.ro false (.pr (.int .i64) (.pr (.int .i64) .nil)) x1.2.2.2.2.2.2.1 x1.2.2.2.2.2.2.2.1),(.ro false (.pr (.sl (.pr (.int .i64) (.pr (.int .i64) .nil))) .nil) x1.2.2.2.2.2.2.2.2.1 x1.2.2.2.2.2.2.2.2.2.1),(.s x1.2.2.2.2.2.2.2.2.2.2.1),(.i .i64 x1.2.2.2.2.2.2.2.2.2.2.2.1),(.i .i64 x1.2.2.2.2.2.2.2.2.2.2.2.2.1),(.i .i64 x1.2.2.2.2.2.2.2.2.2.2.2.2.2.1),(.i .i64 x1.2.2.2.2.2.2.2.2.2.2.2.2.2.2.1),(.i .i64 x1.2.2.2.2.2.2.2.2.2.2.2.2.2.2.2.1),(.i .i64 x1.2.2.2.2.2.2.2.2.2.2.2.2.2.2.2.2.1),(.i .i64 x1.2.2.2.2.2.2.2.2.2.2.2.2.2.2.2.2.2.1),(.i .i64 x1.2.2.2.2.2.2.2.2.2.2.2.2.2.2.2.2.2.2.1),(.i .i64 x1.2.2.2.2.2.2.2.2.2.2.2.2.2.2.2.2.2.2.2)])) fun x8 => (some (x8 == 160))) else (some false))) else (some false)) else none) else none)) else none) else (some false)) else (some false)) else (some false))) else (some false))) else (some false))) else (some false))))))
theorem e187 : evalF (C79 u) u A13 [] = ob (F187 u) fun t => some [.v (.b t)] := Eq.trans (b := (ob (F169 u (ByteArray.mk #[80]) 20) fun x0 => (ob (F169 u (ByteArray.mk #[81]) 20) fun x1 => (ob (F175 u (ByteArray.mk #[83]) 5 2 (rowsF 5 [(.s (ByteArray.mk #[80])),(vi 5),(vi 5),(vi 0),(.b false),(.s (ByteArray.mk #[81])),(vi 30),(vi 5),(vi 0),(.b false)]) 2 (rowsF 18 [(.s x0.1),(vi x0.2.1),(vi x0.2.2.1),(.s x0.2.2.2.1),(.s x0.2.2.2.2.1),(vi x0.2.2.2.2.2.1),(ro kP x0.2.2.2.2.2.2.1 x0.2.2.2.2.2.2.2.1),(ro (.pr (.sl kP) .nil) x0.2.2.2.2.2.2.2.2.1 x0.2.2.2.2.2.2.2.2.2.1),(.s x0.2.2.2.2.2.2.2.2.2.2.1),(vi x0.2.2.2.2.2.2.2.2.2.2.2.1),(vi x0.2.2.2.2.2.2.2.2.2.2.2.2.1),(vi x0.2.2.2.2.2.2.2.2.2.2.2.2.2.1),(vi x0.2.2.2.2.2.2.2.2.2.2.2.2.2.2.1),(vi x0.2.2.2.2.2.2.2.2.2.2.2.2.2.2.2.1),(vi x0.2.2.2.2.2.2.2.2.2.2.2.2.2.2.2.2.1),(vi x0.2.2.2.2.2.2.2.2.2.2.2.2.2.2.2.2.2.1),(vi x0.2.2.2.2.2.2.2.2.2.2.2.2.2.2.2.2.2.2.1),(vi x0.2.2.2.2.2.2.2.2.2.2.2.2.2.2.2.2.2.2.2),(.s x1.1),(vi x1.2.1),(vi x1.2.2.1),(.s x1.2.2.2.1),(.s x1.2.2.2.2.1),(vi x1.2.2.2.2.2.1),(ro kP x1.2.2.2.2.2.2.1 x1.2.2.2.2.2.2.2.1),(ro (.pr (.sl kP) .nil) x1.2.2.2.2.2.2.2.2.1 x1.2.2.2.2.2.2.2.2.2.1),(.s x1.2.2.2.2.2.2.2.2.2.2.1),(vi x1.2.2.2.2.2.2.2.2.2.2.2.1),(vi x1.2.2.2.2.2.2.2.2.2.2.2.2.1),(vi x1.2.2.2.2.2.2.2.2.2.2.2.2.2.1),(vi x1.2.2.2.2.2.2.2.2.2.2.2.2.2.2.1),(vi x1.2.2.2.2.2.2.2.2.2.2.2.2.2.2.2.1),(vi x1.2.2.2.2.2.2.2.2.2.2.2.2.2.2.2.2.1),(vi x1.2.2.2.2.2.2.2.2.2.2.2.2.2.2.2.2.2.1),(vi x1.2.2.2.2.2.2.2.2.2.2.2.2.2.2.2.2.2.2.1),(vi x1.2.2.2.2.2.2.2.2.2.2.2.2.2.2.2.2.2.2.2)])) fun x2 => (ob (F182 u (ByteArray.mk #[83]) 5 2 (rowsF 5 [(.s (ByteArray.mk #[80])),(vi 5),(vi 5),(vi 0),(.b false),(.s (ByteArray.mk #[81])),(vi 30),(vi 5),(vi 0),(.b false)]) (ByteArray.mk #[83]) (ByteArray.mk #[65]) 10 100 50 (ByteArray.mk #[72]) 2 (rowsF 18 [(.s x0.1),(vi x0.2.1),(vi x0.2.2.1),(.s x0.2.2.2.1),(.s x0.2.2.2.2.1),(vi x0.2.2.2.2.2.1),(ro kP x0.2.2.2.2.2.2.1 x0.2.2.2.2.2.2.2.1),(ro (.pr (.sl kP) .nil) x0.2.2.2.2.2.2.2.2.1 x0.2.2.2.2.2.2.2.2.2.1),(.s x0.2.2.2.2.2.2.2.2.2.2.1),(vi x0.2.2.2.2.2.2.2.2.2.2.2.1),(vi x0.2.2.2.2.2.2.2.2.2.2.2.2.1),(vi x0.2.2.2.2.2.2.2.2.2.2.2.2.2.1),(vi x0.2.2.2.2.2.2.2.2.2.2.2.2.2.2.1),(vi x0.2.2.2.2.2.2.2.2.2.2.2.2.2.2.2.1),(vi x0.2.2.2.2.2.2.2.2.2.2.2.2.2.2.2.2.1),(vi x0.2.2.2.2.2.2.2.2.2.2.2.2.2.2.2.2.2.1),(vi x0.2.2.2.2.2.2.2.2.2.2.2.2.2.2.2.2.2.2.1),(vi x0.2.2.2.2.2.2.2.2.2.2.2.2.2.2.2.2.2.2.2),(.s x1.1),(vi x1.2.1),(vi x1.2.2.1),(.s x1.2.2.2.1),(.s x1.2.2.2.2.1),(vi x1.2.2.2.2.2.1),(ro kP x1.2.2.2.2.2.2.1 x1.2.2.2.2.2.2.2.1),(ro (.pr (.sl kP) .nil) x1.2.2.2.2.2.2.2.2.1 x1.2.2.2.2.2.2.2.2.2.1),(.s x1.2.2.2.2.2.2.2.2.2.2.1),(vi x1.2.2.2.2.2.2.2.2.2.2.2.1),(vi x1.2.2.2.2.2.2.2.2.2.2.2.2.1),(vi x1.2.2.2.2.2.2.2.2.2.2.2.2.2.1),(vi x1.2.2.2.2.2.2.2.2.2.2.2.2.2.2.1),(vi x1.2.2.2.2.2.2.2.2.2.2.2.2.2.2.2.1),(vi x1.2.2.2.2.2.2.2.2.2.2.2.2.2.2.2.2.1),(vi x1.2.2.2.2.2.2.2.2.2.2.2.2.2.2.2.2.2.1),(vi x1.2.2.2.2.2.2.2.2.2.2.2.2.2.2.2.2.2.2.1),(vi x1.2.2.2.2.2.2.2.2.2.2.2.2.2.2.2.2.2.2.2)])) fun x3 => (bif ((x3 != 0) == false) then (ob (F182 u (ByteArray.mk #[83]) 6 2 (rowsF 5 [(.s (ByteArray.mk #[80])),(vi 5),(vi 5),(vi 0),(.b false),(.s (ByteArray.mk #[81])),(vi 30),(vi 5),(vi 0),(.b false)]) (ByteArray.mk #[83]) (ByteArray.mk #[65]) 10 100 50 (ByteArray.mk #[72]) 2 (rowsF 18 [(.s x0.1),(vi x0.2.1),(vi x0.2.2.1),(.s x0.2.2.2.1),(.s x0.2.2.2.2.1),(vi x0.2.2.2.2.2.1),(ro kP x0.2.2.2.2.2.2.1 x0.2.2.2.2.2.2.2.1),(ro (.pr (.sl kP) .nil) x0.2.2.2.2.2.2.2.2.1 x0.2.2.2.2.2.2.2.2.2.1),(.s x0.2.2.2.2.2.2.2.2.2.2.1),(vi x0.2.2.2.2.2.2.2.2.2.2.2.1),(vi x0.2.2.2.2.2.2.2.2.2.2.2.2.1),(vi x0.2.2.2.2.2.2.2.2.2.2.2.2.2.1),(vi x0.2.2.2.2.2.2.2.2.2.2.2.2.2.2.1),(vi x0.2.2.2.2.2.2.2.2.2.2.2.2.2.2.2.1),(vi x0.2.2.2.2.2.2.2.2.2.2.2.2.2.2.2.2.1),(vi x0.2.2.2.2.2.2.2.2.2.2.2.2.2.2.2.2.2.1),(vi x0.2.2.2.2.2.2.2.2.2.2.2.2.2.2.2.2.2.2.1),(vi x0.2.2.2.2.2.2.2.2.2.2.2.2.2.2.2.2.2.2.2),(.s x1.1),(vi x1.2.1),(vi x1.2.2.1),(.s x1.2.2.2.1),(.s x1.2.2.2.2.1),(vi x1.2.2.2.2.2.1),(ro kP x1.2.2.2.2.2.2.1 x1.2.2.2.2.2.2.2.1),(ro (.pr (.sl kP) .nil) x1.2.2.2.2.2.2.2.2.1 x1.2.2.2.2.2.2.2.2.2.1),(.s x1.2.2.2.2.2.2.2.2.2.2.1),(vi x1.2.2.2.2.2.2.2.2.2.2.2.1),(vi x1.2.2.2.2.2.2.2.2.2.2.2.2.1),(vi x1.2.2.2.2.2.2.2.2.2.2.2.2.2.1),(vi x1.2.2.2.2.2.2.2.2.2.2.2.2.2.2.1),(vi x1.2.2.2.2.2.2.2.2.2.2.2.2.2.2.2.1),(vi x1.2.2.2.2.2.2.2.2.2.2.2.2.2.2.2.2.1),(vi x1.2.2.2.2.2.2.2.2.2.2.2.2.2.2.2.2.2.1),(vi x1.2.2.2.2.2.2.2.2.2.2.2.2.2.2.2.2.2.2.1),(vi x1.2.2.2.2.2.2.2.2.2.2.2.2.2.2.2.2.2.2.2)])) fun x4 => (bif ((x4 != 18) == false) then (ob (F182 u (ByteArray.mk #[83]) 5 2 (rowsF 5 [(.s (CV.str ((rowsF 5 [(.s (ByteArray.mk #[80])),(vi 5),(vi 5),(vi 0),(.b false),(.s (ByteArray.mk #[81])),(vi 30),(vi 5),(vi 0),(.b false)]) 0 0))),(vi (CV.int ((rowsF 5 [(.s (ByteArray.mk #[80])),(vi 5),(vi 5),(vi 0),(.b false),(.s (ByteArray.mk #[81])),(vi 30),(vi 5),(vi 0),(.b false)]) 0 1))),(vi (CV.int ((rowsF 5 [(.s (ByteArray.mk #[80])),(vi 5),(vi 5),(vi 0),(.b false),(.s (ByteArray.mk #[81])),(vi 30),(vi 5),(vi 0),(.b false)]) 0 2))),(vi (CV.int ((rowsF 5 [(.s (ByteArray.mk #[80])),(vi 5),(vi 5),(vi 0),(.b false),(.s (ByteArray.mk #[81])),(vi 30),(vi 5),(vi 0),(.b false)]) 0 3))),(.b (CV.bool ((rowsF 5 [(.s (ByteArray.mk #[80])),(vi 5),(vi 5),(vi 0),(.b false),(.s (ByteArray.mk #[81])),(vi 30),(vi 5),(vi 0),(.b false)]) 0 4))),(.s (ByteArray.mk #[80])),(vi 60),(vi 5),(vi 0),(.b false)]) (ByteArray.mk #[83]) (ByteArray.mk #[65]) 10 100 50 (ByteArray.mk #[72]) 2 (rowsF 18 [(.s x0.1),(vi x0.2.1),(vi x0.2.2.1),(.s x0.2.2.2.1),(.s x0.2.2.2.2.1),(vi x0.2.2.2.2.2.1),(ro kP x0.2.2.2.2.2.2.1 x0.2.2.2.2.2.2.2.1),(ro (.pr (.sl kP) .nil) x0.2.2.2.2.2.2.2.2.1 x0.2.2.2.2.2.2.2.2.2.1),(.s x0.2.2.2.2.2.2.2.2.2.2.1),(vi x0.2.2.2.2.2.2.2.2.2.2.2.1),(vi x0.2.2.2.2.2.2.2.2.2.2.2.2.1),(vi x0.2.2.2.2.2.2.2.2.2.2.2.2.2.1),(vi x0.2.2.2.2.2.2.2.2.2.2.2.2.2.2.1),(vi x0.2.2.2.2.2.2.2.2.2.2.2.2.2.2.2.1),(vi x0.2.2.2.2.2.2.2.2.2.2.2.2.2.2.2.2.1),(vi x0.2.2.2.2.2.2.2.2.2.2.2.2.2.2.2.2.2.1),(vi x0.2.2.2.2.2.2.2.2.2.2.2.2.2.2.2.2.2.2.1),(vi x0.2.2.2.2.2.2.2.2.2.2.2.2.2.2.2.2.2.2.2),(.s x1.1),(vi x1.2.1),(vi x1.2.2.1),(.s x1.2.2.2.1),(.s x1.2.2.2.2.1),(vi x1.2.2.2.2.2.1),(ro kP x1.2.2.2.2.2.2.1 x1.2.2.2.2.2.2.2.1),(ro (.pr (.sl kP) .nil) x1.2.2.2.2.2.2.2.2.1 x1.2.2.2.2.2.2.2.2.2.1),(.s x1.2.2.2.2.2.2.2.2.2.2.1),(vi x1.2.2.2.2.2.2.2.2.2.2.2.1),(vi x1.2.2.2.2.2.2.2.2.2.2.2.2.1),(vi x1.2.2.2.2.2.2.2.2.2.2.2.2.2.1),(vi x1.2.2.2.2.2.2.2.2.2.2.2.2.2.2.1),(vi x1.2.2.2.2.2.2.2.2.2.2.2.2.2.2.2.1),(vi x1.2.2.2.2.2.2.2.2.2.2.2.2.2.2.2.2.1),(vi x1.2.2.2.2.2.2.2.2.2.2.2.2.2.2.2.2.2.1),(vi x1.2.2.2.2.2.2.2.2.2.2.2.2.2.2.2.2.2.2.1),(vi x1.2.2.2.2.2.2.2.2.2.2.2.2.2.2.2.2.2.2.2)])) fun x5 => (bif ((x5 != 7) == false) then (ob (F182 u ByteArray.empty 5 2 (rowsF 5 [(.s (CV.str ((rowsF 5 [(.s (ByteArray.mk #[80])),(vi 5),(vi 5),(vi 0),(.b false),(.s (ByteArray.mk #[81])),(vi 30),(vi 5),(vi 0),(.b false)]) 0 0))),(vi (CV.int ((rowsF 5 [(.s (ByteArray.mk #[80])),(vi 5),(vi 5),(vi 0),(.b false),(.s (ByteArray.mk #[81])),(vi 30),(vi 5),(vi 0),(.b false)]) 0 1))),(vi (CV.int ((rowsF 5 [(.s (ByteArray.mk #[80])),(vi 5),(vi 5),(vi 0),(.b false),(.s (ByteArray.mk #[81])),(vi 30),(vi 5),(vi 0),(.b false)]) 0 2))),(vi (CV.int ((rowsF 5 [(.s (ByteArray.mk #[80])),(vi 5),(vi 5),(vi 0),(.b false),(.s (ByteArray.mk #[81])),(vi 30),(vi 5),(vi 0),(.b false)]) 0 3))),(.b (CV.bool ((rowsF 5 [(.s (ByteArray.mk #[80])),(vi 5),(vi 5),(vi 0),(.b false),(.s (ByteArray.mk #[81])),(vi 30),(vi 5),(vi 0),(.b false)]) 0 4))),(.s (ByteArray.mk #[81])),(vi 29),(vi 5),(vi 0),(.b false)]) (ByteArray.mk #[83]) (ByteArray.mk #[65]) 10 100 50 (ByteArray.mk #[72]) 2 (rowsF 18 [(.s x0.1),(vi x0.2.1),(vi x0.2.2.1),(.s x0.2.2.2.1),(.s x0.2.2.2.2.1),(vi x0.2.2.2.2.2.1),(ro kP x0.2.2.2.2.2.2.1 x0.2.2.2.2.2.2.2.1),(ro (.pr (.sl kP) .nil) x0.2.2.2.2.2.2.2.2.1 x0.2.2.2.2.2.2.2.2.2.1),(.s x0.2.2.2.2.2.2.2.2.2.2.1),(vi x0.2.2.2.2.2.2.2.2.2.2.2.1),(vi x0.2.2.2.2.2.2.2.2.2.2.2.2.1),(vi x0.2.2.2.2.2.2.2.2.2.2.2.2.2.1),(vi x0.2.2.2.2.2.2.2.2.2.2.2.2.2.2.1),(vi x0.2.2.2.2.2.2.2.2.2.2.2.2.2.2.2.1),(vi x0.2.2.2.2.2.2.2.2.2.2.2.2.2.2.2.2.1),(vi x0.2.2.2.2.2.2.2.2.2.2.2.2.2.2.2.2.2.1),(vi x0.2.2.2.2.2.2.2.2.2.2.2.2.2.2.2.2.2.2.1),(vi x0.2.2.2.2.2.2.2.2.2.2.2.2.2.2.2.2.2.2.2),(.s x1.1),(vi x1.2.1),(vi x1.2.2.1),(.s x1.2.2.2.1),(.s x1.2.2.2.2.1),(vi x1.2.2.2.2.2.1),(ro kP x1.2.2.2.2.2.2.1 x1.2.2.2.2.2.2.2.1),(ro (.pr (.sl kP) .nil) x1.2.2.2.2.2.2.2.2.1 x1.2.2.2.2.2.2.2.2.2.1),(.s x1.2.2.2.2.2.2.2.2.2.2.1),(vi x1.2.2.2.2.2.2.2.2.2.2.2.1),(vi x1.2.2.2.2.2.2.2.2.2.2.2.2.1),(vi x1.2.2.2.2.2.2.2.2.2.2.2.2.2.1),(vi x1.2.2.2.2.2.2.2.2.2.2.2.2.2.2.1),(vi x1.2.2.2.2.2.2.2.2.2.2.2.2.2.2.2.1),(vi x1.2.2.2.2.2.2.2.2.2.2.2.2.2.2.2.2.1),(vi x1.2.2.2.2.2.2.2.2.2.2.2.2.2.2.2.2.2.1),(vi x1.2.2.2.2.2.2.2.2.2.2.2.2.2.2.2.2.2.2.1),(vi x1.2.2.2.2.2.2.2.2.2.2.2.2.2.2.2.2.2.2.2)])) fun x6 => (bif ((x6 != 19) == false) then (bif ((x2.2.2 != 0) == false) then (bif (((Int.ofNat x2.1) != 2) == false) then (bif (inb 1 x2.1) then (bif ((Int.ofNat (x2.2.1 1 0).len) != 4) then (some [.v (.b false)]) else (bif (inb 1 x2.1) then (bif (inb 0 (x2.2.1 1 0).len) then (bif (((((x2.2.1 1 0).el 0 0).int == 30) && ((((x2.2.1 1 0).el 0 1).int == 5) && true)) == true) then (ob (F183 u (ByteArray.mk #[83]) 5 2 (rowsF 5 [(.s (ByteArray.mk #[80])),(vi 5),(vi 5),(vi 0),(.b false),(.s (ByteArray.mk #[81])),(vi 30),(vi 5),(vi 0),(.b false)]) 2 (rowsF 18 [(.s x0.1),(vi x0.2.1),(vi x0.2.2.1),(.s x0.2.2.2.1),(.s x0.2.2.2.2.1),(vi x0.2.2.2.2.2.1),(ro kP x0.2.2.2.2.2.2.1 x0.2.2.2.2.2.2.2.1),(ro (.pr (.sl kP) .nil) x0.2.2.2.2.2.2.2.2.1 x0.2.2.2.2.2.2.2.2.2.1),(.s x0.2.2.2.2.2.2.2.2.2.2.1),(vi x0.2.2.2.2.2.2.2.2.2.2.2.1),(vi x0.2.2.2.2.2.2.2.2.2.2.2.2.1),(vi x0.2.2.2.2.2.2.2.2.2.2.2.2.2.1),(vi x0.2.2.2.2.2.2.2.2.2.2.2.2.2.2.1),(vi x0.2.2.2.2.2.2.2.2.2.2.2.2.2.2.2.1),(vi x0.2.2.2.2.2.2.2.2.2.2.2.2.2.2.2.2.1),(vi x0.2.2.2.2.2.2.2.2.2.2.2.2.2.2.2.2.2.1),(vi x0.2.2.2.2.2.2.2.2.2.2.2.2.2.2.2.2.2.2.1),(vi x0.2.2.2.2.2.2.2.2.2.2.2.2.2.2.2.2.2.2.2),(.s x1.1),(vi x1.2.1),(vi x1.2.2.1),(.s x1.2.2.2.1),(.s x1.2.2.2.2.1),(vi x1.2.2.2.2.2.1),(ro kP x1.2.2.2.2.2.2.1 x1.2.2.2.2.2.2.2.1),(ro (.pr (.sl kP) .nil) x1.2.2.2.2.2.2.2.2.1 x1.2.2.2.2.2.2.2.2.2.1),(.s x1.2.2.2.2.2.2.2.2.2.2.1),(vi x1.2.2.2.2.2.2.2.2.2.2.2.1),(vi x1.2.2.2.2.2.2.2.2.2.2.2.2.1),(vi x1.2.2.2.2.2.2.2.2.2.2.2.2.2.1),(vi x1.2.2.2.2.2.2.2.2.2.2.2.2.2.2.1),(vi x1.2.2.2.2.2.2.2.2.2.2.2.2.2.2.2.1),(vi x1.2.2.2.2.2.2.2.2.2.2.2.2.2.2.2.2.1),(vi x1.2.2.2.2.2.2.2.2.2.2.2.2.2.2.2.2.2.1),(vi x1.2.2.2.2.2.2.2.2.2.2.2.2.2.2.2.2.2.2.1),(vi x1.2.2.2.2.2.2.2.2.2.2.2.2.2.2.2.2.2.2.2)])) fun x7 => (bif ((x7 == 1600) == true) then (ob (F186 u (ByteArray.mk #[83]) 5 2 (rowsF 5 [(.s (ByteArray.mk #[80])),(vi 5),(vi 5),(vi 0),(.b false),(.s (ByteArray.mk #[81])),(vi 30),(vi 5),(vi 0),(.b false)]) (ByteArray.mk #[83]) (ByteArray.mk #[65]) 10 100 50 (ByteArray.mk #[72]) 2 (rowsF 18 [(.s x0.1),(vi x0.2.1),(vi x0.2.2.1),(.s x0.2.2.2.1),(.s x0.2.2.2.2.1),(vi x0.2.2.2.2.2.1),(ro kP x0.2.2.2.2.2.2.1 x0.2.2.2.2.2.2.2.1),(ro (.pr (.sl kP) .nil) x0.2.2.2.2.2.2.2.2.1 x0.2.2.2.2.2.2.2.2.2.1),(.s x0.2.2.2.2.2.2.2.2.2.2.1),(vi x0.2.2.2.2.2.2.2.2.2.2.2.1),(vi x0.2.2.2.2.2.2.2.2.2.2.2.2.1),(vi x0.2.2.2.2.2.2.2.2.2.2.2.2.2.1),(vi x0.2.2.2.2.2.2.2.2.2.2.2.2.2.2.1),(vi x0.2.2.2.2.2.2.2.2.2.2.2.2.2.2.2.1),(vi x0.2.2.2.2.2.2.2.2.2.2.2.2.2.2.2.2.1),(vi x0.2.2.2.2.2.2.2.2.2.2.2.2.2.2.2.2.2.1),(vi x0.2.2.2.2.2.2.2.2.2.2.2.2.2.2.2.2.2.2.1),(vi x0.2.2.2.2.2.2.2.2.2.2.2.2.2.2.2.2.2.2.2),(.s x1.1),(vi x1.2.1),(vi x1.2.2.1),(.s x1.2.2.2.1),(.s x1.2.2.2.2.1),(vi x1.2.2.2.2.2.1),(ro kP x1.2.2.2.2.2.2.1 x1.2.2.2.2.2.2.2.1),(ro (.pr (.sl kP) .nil) x1.2.2.2.2.2.2.2.2.1 x1.2.2.2.2.2.2.2.2.2.1),(.s x1.2.2.2.2.2.2.2.2.2.2.1),(vi x1.2.2.2.2.2.2.2.2.2.2.2.1),(vi x1.2.2.2.2.2.2.2.2.2.2.2.2.1),(vi x1.2.2.2.2.2.2.2.2.2.2.2.2.2.1),(vi x1.2.2.2.2.2.2.2.2.2.2.2.2.2.2.1),(vi x1.2.2.2.2.2.2.2.2.2.2.2.2.2.2.2.1),(vi x1.2.2.2.2.2.2.2.2.2.2.2.2.2.2.2.2.1),(vi x1.2.2.2.2.2.2.2.2.2.2.2.2.2.2.2.2.2.1),(vi x1.2.2.2.2.2.2.2.2.2.2.2.2.2.2.2.2.2.2.1),(vi x1.2.2.2.2.2.2.2.2.2.2.2.2.2.2.2.2.2.2.2)])) fun x8 => (some [.v (.b (x8 == 160))])) else (some [.v (.b false)]))) else (some [.v (.b false)])) else none) else none)) else none) else (some [.v (.b false)])) else (some [.v (.b false)])) else (some [.v (.b false)]))) else (some [.v (.b false)]))) else (some [.v (.b false)]))) else (some [.v (.b false)]))))))) (by kernel_rfl) (by
 simp only [F187,ob_bif,ob_ob,ob_none,ob_some])
def O187 : Ora := mkO q0 (fun x => F187 u) fun t => [.v (.b t)]
theorem d187 : DO (O187 u) (C79 u) 13 A13 := dO u (fun x => by exact e187 u)
def C80 : Oracle := (C79 u).add 13 (fun _ => true) (O187 u)
def A15v1 : AC := (.region 10 [mv 33 6,mv 34 1,mv 35 8,o1 36 (.indexAddr 27 56 18 (tm 34) (tm 35)),o1 37 (fa 56 36 6 6),o1 38 (ln 50 2 37),o1 39 (fa 24 2 2 2),o1 40 (lo 22 39),mv 41 7,o1 42 (.indexAddr 22 43 5 (tm 40) (tm 41)),o1 43 (ln 43 5 42),o1 44 (cf 36 [38,43] [50,43]),o1 45 (.buildSlice 0 34 50 kF 1 [vcn,vcn] [(0,(tm 44))]),o1 46 (.append 1 34 50 kF 48 (tm 33) (tm 45)),o1 6 (sg 46)] 2 (some [[],[],[],[1,2],[1,2,3],(rl 1 4 []),[],[6],[],[6,7,8],(rl 6 4 []),(rl 1 10 []),(rl 1 11 []),(rl 0 13 []),(rl 0 14 [])]))
def A15v2 : AC := (.seq (.seq (.region 8 [o1 26 (fa 24 2 2 2),o1 27 (lo 22 26),mv 28 7,o1 29 (.indexAddr 22 43 5 (tm 27) (tm 28)),o1 30 (ln 43 5 29),o1 31 (cs 35 [30] [43]),o1 32 (.unOp .not 4 (tm 31))] 0 none) []
 (.cond (tm 32)
 (.seq (.region 9 [o1 4 (.assign (.const (.slice none 0 0))),o1 5 (sk 9)] 0 none) []
  (.ghost [0,1] (.ret (rl 0 4 (rl 6 42 [])))))
 .skip)) (4 :: 5 :: (rl 26 7 []))
 A15v1)
def A15v3 : AC := (.region 4 [mv 14 7,o1 15 (bk .add 3 14 1),o1 7 (sg 15)] 0 none)
def A15v4 : AC := (.seq (.block 1
 (.seq (.region 5 [mv 16 1,o1 17 (fa 24 2 2 2),o1 18 (lo 22 17),mv 19 7,o1 20 (.indexAddr 22 43 5 (tm 18) (tm 19)),o1 21 (fa 43 20 0 0),o1 22 (lo 9 21),o1 23 (cs 22 [16,22] [27,9]),o1 8 (sg 23)] 0 none) []
  (.seq (.seq (.region 6 [mv 24 8,o1 25 (bk .lss 3 24 0)] 0 none) []
  (.cond (tm 25)
  (.seq (.region 7 [o1 4 (.assign (.const (.slice none 0 0))),o1 5 (sk 8)] 0 none) []
   (.ghost [0,1] (.ret (rl 0 4 (rl 6 42 [])))))
  .skip)) [4,5,24,25]
  A15v2))) (4 :: 5 :: 8 :: (rl 16 31 []))
 A15v3)
def A15v5 : AC := (.seq (.seq (.region 3 [mv 9 7,o1 10 (fa 24 2 2 2),o1 11 (lo 22 10),o1 12 (.len 22 false (tm 11)),o1 13 (bt .lss 3 9 12)] 0 none) []
 (.cond (tm 13)
 .skip
 (.ghost [0] (.exit 0 (rl 0 6 (rl 7 41 [])))))) (rl 9 5 [])
 A15v4)
def A15v6 : AC := (.seq (.region 11 [mv 47 6,o1 4 (sg 47),o1 5 (sk 0)] 0 none) []
 (.ghost [0] (.ret (rl 0 4 (rl 6 42 [])))))
def A15 : AF := ⟨48,[.tmp 4,.tmp 5],
 (.seq (.region 0 [o1 2 (bx 0 24 0),o1 4 (.assign (.const (.slice none 0 0))),o1 5 (sk 0)] 1 none) []
 (.seq (.region 1 [o1 6 (.assign (.const (.slice none 0 0)))] 0 none) []
 (.seq (.seq (.region 2 [o1 7 (sk 0)] 0 none) []
 (.block 0
 (.loop [.slot 6 kF] (0 :: 3 :: 4 :: 5 :: (rl 8 40 []))
  A15v5))) (4 :: 5 :: (rl 7 40 []))
 A15v6)))⟩
def N189v1 : St → Option St := nN 2 (0 :: 3 :: 4 :: 5 :: (rl 8 40 []))
def s189v0 : St := ⟨(.u :: .x (.c (ro kA n0 f0)) :: .x (.ptr 0 0) :: (us 3 (.x (.own 1 0 n1) :: vxi i0 :: (us 40 [])))),[.box [(vcs w0),(vci i1),(.c (ro kE n2 f1))],.arr kF n1 f2]⟩
def s189v1 : St := ⟨(us 4 (.x (vcn) :: vxi i0 :: (us 42 []))),[.dead,.dead]⟩
def s189v2 : St := ⟨(us 6 (.x (.own 1 0 n0) :: (us 41 []))),[.dead,.arr kF n0 f0]⟩
def L189v1 {ρ : Type} (u : Nat) (x0 : Nat) (x1 : FF) (x2 : ByteArray) (x3 : Int) (x4 : Nat) (x5 : FF) : Nat → Nat → Int → FF → (Int → Option ρ) → (Nat → FF → Option ρ) → Option ρ
 | 0,_,_,_,_,_ => none
 | m + 1,x6,x7,x8,k0,k1 =>
  (bif (decide (x7 < (Int.ofNat x4))) then (bif (inb x7 x4) then (ob (F176 u x0 x1 (x5 x7.toNat 0).str) fun x9 => (bif (decide (x9 < 0)) then (k0 8) else (bif (inb x7 x4) then (ob (F178 u (x5 x7.toNat 0).str (x5 x7.toNat 1).int (x5 x7.toNat 2).int (x5 x7.toNat 3).int (x5 x7.toNat 4).bool) fun xA => (bif (!xA) then (k0 9) else (bif (inb x9 x0) then (bif (inb x7 x4) then (ob (F26 u (x1 x9.toNat 6).len (x1 x9.toNat 6).el (x1 x9.toNat 7).len (x1 x9.toNat 7).el (x5 x7.toNat 0).str (x5 x7.toNat 1).int (x5 x7.toNat 2).int (x5 x7.toNat 3).int (x5 x7.toNat 4).bool) fun xB => (bif (Nat.ble (x6 + 1) 1073741824) then (L189v1 u x0 x1 x2 x3 x4 x5 m (x6 + 1) (w64 (x7 + 1)) (joinF x6 x8 (rowsF 2 [(.ro false (.pr (.int .i64) (.pr (.int .i64) .nil)) xB.1 xB.2.1),(.ro false (.pr (.sl (.pr (.int .i64) (.pr (.int .i64) .nil))) .nil) xB.2.2.1 xB.2.2.2)])) k0 k1) else none)) else none) else none))) else none))) else none) else (k1 x6 x8))
theorem nl189v1 : ∀ (m : Nat) (x0 : Nat) (x1 : Int) (x2 : FF) (k0 : Int → Option ρ) (k1 : Nat → FF → Option ρ),ob (L189v1 u n0 f0 w0 i0 n1 f1 m x0 x1 x2 k0 k1) ng = L189v1 u n0 f0 w0 i0 n1 f1 m x0 x1 x2 (fun x3 => ob (k0 x3) ng) (fun x4 x5 => ob (k1 x4 x5) ng)
 | 0,_,_,_,_,_ => rfl
 | m + 1,x0,x1,x2,k0,k1 => by
  simp only [L189v1,ob_bif,ob_ob,ob_none,nl189v1 m]
theorem r189v1 :
  loopH (eB A15v5 (C80 u) u) N189v1 (m + 1) (s189v0 n0 n2 n1 f0 f1 f2 i1 i0 w0) k =
  (bif (decide (i1 < (Int.ofNat n1))) then (bif (inb i1 n1) then (ob (F176 u n0 f0 (f1 i1.toNat 0).str) fun x0 => (bif (decide (x0 < 0)) then (k .ret (s189v1 8)) else (bif (inb i1 n1) then (ob (F178 u (f1 i1.toNat 0).str (f1 i1.toNat 1).int (f1 i1.toNat 2).int (f1 i1.toNat 3).int (f1 i1.toNat 4).bool) fun x1 => (bif (!x1) then (k .ret (s189v1 9)) else (bif (inb x0 n0) then (bif (inb i1 n1) then (ob (F26 u (f0 x0.toNat 6).len (f0 x0.toNat 6).el (f0 x0.toNat 7).len (f0 x0.toNat 7).el (f1 i1.toNat 0).str (f1 i1.toNat 1).int (f1 i1.toNat 2).int (f1 i1.toNat 3).int (f1 i1.toNat 4).bool) fun x2 => (bif (Nat.ble (n2 + 1) 1073741824) then (loopH (eB A15v5 (C80 u) u) N189v1 m (s189v0 n0 (n2 + 1) n1 f0 f1 (joinF n2 f2 (rowsF 2 [(ro kP x2.1 x2.2.1),(ro (.pr (.sl kP) .nil) x2.2.2.1 x2.2.2.2)])) (w64 (i1 + 1)) i0 w0) k) else none)) else none) else none))) else none))) else none) else (k (.exit 0) (s189v2 n2 f2))) := by kernel_rfl
theorem q189v1 : ∀ (m : Nat) (x0 : Nat) (x1 : Int) (x2 : FF),
  loopH (eB A15v5 (C80 u) u) N189v1 m (s189v0 n0 x0 n1 f0 f1 x2 x1 i0 w0) k = L189v1 u n0 f0 w0 i0 n1 f1 m x0 x1 x2 (fun x3 => k .ret (s189v1 x3)) (fun x4 x5 => k (.exit 0) (s189v2 x4 x5))
 | 0,_,_,_ => rfl
 | m + 1,x0,x1,x2 => by
  rw [r189v1]
  simp only [L189v1,q189v1 m]
def FT189 (x0 : ByteArray) (x1 : Int) (x2 : Nat) (x3 : FF) (x4 : Nat) (x5 : FF) : Option (Bool × Nat × FF × Int) :=
 (L189v1 u x4 x5 x0 x1 x2 x3 u 0 0 (fun _ _ => .any)
  (fun x6 => (some (true,0,(fun _ _ => .any),x6)))
  (fun x7 x8 => (some (false,x7,x8,0))))
def s189v3 : St := ⟨[.agg [(vcs w0),(vci i0),(.c (ro kE n0 f0))],.x (.c (ro kA n1 f1)),.x (.ptr 0 0),uu,.x (vcn),vxi 0,.x (.own 1 0 0),vxi 0,uu,uu,uu,uu,uu,uu,uu,uu,uu,uu,uu,uu,uu,uu,uu,uu,uu,uu,uu,uu,uu,uu,uu,uu,uu,uu,uu,uu,uu,uu,uu,uu,uu,uu,uu,uu,uu,uu,uu,uu],[.box [(vcs w0),(vci i0),(.c (ro kE n0 f0))],.arr kF 0 nilF]⟩
theorem t189v1 :
  loopN (eB A15v5 (C80 u) u) N189v1 u (s189v3 n0 n1 f0 f1 i0 w0) k =
  L189v1 u n1 f1 w0 i0 n0 f0 u 0 0 nilF (fun x0 => k .ret (s189v1 x0)) (fun x1 x2 => k (.exit 0) (s189v2 x1 x2)) :=
 Eq.trans (loopN_at (by kernel_rfl)) (q189v1 ..)
theorem g189v2 :
  (kBlk 0 (kSeq (C80 u) u (4 :: 5 :: (rl 7 40 [])) A15v6 (finish A15))) .ret (s189v1 i0) =
  (some [.v (.ro true .nil 0 nilF),.v (vi i0)]) := by kernel_rfl
theorem g189v3 :
  (kBlk 0 (kSeq (C80 u) u (4 :: 5 :: (rl 7 40 [])) A15v6 (finish A15))) (.exit 0) (s189v2 n0 f0) =
  (some [.v (ro kF n0 f0),.v (vi 0)]) := by kernel_rfl
theorem e189 : evalF (C80 u) u A15 [.agg [(.s w0),(vi i0),(ro kE n0 f0)],.v (ro kA n1 f1)] = ob (FT189 u w0 i0 n0 f0 n1 f1) fun t => some (bif t.1 then [.v (.ro true .nil 0 nilF),.v (vi t.2.2.2)] else [.v (ro kF t.2.1 t.2.2.1),.v (vi 0)]) := Eq.trans (b := (loopN (eB A15v5 (C80 u) u) N189v1 u (s189v3 n0 n1 f0 f1 i0 w0) (kBlk 0 (kSeq (C80 u) u (4 :: 5 :: (rl 7 40 [])) A15v6 (finish A15))))) (by kernel_rfl) (by
 simp only [FT189,ob_bif,ob_ob,ob_none,ob_some,nl189v1,t189v1,g189v2,g189v3,cond_true,cond_false])
def F189 (x0 : ByteArray) (x1 : Int) (x2 : Nat) (x3 : FF) (x4 : Nat) (x5 : FF) : Option (Nat × FF × Int) := ob (FT189 u x0 x1 x2 x3 x4 x5) fun t => some (bif t.1 then (0,(fun _ _ => .any),t.2.2.2) else (t.2.1,t.2.2.1,0))
def O189 : Ora := mkO (qc (ag (tc cS (tc ci (t1 (cL kE))))) (q1 (av (cL kA)))) (fun x => F189 u x.1.1 x.1.2.1 x.1.2.2.1 x.1.2.2.2 x.2.1 x.2.2) fun t => [.v (ro kF t.1 t.2.1),.v (vi t.2.2)]
theorem d189 : DO (O189 u) (C80 u) 15 A15 := dW u (fun x => by exact e189 u x.1.2.2.1 x.2.1 x.1.2.2.2 x.2.2 x.1.2.1 x.1.1) (fun _ => rfl) fun t => by
 obtain ⟨b,t⟩ := t
 cases b with
 | true => exact (.cons (WkA.v (Wk.ro (by rfl))) (.cons (WkA.v (Wk.refl _)) .nil))
 | false =>
  exact (.cons (WkA.v (Wk.refl _)) (.cons (WkA.v (Wk.refl _)) .nil))
def C81 : Oracle := (C80 u).add 15 (fun _ => true) (O189 u)
def A37v1 : AC := (.region 5 [mv 15 5,o1 16 (bk .add 3 15 1),o1 5 (sg 16)] 0 none)
def A37v2 : AC := (.seq (.block 1
 (.seq (.region 6 [mv 17 0,mv 18 5,o1 19 (.indexAddr 47 41 2 (tm 17) (tm 18)),o1 20 (ln 41 2 19),mv 21 1,mv 22 5,o1 23 (.indexAddr 47 41 2 (tm 21) (tm 22)),o1 24 (ln 41 2 23),o1 25 (.eqA true kP 41 (tm 20) (tm 24) 41)] 0 (some [[],[],[0,1],[0,1,2],[],[],[4,5],[4,5,6],(rl 0 8 [])])) []
  (.cond (tm 25)
  (.seq (.region 7 [o1 4 (sb false)] 0 none) []
   (.ret (rl 0 4 (rl 5 21 []))))
  .skip))) (4 :: (rl 17 9 []))
 A37v1)
def A37v3 : AC := (.seq (.seq (.region 4 [mv 11 5,mv 12 0,o1 13 (.len 47 false (tm 12)),o1 14 (bt .lss 3 11 13)] 0 none) []
 (.cond (tm 14)
 .skip
 (.exit 0 (rl 0 26 [])))) (rl 11 4 [])
 A37v2)
def A37v4 : AC := (.seq (.region 8 [o1 4 (sb true)] 0 none) []
 (.ret (rl 0 4 (rl 5 21 []))))
def A37v5 : AC := (.seq (.seq (.region 3 [o1 5 (sk 0)] 0 none) []
 (.block 0
 (.loop [] (2 :: 3 :: 4 :: (rl 6 20 []))
  A37v3))) (4 :: 5 :: (rl 11 15 []))
 A37v4)
def A37 : AF := ⟨26,[.tmp 4],
 (.seq (.region 0 [o1 4 (sb false)] 0 none) []
 (.seq (.seq (.region 1 [mv 6 0,o1 7 (.len 47 false (tm 6)),mv 8 1,o1 9 (.len 47 false (tm 8)),o1 10 (bt .neq 3 7 9)] 0 none) []
 (.cond (tm 10)
 (.seq (.region 2 [o1 4 (sb false)] 0 none) []
  (.ret (rl 0 4 (rl 5 21 []))))
 .skip)) (4 :: (rl 6 5 []))
 A37v5))⟩
def N190v1 : St → Option St := nN 0 (2 :: 3 :: 4 :: (rl 6 20 []))
def s190v0 : St := ⟨(.x (.c (ro kP n0 f0)) :: .x (.c (ro kP n1 f1)) :: (us 3 (vxi i0 :: (us 20 [])))),[]⟩
def s190v1 : St := ⟨(us 4 (vxb false :: (us 21 []))),[]⟩
def s190v2 : St := ⟨(us 26 []),[]⟩
def L190v1 {ρ : Type} (u : Nat) (x0 : Nat) (x1 : FF) (x2 : Nat) (x3 : FF) : Nat → Int → (Option ρ) → (Option ρ) → Option ρ
 | 0,_,_,_ => none
 | m + 1,x4,k0,k1 =>
  (bif (decide (x4 < (Int.ofNat x0))) then (bif (inb x4 x0) then (bif (inb x4 x2) then (bif (!(((x1 x4.toNat 0).int == (x3 x4.toNat 0).int) && (((x1 x4.toNat 1).int == (x3 x4.toNat 1).int) && true))) then k0 else (L190v1 u x0 x1 x2 x3 m (w64 (x4 + 1)) k0 k1)) else none) else none) else k1)
theorem nl190v1 : ∀ (m : Nat) (x0 : Int) (k0 : Option ρ) (k1 : Option ρ),ob (L190v1 u n0 f0 n1 f1 m x0 k0 k1) ng = L190v1 u n0 f0 n1 f1 m x0 (ob k0 ng) (ob k1 ng)
 | 0,_,_,_ => rfl
 | m + 1,x0,k0,k1 => by
  simp only [L190v1,ob_bif,ob_ob,ob_none,nl190v1 m]
theorem r190v1 :
  loopH (eB A37v3 (C81 u) u) N190v1 (m + 1) (s190v0 n0 n1 f0 f1 i0) k =
  (bif (decide (i0 < (Int.ofNat n0))) then (bif (inb i0 n0) then (bif (inb i0 n1) then (bif (!(((f0 i0.toNat 0).int == (f1 i0.toNat 0).int) && (((f0 i0.toNat 1).int == (f1 i0.toNat 1).int) && true))) then (k .ret s190v1) else (loopH (eB A37v3 (C81 u) u) N190v1 m (s190v0 n0 n1 f0 f1 (w64 (i0 + 1))) k)) else none) else none) else (k (.exit 0) s190v2)) := by kernel_rfl
theorem q190v1 : ∀ (m : Nat) (x0 : Int),
  loopH (eB A37v3 (C81 u) u) N190v1 m (s190v0 n0 n1 f0 f1 x0) k = L190v1 u n0 f0 n1 f1 m x0 (k .ret s190v1) (k (.exit 0) s190v2)
 | 0,_ => rfl
 | m + 1,x0 => by
  rw [r190v1]
  simp only [L190v1,q190v1 m]
def F190 (x0 : Nat) (x1 : FF) (x2 : Nat) (x3 : FF) : Option (Bool) :=
 (bif ((Int.ofNat x0) != (Int.ofNat x2)) then (some false) else (L190v1 u x0 x1 x2 x3 u 0
  (some false)
  (some true)))
def s190v3 : St := ⟨(.x (.c (ro kP n0 f0)) :: .x (.c (ro kP n1 f1)) :: uu :: uu :: .u :: vxi 0 :: (us 5 [uu,uu,uu,uu,uu,uu,uu,uu,uu,uu,uu,uu,uu,uu,uu])),[]⟩
theorem t190v1 :
  loopN (eB A37v3 (C81 u) u) N190v1 u (s190v3 n0 n1 f0 f1) k =
  L190v1 u n0 f0 n1 f1 u 0 (k .ret s190v1) (k (.exit 0) s190v2) :=
 Eq.trans (loopN_at (by kernel_rfl)) (q190v1 ..)
theorem g190v2 :
  (kBlk 0 (kSeq (C81 u) u (4 :: 5 :: (rl 11 15 [])) A37v4 (finish A37))) .ret s190v1 =
  (some [.v (.b false)]) := by kernel_rfl
theorem g190v3 :
  (kBlk 0 (kSeq (C81 u) u (4 :: 5 :: (rl 11 15 [])) A37v4 (finish A37))) (.exit 0) s190v2 =
  (some [.v (.b true)]) := by kernel_rfl
theorem e190 : evalF (C81 u) u A37 [.v (ro kP n0 f0),.v (ro kP n1 f1)] = ob (F190 u n0 f0 n1 f1) fun t => some [.v (.b t)] := Eq.trans (b := (bif ((Int.ofNat n0) != (Int.ofNat n1)) then (some [.v (.b false)]) else (loopN (eB A37v3 (C81 u) u) N190v1 u (s190v3 n0 n1 f0 f1) (kBlk 0 (kSeq (C81 u) u (4 :: 5 :: (rl 11 15 [])) A37v4 (finish A37)))))) (by kernel_rfl) (by
 simp only [F190,ob_bif,ob_ob,ob_none,ob_some,nl190v1,t190v1,g190v2,g190v3])
def O190 : Ora := mkO (qc (av (cL kP)) (q1 (av (cL kP)))) (fun x => F190 u x.1.1 x.1.2 x.2.1 x.2.2) fun t => [.v (.b t)]
theorem d190 : DO (O190 u) (C81 u) 37 A37 := dO u (fun x => by exact e190 u x.1.1 x.2.1 x.1.2 x.2.2)
def C82 : Oracle := (C81 u).add 37 (fun _ => true) (O190 u)
def A16v1 : AC := (.region 10 [mv 53 6,o1 54 (bk .add 3 53 1),o1 6 (sg 54)] 0 none)
def A16v2 : AC := (.seq (.block 3
 (.seq (.region 11 [mv 55 0,mv 56 5,o1 57 (.indexAddr 34 50 2 (tm 55) (tm 56)),o1 58 (fa 50 57 1 1),o1 59 (lo 48 58),mv 60 6,o1 61 (.indexAddr 48 47 1 (tm 59) (tm 60)),o1 62 (lo 47 61),mv 63 1,mv 64 5,o1 65 (.indexAddr 34 50 2 (tm 63) (tm 64)),o1 66 (fa 50 65 1 1),o1 67 (lo 48 66),mv 68 6,o1 69 (.indexAddr 48 47 1 (tm 67) (tm 68)),o1 70 (lo 47 69),o1 71 (cs 37 [62,70] [47,47]),o1 72 (.unOp .not 4 (tm 71))] 0 (some [[],[],[0,1],[0,1,2],(rl 0 4 []),[],(rl 0 6 []),(rl 0 7 []),[],[],[8,9],[8,9,10],(rl 8 4 []),[],(rl 8 6 []),(rl 8 7 []),(rl 0 16 []),(rl 0 17 [])])) []
  (.cond (tm 72)
  (.seq (.region 12 [o1 4 (sb false)] 0 none) []
   (.ret (rl 0 4 (rl 5 68 []))))
  .skip))) (4 :: (rl 55 18 []))
 A16v1)
def A16v3 : AC := (.seq (.seq (.region 9 [mv 45 6,mv 46 0,mv 47 5,o1 48 (.indexAddr 34 50 2 (tm 46) (tm 47)),o1 49 (fa 50 48 1 1),o1 50 (lo 48 49),o1 51 (.len 48 false (tm 50)),o1 52 (bt .lss 3 45 51)] 0 none) []
 (.cond (tm 52)
 .skip
 (.exit 2 (2 :: 3 :: 4 :: (rl 6 67 []))))) (rl 45 8 [])
 A16v2)
def A16v4 : AC := (.seq (.region 8 [o1 6 (sk 0)] 0 none) []
 (.block 2
 (.loop [] (2 :: 3 :: 4 :: (rl 7 66 []))
  A16v3)))
def A16v5 : AC := (.region 5 [mv 16 5,o1 17 (bk .add 3 16 1),o1 5 (sg 17)] 0 none)
def A16v6 : AC := (.seq (.block 1
 (.seq (.seq (.region 6 [mv 18 0,mv 19 5,o1 20 (.indexAddr 34 50 2 (tm 18) (tm 19)),o1 21 (fa 50 20 0 0),o1 22 (lo 47 21),mv 23 1,mv 24 5,o1 25 (.indexAddr 34 50 2 (tm 23) (tm 24)),o1 26 (fa 50 25 0 0),o1 27 (lo 47 26),o1 28 (cs 37 [22,27] [47,47]),o1 29 (.unOp .not 4 (tm 28)),mv 30 29,og 31 (.move (tm 0)) 30 false,og 32 (.move (tm 5)) 30 false,og 33 (.indexAddr 34 50 2 (tm 31) (tm 32)) 30 false,og 34 (fa 50 33 1 1) 30 false,og 35 (lo 48 34) 30 false,og 36 (.len 48 false (tm 35)) 30 false,og 37 (.move (tm 1)) 30 false,og 38 (.move (tm 5)) 30 false,og 39 (.indexAddr 34 50 2 (tm 37) (tm 38)) 30 false,og 40 (fa 50 39 1 1) 30 false,og 41 (lo 48 40) 30 false,og 42 (.len 48 false (tm 41)) 30 false,og 43 (bt .neq 3 36 42) 30 false,o1 44 (pa 30 43)] 0 (some [[],[],[0,1],[0,1,2],(rl 0 4 []),[],[],[5,6],[5,6,7],(rl 5 4 []),(rl 0 10 []),(rl 0 11 []),(rl 0 12 []),(rl 0 13 []),(rl 0 13 []),(rl 0 15 []),(rl 0 16 []),(rl 0 17 []),(rl 0 18 []),(rl 0 13 []),(rl 0 13 []),(rl 0 13 [19,20]),(rl 0 13 [19,20,21]),(rl 0 13 (rl 19 4 [])),(rl 0 13 (rl 19 5 [])),(rl 0 25 []),(rl 0 26 [])])) []
  (.cond (tm 44)
  (.seq (.region 7 [o1 4 (sb false)] 0 none) []
   (.ret (rl 0 4 (rl 5 68 []))))
  .skip)) (4 :: (rl 18 27 []))
  A16v4)) (4 :: 6 :: (rl 18 55 []))
 A16v5)
def A16v7 : AC := (.seq (.seq (.region 4 [mv 12 5,mv 13 0,o1 14 (.len 34 false (tm 13)),o1 15 (bt .lss 3 12 14)] 0 none) []
 (.cond (tm 15)
 .skip
 (.exit 0 (rl 0 73 [])))) (rl 12 4 [])
 A16v6)
def A16v8 : AC := (.seq (.region 13 [o1 4 (sb true)] 0 none) []
 (.ret (rl 0 4 (rl 5 68 []))))
def A16v9 : AC := (.seq (.seq (.region 3 [o1 5 (sk 0)] 0 none) []
 (.block 0
 (.loop [] (2 :: 3 :: 4 :: (rl 6 67 []))
  A16v7))) (4 :: 5 :: 6 :: (rl 12 61 []))
 A16v8)
def A16 : AF := ⟨73,[.tmp 4],
 (.seq (.region 0 [o1 4 (sb false)] 0 none) []
 (.seq (.seq (.region 1 [mv 7 0,o1 8 (.len 34 false (tm 7)),mv 9 1,o1 10 (.len 34 false (tm 9)),o1 11 (bt .neq 3 8 10)] 0 none) []
 (.cond (tm 11)
 (.seq (.region 2 [o1 4 (sb false)] 0 none) []
  (.ret (rl 0 4 (rl 5 68 []))))
 .skip)) (4 :: (rl 7 5 []))
 A16v9))⟩
def N191v2 : St → Option St := nN 0 (2 :: 3 :: 4 :: (rl 7 66 []))
def s191v0 : St := ⟨(.x (.c (ro kF n0 f0)) :: .x (.c (ro kF n1 f1)) :: (us 3 (vxi i0 :: vxi i1 :: (us 66 [])))),[]⟩
def s191v1 : St := ⟨(us 4 (vxb false :: (us 68 []))),[]⟩
def s191v2 : St := ⟨(.x (.c (ro kF n0 f0)) :: .x (.c (ro kF n1 f1)) :: (us 3 (vxi i0 :: (us 67 [])))),[]⟩
def L191v2 {ρ : Type} (u : Nat) (x0 : Nat) (x1 : FF) (x2 : Nat) (x3 : FF) (x4 : Int) : Nat → Int → (Option ρ) → (Option ρ) → Option ρ
 | 0,_,_,_ => none
 | m + 1,x5,k0,k1 =>
  (bif (inb x4 x0) then (bif (decide (x5 < (Int.ofNat (x1 x4.toNat 1).len))) then (bif (inb x4 x0) then (bif (inb x5 (x1 x4.toNat 1).len) then (bif (inb x4 x2) then (bif (inb x5 (x3 x4.toNat 1).len) then (ob (F190 u ((x1 x4.toNat 1).el x5.toNat 0).len ((x1 x4.toNat 1).el x5.toNat 0).el ((x3 x4.toNat 1).el x5.toNat 0).len ((x3 x4.toNat 1).el x5.toNat 0).el) fun x6 => (bif (!x6) then k0 else (L191v2 u x0 x1 x2 x3 x4 m (w64 (x5 + 1)) k0 k1))) else none) else none) else none) else none) else k1) else none)
theorem nl191v2 : ∀ (m : Nat) (x0 : Int) (k0 : Option ρ) (k1 : Option ρ),ob (L191v2 u n0 f0 n1 f1 i0 m x0 k0 k1) ng = L191v2 u n0 f0 n1 f1 i0 m x0 (ob k0 ng) (ob k1 ng)
 | 0,_,_,_ => rfl
 | m + 1,x0,k0,k1 => by
  simp only [L191v2,ob_bif,ob_ob,ob_none,nl191v2 m]
theorem r191v2 :
  loopH (eB A16v3 (C82 u) u) N191v2 (m + 1) (s191v0 n0 n1 f0 f1 i0 i1) k =
  (bif (inb i0 n0) then (bif (decide (i1 < (Int.ofNat (f0 i0.toNat 1).len))) then (bif (inb i0 n0) then (bif (inb i1 (f0 i0.toNat 1).len) then (bif (inb i0 n1) then (bif (inb i1 (f1 i0.toNat 1).len) then (ob (F190 u ((f0 i0.toNat 1).el i1.toNat 0).len ((f0 i0.toNat 1).el i1.toNat 0).el ((f1 i0.toNat 1).el i1.toNat 0).len ((f1 i0.toNat 1).el i1.toNat 0).el) fun x0 => (bif (!x0) then (k .ret s191v1) else (loopH (eB A16v3 (C82 u) u) N191v2 m (s191v0 n0 n1 f0 f1 i0 (w64 (i1 + 1))) k))) else none) else none) else none) else none) else (k (.exit 2) (s191v2 n0 n1 f0 f1 i0))) else none) := by kernel_rfl
theorem q191v2 : ∀ (m : Nat) (x0 : Int),
  loopH (eB A16v3 (C82 u) u) N191v2 m (s191v0 n0 n1 f0 f1 i0 x0) k = L191v2 u n0 f0 n1 f1 i0 m x0 (k .ret s191v1) (k (.exit 2) (s191v2 n0 n1 f0 f1 i0))
 | 0,_ => rfl
 | m + 1,x0 => by
  rw [r191v2]
  simp only [L191v2,q191v2 m]
def N191v3 : St → Option St := nN 0 (2 :: 3 :: 4 :: (rl 6 67 []))
def s191v3 : St := ⟨(.x (.c (ro kF n0 f0)) :: .x (.c (ro kF n1 f1)) :: (us 3 (vxi i0 :: (us 67 [])))),[]⟩
def s191v4 : St := ⟨(us 73 []),[]⟩
def L191v3 {ρ : Type} (u : Nat) (x0 : Nat) (x1 : FF) (x2 : Nat) (x3 : FF) : Nat → Int → (Option ρ) → (Option ρ) → Option ρ
 | 0,_,_,_ => none
 | m + 1,x4,k0,k1 =>
  (bif (decide (x4 < (Int.ofNat x0))) then (bif (inb x4 x0) then (bif (inb x4 x2) then (ob (F190 u (x1 x4.toNat 0).len (x1 x4.toNat 0).el (x3 x4.toNat 0).len (x3 x4.toNat 0).el) fun x5 => (bif ((!x5) == false) then (bif (inb x4 x0) then (bif (inb x4 x2) then (bif ((Int.ofNat (x1 x4.toNat 1).len) != (Int.ofNat (x3 x4.toNat 1).len)) then k0 else (L191v2 u x0 x1 x2 x3 x4 u 0
  k0
  (L191v3 u x0 x1 x2 x3 m (w64 (x4 + 1)) k0 k1))) else none) else none) else k0)) else none) else none) else k1)
theorem nl191v3 : ∀ (m : Nat) (x0 : Int) (k0 : Option ρ) (k1 : Option ρ),ob (L191v3 u n0 f0 n1 f1 m x0 k0 k1) ng = L191v3 u n0 f0 n1 f1 m x0 (ob k0 ng) (ob k1 ng)
 | 0,_,_,_ => rfl
 | m + 1,x0,k0,k1 => by
  simp only [L191v3,ob_bif,ob_ob,ob_none,nl191v3 m,nl191v2]
def s191v5 : St := ⟨(.x (.c (ro kF n0 f0)) :: .x (.c (ro kF n1 f1)) :: (us 3 (vxi i0 :: vxi 0 :: (us 66 [])))),[]⟩
theorem r191v3 :
  loopH (eB A16v7 (C82 u) u) N191v3 (m + 1) (s191v3 n0 n1 f0 f1 i0) k =
  (bif (decide (i0 < (Int.ofNat n0))) then (bif (inb i0 n0) then (bif (inb i0 n1) then (ob (F190 u (f0 i0.toNat 0).len (f0 i0.toNat 0).el (f1 i0.toNat 0).len (f1 i0.toNat 0).el) fun x0 => (bif ((!x0) == false) then (bif (inb i0 n0) then (bif (inb i0 n1) then (bif ((Int.ofNat (f0 i0.toNat 1).len) != (Int.ofNat (f1 i0.toNat 1).len)) then (k .ret s191v1) else (loopN (eB A16v3 (C82 u) u) N191v2 u (s191v5 n0 n1 f0 f1 i0) (kBlk 2 (kBlk 1 (kSeq (C82 u) u (4 :: 6 :: (rl 18 55 [])) A16v5 (kLoop (eB A16v7 (C82 u) u) N191v3 m k)))))) else none) else none) else (k .ret s191v1))) else none) else none) else (k (.exit 0) s191v4)) := by kernel_rfl
theorem t191v1 :
  loopN (eB A16v3 (C82 u) u) N191v2 u (s191v5 n0 n1 f0 f1 i0) k =
  L191v2 u n0 f0 n1 f1 i0 u 0 (k .ret s191v1) (k (.exit 2) (s191v2 n0 n1 f0 f1 i0)) :=
 Eq.trans (loopN_at (by kernel_rfl)) (q191v2 ..)
theorem g191v2 :
  (kBlk 2 (kBlk 1 (kSeq (C82 u) u (4 :: 6 :: (rl 18 55 [])) A16v5 (kLoop (eB A16v7 (C82 u) u) N191v3 m k)))) .ret s191v1 =
  (k .ret s191v1) := by kernel_rfl
theorem g191v3 :
  (kBlk 2 (kBlk 1 (kSeq (C82 u) u (4 :: 6 :: (rl 18 55 [])) A16v5 (kLoop (eB A16v7 (C82 u) u) N191v3 m k)))) (.exit 2) (s191v2 n0 n1 f0 f1 i0) =
  (loopH (eB A16v7 (C82 u) u) N191v3 m (s191v3 n0 n1 f0 f1 (w64 (i0 + 1))) k) := by kernel_rfl
theorem q191v3 : ∀ (m : Nat) (x0 : Int),
  loopH (eB A16v7 (C82 u) u) N191v3 m (s191v3 n0 n1 f0 f1 x0) k = L191v3 u n0 f0 n1 f1 m x0 (k .ret s191v1) (k (.exit 0) s191v4)
 | 0,_ => rfl
 | m + 1,x0 => by
  rw [r191v3]
  simp only [L191v3,q191v3 m,t191v1,g191v2,g191v3]
def F191 (x0 : Nat) (x1 : FF) (x2 : Nat) (x3 : FF) : Option (Bool) :=
 (bif ((Int.ofNat x0) != (Int.ofNat x2)) then (some false) else (L191v3 u x0 x1 x2 x3 u 0
  (some false)
  (some true)))
def s191v6 : St := ⟨(.x (.c (ro kF n0 f0)) :: .x (.c (ro kF n1 f1)) :: uu :: uu :: .u :: vxi 0 :: uu :: (us 5 [uu,uu,uu,uu,uu,uu,uu,uu,uu,uu,uu,uu,uu,uu,uu,uu,uu,uu,uu,uu,uu,uu,uu,uu,uu,uu,uu,uu,uu,uu,uu,uu,uu,uu,uu,uu,uu,uu,uu,uu,uu,uu,uu,uu,uu,uu,uu,uu,uu,uu,uu,uu,uu,uu,uu,uu,uu,uu,uu,uu,uu])),[]⟩
theorem t191v4 :
  loopN (eB A16v7 (C82 u) u) N191v3 u (s191v6 n0 n1 f0 f1) k =
  L191v3 u n0 f0 n1 f1 u 0 (k .ret s191v1) (k (.exit 0) s191v4) :=
 Eq.trans (loopN_at (by kernel_rfl)) (q191v3 ..)
theorem g191v5 :
  (kBlk 0 (kSeq (C82 u) u (4 :: 5 :: 6 :: (rl 12 61 [])) A16v8 (finish A16))) .ret s191v1 =
  (some [.v (.b false)]) := by kernel_rfl
theorem g191v6 :
  (kBlk 0 (kSeq (C82 u) u (4 :: 5 :: 6 :: (rl 12 61 [])) A16v8 (finish A16))) (.exit 0) s191v4 =
  (some [.v (.b true)]) := by kernel_rfl
theorem e191 : evalF (C82 u) u A16 [.v (ro kF n0 f0),.v (ro kF n1 f1)] = ob (F191 u n0 f0 n1 f1) fun t => some [.v (.b t)] := Eq.trans (b := (bif ((Int.ofNat n0) != (Int.ofNat n1)) then (some [.v (.b false)]) else (loopN (eB A16v7 (C82 u) u) N191v3 u (s191v6 n0 n1 f0 f1) (kBlk 0 (kSeq (C82 u) u (4 :: 5 :: 6 :: (rl 12 61 [])) A16v8 (finish A16)))))) (by kernel_rfl) (by
 simp only [F191,ob_bif,ob_ob,ob_none,ob_some,nl191v3,t191v4,g191v5,g191v6])
def O191 : Ora := mkO (qc (av (cL kF)) (q1 (av (cL kF)))) (fun x => F191 u x.1.1 x.1.2 x.2.1 x.2.2) fun t => [.v (.b t)]
theorem d191 : DO (O191 u) (C82 u) 16 A16 := dO u (fun x => by exact e191 u x.1.1 x.2.1 x.1.2 x.2.2)
def C83 : Oracle := (C82 u).add 16 (fun _ => true) (O191 u)
def A38v1 : AC := (.seq (.block 1
 (.region 8 [mv 17 3,mv 18 4,mv 19 5,o1 20 (.indexAddr 48 47 1 (tm 18) (tm 19)),o1 21 (lo 47 20),o1 22 (cs 65 [21] [47]),o1 23 (bt .add 3 17 22),o1 3 (sg 23)] 0 none)) []
 (.region 7 [mv 15 5,o1 16 (bk .add 3 15 1),o1 5 (sg 16)] 0 none))
def A38v2 : AC := (.seq (.seq (.region 6 [mv 11 5,mv 12 4,o1 13 (.len 48 false (tm 12)),o1 14 (bt .lss 3 11 13)] 0 none) []
 (.cond (tm 14)
 .skip
 (.exit 0 (0 :: 1 :: 2 :: (rl 4 21 []))))) (rl 11 4 [])
 A38v1)
def A38v3 : AC := (.seq (.region 9 [mv 24 3,o1 2 (sg 24)] 0 none) []
 (.ret (0 :: 1 :: (rl 3 22 []))))
def A38v4 : AC := (.seq (.region 3 [o1 3 (sk 0)] 0 none) []
 (.seq (.region 4 [o1 9 (ln 50 2 1),o1 10 (cf 62 [9] [50]),o1 4 (sg 10)] 0 none) []
 (.seq (.seq (.region 5 [o1 5 (sk 0)] 0 none) []
 (.block 0
 (.loop [] (0 :: 1 :: 2 :: (rl 6 19 []))
  A38v2))) (5 :: (rl 11 13 []))
 A38v3)))
def A38 : AF := ⟨25,[.tmp 2],
 (.seq (.region 0 [o1 1 (bx 0 50 0),o1 2 (sk 0)] 1 none) []
 (.seq (.seq (.region 1 [o1 6 (ln 50 2 1),o1 7 (cs 58 [6] [50]),o1 8 (bk .neq 31 7 0)] 0 none) []
 (.cond (tm 8)
 (.seq (.region 2 [o1 2 (sk 0)] 0 none) []
  (.ret (0 :: 1 :: (rl 3 22 []))))
 .skip)) [2,6,7,8]
 A38v4))⟩
def N19v1 : St → Option St := nN 1 (0 :: 1 :: 2 :: (rl 6 19 []))
def s19v0 : St := ⟨(us 3 (vxi i0 :: .x (.c (ro (.pr (.sl kP) .nil) n0 f0)) :: vxi i1 :: (us 19 []))),[.box [(.c (ro kP n1 f1)),(.c (ro (.pr (.sl kP) .nil) n2 f2))]]⟩
def s19v1 : St := ⟨(us 3 (vxi i0 :: (us 21 []))),[.box [(.c (ro kP n0 f0)),(.c (ro (.pr (.sl kP) .nil) n1 f1))]]⟩
def L19v1 {ρ : Type} (u : Nat) (x0 : Nat) (x1 : FF) (x2 : Nat) (x3 : FF) (x4 : Nat) (x5 : FF) : Nat → Int → Int → (Int → Option ρ) → Option ρ
 | 0,_,_,_ => none
 | m + 1,x6,x7,k0 =>
  (bif (decide (x7 < (Int.ofNat x0))) then (bif (inb x7 x0) then (ob (F38 u (x1 x7.toNat 0).len (x1 x7.toNat 0).el) fun x8 => (L19v1 u x0 x1 x2 x3 x4 x5 m (w64 (x6 + x8)) (w64 (x7 + 1)) k0)) else none) else (k0 x6))
theorem nl19v1 : ∀ (m : Nat) (x0 x1 : Int) (k0 : Int → Option ρ),ob (L19v1 u n0 f0 n1 f1 n2 f2 m x0 x1 k0) ng = L19v1 u n0 f0 n1 f1 n2 f2 m x0 x1 (fun x2 => ob (k0 x2) ng)
 | 0,_,_,_ => rfl
 | m + 1,x0,x1,k0 => by
  simp only [L19v1,ob_bif,ob_ob,ob_none,nl19v1 m]
theorem r19v1 :
  loopH (eB A38v2 (C83 u) u) N19v1 (m + 1) (s19v0 n0 n1 n2 f0 f1 f2 i0 i1) k =
  (bif (decide (i1 < (Int.ofNat n0))) then (bif (inb i1 n0) then (ob (F38 u (f0 i1.toNat 0).len (f0 i1.toNat 0).el) fun x0 => (loopH (eB A38v2 (C83 u) u) N19v1 m (s19v0 n0 n1 n2 f0 f1 f2 (w64 (i0 + x0)) (w64 (i1 + 1))) k)) else none) else (k (.exit 0) (s19v1 n1 n2 f1 f2 i0))) := by kernel_rfl
theorem q19v1 : ∀ (m : Nat) (x0 x1 : Int),
  loopH (eB A38v2 (C83 u) u) N19v1 m (s19v0 n0 n1 n2 f0 f1 f2 x0 x1) k = L19v1 u n0 f0 n1 f1 n2 f2 m x0 x1 (fun x2 => k (.exit 0) (s19v1 n1 n2 f1 f2 x2))
 | 0,_,_ => rfl
 | m + 1,x0,x1 => by
  rw [r19v1]
  simp only [L19v1,q19v1 m]
def F19 (x0 : Nat) (x1 : FF) (x2 : Nat) (x3 : FF) : Option (Int) :=
 (ob (F14 u x0 x1 x2 x3) fun x4 => (bif (x4 != 0) then (some 0) else (ob (F44 u x0 x1 x2 x3) fun x5 => (L19v1 u x5.1 x5.2 x0 x1 x2 x3 u 0 0
  (fun x6 => (some x6))))))
def s19v2 (x0 : Nat × FF) : St := ⟨(.agg [(.c (ro kP n0 f0)),(.c (ro (.pr (.sl kP) .nil) n1 f1))] :: .x (.ptr 0 0) :: .u :: vxi 0 :: .x (.c (ro (.pr (.sl kP) .nil) x0.1 x0.2)) :: vxi 0 :: (us 3 [.agg [(.c (ro kP n0 f0)),(.c (ro (.pr (.sl kP) .nil) n1 f1))],.x (.c (ro (.pr (.sl kP) .nil) x0.1 x0.2)),uu,uu,uu,uu,uu,uu,uu,uu,uu,uu,uu,uu,uu,uu])),[.box [(.c (ro kP n0 f0)),(.c (ro (.pr (.sl kP) .nil) n1 f1))]]⟩
theorem t19v1 (x0 : Nat × FF) :
  loopN (eB A38v2 (C83 u) u) N19v1 u (s19v2 n0 n1 f0 f1 x0) k =
  L19v1 u x0.1 x0.2 n0 f0 n1 f1 u 0 0 (fun x1 => k (.exit 0) (s19v1 n0 n1 f0 f1 x1)) :=
 Eq.trans (loopN_at (by kernel_rfl)) (q19v1 ..)
theorem g19v2 :
  (kBlk 0 (kSeq (C83 u) u (5 :: (rl 11 13 [])) A38v3 (finish A38))) (.exit 0) (s19v1 n0 n1 f0 f1 i0) =
  (some [.v (vi i0)]) := by kernel_rfl
theorem e19 : evalF (C83 u) u A38 [.agg [(ro kP n0 f0),(ro (.pr (.sl kP) .nil) n1 f1)]] = ob (F19 u n0 f0 n1 f1) fun t => some [.v (vi t)] := Eq.trans (b := (ob (F14 u n0 f0 n1 f1) fun x0 => (bif (x0 != 0) then (some [.v (vi 0)]) else (ob (F44 u n0 f0 n1 f1) fun x1 => (loopN (eB A38v2 (C83 u) u) N19v1 u (s19v2 n0 n1 f0 f1 x1) (kBlk 0 (kSeq (C83 u) u (5 :: (rl 11 13 [])) A38v3 (finish A38)))))))) (by kernel_rfl) (by
 simp only [F19,ob_bif,ob_ob,ob_none,ob_some,nl19v1,t19v1,g19v2])
def O19 : Ora := mkO (q1 (ag (tc (cL kP) (t1 (cL (.pr (.sl kP) .nil)))))) (fun x => F19 u x.1.1 x.1.2 x.2.1 x.2.2) fun t => [.v (vi t)]
theorem d19 : DO (O19 u) (C83 u) 38 A38 := dO u (fun x => by exact e19 u x.1.1 x.2.1 x.1.2 x.2.2)
def C84 : Oracle := (C83 u).add 38 (fun _ => true) (O19 u)
def A18v1 : AC := (.region 6 [mv 17 6,o1 18 (bk .add 3 17 1),o1 6 (sg 18)] 0 none)
def A18v2 : AC := (.seq (.block 1
 (.seq (.region 7 [mv 19 1,o1 20 (fa 24 2 2 2),o1 21 (lo 22 20),mv 22 6,o1 23 (.indexAddr 22 43 5 (tm 21) (tm 22)),o1 24 (fa 43 23 0 0),o1 25 (lo 9 24),o1 26 (cs 22 [19,25] [27,9]),o1 7 (sg 26)] 0 none) []
  (.seq (.region 8 [mv 27 7,o1 28 (bk .geq 3 27 0)] 0 none) []
  (.cond (tm 28)
  (.region 9 [mv 29 5,mv 30 1,mv 31 7,o1 32 (.indexAddr 27 56 18 (tm 30) (tm 31)),o1 33 (fa 56 32 6 6),o1 34 (ln 50 2 33),o1 35 (cs 38 [34] [50]),o1 36 (bt .add 3 29 35),o1 5 (sg 36)] 0 none)
  .skip)))) (7 :: (rl 19 18 []))
 A18v1)
def A18v3 : AC := (.seq (.seq (.region 5 [mv 12 6,o1 13 (fa 24 2 2 2),o1 14 (lo 22 13),o1 15 (.len 22 false (tm 14)),o1 16 (bt .lss 3 12 15)] 0 none) []
 (.cond (tm 16)
 .skip
 (.ghost [0] (.exit 0 (rl 0 5 (rl 6 32 [])))))) (rl 12 5 [])
 A18v2)
def A18v4 : AC := (.seq (.region 10 [mv 37 5,o1 4 (sg 37)] 0 none) []
 (.ghost [0] (.ret (rl 0 4 (rl 5 33 [])))))
def A18v5 : AC := (.seq (.region 3 [o1 5 (sk 0)] 0 none) []
 (.seq (.seq (.region 4 [o1 6 (sk 0)] 0 none) []
 (.block 0
 (.loop [] (0 :: 3 :: 4 :: (rl 7 31 []))
  A18v3))) (6 :: 7 :: (rl 12 25 []))
 A18v4))
def A18 : AF := ⟨38,[.tmp 4],
 (.seq (.region 0 [o1 2 (bx 0 24 0),o1 4 (sk 0)] 1 none) []
 (.seq (.seq (.region 1 [o1 8 (fa 24 2 2 2),o1 9 (lo 22 8),o1 10 (.len 22 false (tm 9)),o1 11 (bk .gtr 3 10 32)] 0 none) []
 (.cond (tm 11)
 (.seq (.region 2 [o1 4 (sk 0)] 0 none) []
  (.ghost [0] (.ret (rl 0 4 (rl 5 33 [])))))
 .skip)) (4 :: (rl 8 4 []))
 A18v5))⟩
def N192v1 : St → Option St := nN 1 (0 :: 3 :: 4 :: (rl 7 31 []))
def s192v0 : St := ⟨(.u :: .x (.c (ro kA n0 f0)) :: .x (.ptr 0 0) :: .u :: .u :: vxi i0 :: vxi i1 :: (us 31 [])),[.box [(vcs w0),(vci i2),(.c (ro kE n1 f1))]]⟩
def s192v1 : St := ⟨(us 5 (vxi i0 :: (us 32 []))),[.dead]⟩
def L192v1 {ρ : Type} (u : Nat) (x0 : Nat) (x1 : FF) (x2 : ByteArray) (x3 : Int) (x4 : Nat) (x5 : FF) : Nat → Int → Int → (Int → Option ρ) → Option ρ
 | 0,_,_,_ => none
 | m + 1,x6,x7,k0 =>
  (bif (decide (x7 < (Int.ofNat x4))) then (bif (inb x7 x4) then (ob (F176 u x0 x1 (x5 x7.toNat 0).str) fun x8 => (bif (decide (x8 ≥ 0)) then (bif (inb x8 x0) then (ob (F19 u (x1 x8.toNat 6).len (x1 x8.toNat 6).el (x1 x8.toNat 7).len (x1 x8.toNat 7).el) fun x9 => (L192v1 u x0 x1 x2 x3 x4 x5 m (w64 (x6 + x9)) (w64 (x7 + 1)) k0)) else none) else (L192v1 u x0 x1 x2 x3 x4 x5 m x6 (w64 (x7 + 1)) k0))) else none) else (k0 x6))
theorem nl192v1 : ∀ (m : Nat) (x0 x1 : Int) (k0 : Int → Option ρ),ob (L192v1 u n0 f0 w0 i0 n1 f1 m x0 x1 k0) ng = L192v1 u n0 f0 w0 i0 n1 f1 m x0 x1 (fun x2 => ob (k0 x2) ng)
 | 0,_,_,_ => rfl
 | m + 1,x0,x1,k0 => by
  simp only [L192v1,ob_bif,ob_ob,ob_none,nl192v1 m]
theorem r192v1 :
  loopH (eB A18v3 (C84 u) u) N192v1 (m + 1) (s192v0 n0 n1 f0 f1 i1 i2 i0 w0) k =
  (bif (decide (i2 < (Int.ofNat n1))) then (bif (inb i2 n1) then (ob (F176 u n0 f0 (f1 i2.toNat 0).str) fun x0 => (bif (decide (x0 ≥ 0)) then (bif (inb x0 n0) then (ob (F19 u (f0 x0.toNat 6).len (f0 x0.toNat 6).el (f0 x0.toNat 7).len (f0 x0.toNat 7).el) fun x1 => (loopH (eB A18v3 (C84 u) u) N192v1 m (s192v0 n0 n1 f0 f1 (w64 (i1 + x1)) (w64 (i2 + 1)) i0 w0) k)) else none) else (loopH (eB A18v3 (C84 u) u) N192v1 m (s192v0 n0 n1 f0 f1 i1 (w64 (i2 + 1)) i0 w0) k))) else none) else (k (.exit 0) (s192v1 i1))) := by kernel_rfl
theorem q192v1 : ∀ (m : Nat) (x0 x1 : Int),
  loopH (eB A18v3 (C84 u) u) N192v1 m (s192v0 n0 n1 f0 f1 x0 x1 i0 w0) k = L192v1 u n0 f0 w0 i0 n1 f1 m x0 x1 (fun x2 => k (.exit 0) (s192v1 x2))
 | 0,_,_ => rfl
 | m + 1,x0,x1 => by
  rw [r192v1]
  simp only [L192v1,q192v1 m]
def F192 (x0 : ByteArray) (x1 : Int) (x2 : Nat) (x3 : FF) (x4 : Nat) (x5 : FF) : Option (Int) :=
 (bif (decide ((Int.ofNat x2) > 32)) then (some 0) else (L192v1 u x4 x5 x0 x1 x2 x3 u 0 0
  (fun x6 => (some x6))))
def s192v2 : St := ⟨(.agg [(vcs w0),(vci i0),(.c (ro kE n0 f0))] :: .x (.c (ro kA n1 f1)) :: .x (.ptr 0 0) :: uu :: .u :: vxi 0 :: vxi 0 :: uu :: (us 4 [uu,uu,uu,uu,uu,uu,uu,uu,uu,uu,uu,uu,uu,uu,uu,uu,uu,uu,uu,uu,uu,uu,uu,uu,uu,uu])),[.box [(vcs w0),(vci i0),(.c (ro kE n0 f0))]]⟩
theorem t192v1 :
  loopN (eB A18v3 (C84 u) u) N192v1 u (s192v2 n0 n1 f0 f1 i0 w0) k =
  L192v1 u n1 f1 w0 i0 n0 f0 u 0 0 (fun x0 => k (.exit 0) (s192v1 x0)) :=
 Eq.trans (loopN_at (by kernel_rfl)) (q192v1 ..)
theorem g192v2 :
  (kBlk 0 (kSeq (C84 u) u (6 :: 7 :: (rl 12 25 [])) A18v4 (finish A18))) (.exit 0) (s192v1 i0) =
  (some [.v (vi i0)]) := by kernel_rfl
theorem e192 : evalF (C84 u) u A18 [.agg [(.s w0),(vi i0),(ro kE n0 f0)],.v (ro kA n1 f1)] = ob (F192 u w0 i0 n0 f0 n1 f1) fun t => some [.v (vi t)] := Eq.trans (b := (bif (decide ((Int.ofNat n0) > 32)) then (some [.v (vi 0)]) else (loopN (eB A18v3 (C84 u) u) N192v1 u (s192v2 n0 n1 f0 f1 i0 w0) (kBlk 0 (kSeq (C84 u) u (6 :: 7 :: (rl 12 25 [])) A18v4 (finish A18)))))) (by kernel_rfl) (by
 simp only [F192,ob_bif,ob_ob,ob_none,ob_some,nl192v1,t192v1,g192v2])
def O192 : Ora := mkO (qc (ag (tc cS (tc ci (t1 (cL kE))))) (q1 (av (cL kA)))) (fun x => F192 u x.1.1 x.1.2.1 x.1.2.2.1 x.1.2.2.2 x.2.1 x.2.2) fun t => [.v (vi t)]
theorem d192 : DO (O192 u) (C84 u) 18 A18 := dO u (fun x => by exact e192 u x.1.2.2.1 x.2.1 x.1.2.2.2 x.2.2 x.1.2.1 x.1.1)
def C85 : Oracle := (C84 u).add 18 (fun _ => true) (O192 u)
def A20v1 : AC := (.seq (.region 3 [o1 25 (ln 24 3 3),mv 26 2,o1 27 (cs 18 [25,26] [24,27]),o1 28 (bk .mul 3 27 1000),o1 29 (fa 26 4 3 3),o1 30 (lo 3 29),o1 31 (.binOp .mul 3 (ic 2) (tm 30) 3),o1 32 (fa 26 4 4 4),o1 33 (lo 3 32),o1 34 (bt .mul 3 31 33),o1 35 (bt .quo 3 28 34),o1 6 (sg 35)] 0 (some [[],[],[0,1],[0,1,2],[],[4],[4,5],[],[7],(rl 4 5 []),(rl 0 10 []),(rl 0 11 [])])) []
 (.ghost [0,1] (.ret (rl 0 6 (rl 7 29 [])))))
def A20 : AF := ⟨36,[.tmp 6],
 (.seq (.region 0 [o1 3 (bx 0 24 0),o1 4 (bx 1 26 1),o1 6 (sk 0)] 2 none) []
 (.seq (.seq (.region 1 [o1 7 (fa 26 4 3 3),o1 8 (lo 3 7),o1 9 (bk .lss 3 8 1),mv 10 9,og 11 (fa 26 4 3 3) 10 false,og 12 (lo 3 11) 10 false,og 13 (bk .gtr 3 12 32768) 10 false,o1 14 (pa 10 13),mv 15 14,og 16 (fa 26 4 4 4) 15 false,og 17 (lo 3 16) 15 false,og 18 (bk .lss 3 17 1) 15 false,o1 19 (pa 15 18),mv 20 19,og 21 (fa 26 4 4 4) 20 false,og 22 (lo 3 21) 20 false,og 23 (bk .gtr 3 22 32768) 20 false,o1 24 (pa 20 23)] 0 none) []
 (.cond (tm 24)
 (.seq (.region 2 [o1 6 (sk 0)] 0 none) []
  (.ghost [0,1] (.ret (rl 0 6 (rl 7 29 [])))))
 .skip)) (rl 6 19 [])
 A20v1))⟩
def F193 (x0 : ByteArray) (x1 : Int) (x2 : Nat) (x3 : FF) (x4 x5 : ByteArray) (x6 x7 x8 : Int) (x9 : ByteArray) (xA : Nat) (xB : FF) : Option (Int) :=
 (bif ((decide (x7 < 1)) == false) then (bif ((decide (x7 > 32768)) == false) then (bif ((decide (x8 < 1)) == false) then (bif (decide (x8 > 32768)) then (some 0) else (ob (F192 u x0 x1 x2 x3 xA xB) fun xC => (bif ((w64 ((w64 (2 * x7)) * x8)) == 0) then none else (some (w64 (Int.tdiv (w64 (xC * 1000)) (w64 ((w64 (2 * x7)) * x8)))))))) else (some 0)) else (some 0)) else (some 0))
theorem e193 : evalF (C85 u) u A20 [.agg [(.s w0),(vi i0),(ro kE n0 f0)],.agg [(.s w1),(.s w2),(vi i1),(vi i2),(vi i3),(.s w3)],.v (ro kA n1 f1)] = ob (F193 u w0 i0 n0 f0 w1 w2 i1 i2 i3 w3 n1 f1) fun t => some [.v (vi t)] := Eq.trans (b := (bif ((decide (i2 < 1)) == false) then (bif ((decide (i2 > 32768)) == false) then (bif ((decide (i3 < 1)) == false) then (bif (decide (i3 > 32768)) then (some [.v (vi 0)]) else (ob (F192 u w0 i0 n0 f0 n1 f1) fun x0 => (bif ((w64 ((w64 (2 * i2)) * i3)) == 0) then none else (some [.v (vi (w64 (Int.tdiv (w64 (x0 * 1000)) (w64 ((w64 (2 * i2)) * i3)))))])))) else (some [.v (vi 0)])) else (some [.v (vi 0)])) else (some [.v (vi 0)]))) (by kernel_rfl) (by
 simp only [F193,ob_bif,ob_ob,ob_none,ob_some])
def O193 : Ora := mkO (qc (ag (tc cS (tc ci (t1 (cL kE))))) (qc (ag (tc cS (tc cS (tc ci (tc ci (tc ci (t1 cS))))))) (q1 (av (cL kA))))) (fun x => F193 u x.1.1 x.1.2.1 x.1.2.2.1 x.1.2.2.2 x.2.1.1 x.2.1.2.1 x.2.1.2.2.1 x.2.1.2.2.2.1 x.2.1.2.2.2.2.1 x.2.1.2.2.2.2.2 x.2.2.1 x.2.2.2) fun t => [.v (vi t)]
theorem d193 : DO (O193 u) (C85 u) 20 A20 := dO u (fun x => by exact e193 u x.1.2.2.1 x.2.2.1 x.1.2.2.2 x.2.2.2 x.1.2.1 x.2.1.2.2.1 x.2.1.2.2.2.1 x.2.1.2.2.2.2.1 x.1.1 x.2.1.1 x.2.1.2.1 x.2.1.2.2.2.2.2)
def C86 : Oracle := (C85 u).add 20 (fun _ => true) (O193 u)
def A4v1 : AC := (.seq (.region 3 [o1 12 (fa 29 1 0 0),o1 13 (ln 24 3 12),o1 14 (fa 29 1 2 9),o1 15 (lo 27 14),o1 16 (cf 14 [13,15] [24,27]),mv 11 16,o1 17 (.extract (tm 11) 0),o1 18 (.extract (tm 11) 1),o1 3 (sg 17),o1 4 (sg 18)] 0 none) []
 (.seq (.region 4 [o1 20 (fa 29 1 0 0),o1 21 (ln 24 3 20),o1 22 (fa 29 1 2 9),o1 23 (lo 27 22),o1 24 (cf 15 [21,23] [24,27]),mv 19 24,o1 25 (.extract (tm 19) 0),o1 26 (.extract (tm 19) 1),o1 5 (sg 25),o1 6 (sg 26)] 0 none) []
 (.seq (.region 5 [mv 27 3,mv 28 5,o1 29 (cs 16 [27,28] [34,34]),mv 30 29,og 31 (.move (tm 4)) 30 true,og 32 (.move (tm 6)) 30 true,og 33 (bt .eql 31 31 32) 30 true,o1 34 (po 30 33),mv 35 34,og 36 (fa 29 1 0 0) 35 true,og 37 (ln 24 3 36) 35 true,og 38 (fa 29 1 2 9) 35 true,og 39 (lo 27 38) 35 true,og 40 (cs 17 [37,39] [24,27]) 35 true,og 41 (fa 29 1 0 0) 35 true,og 42 (ln 24 3 41) 35 true,og 43 (fa 29 1 2 9) 35 true,og 44 (lo 27 43) 35 true,og 45 (cs 18 [42,44] [24,27]) 35 true,og 46 (bt .eql 3 40 45) 35 true,o1 47 (po 35 46),mv 48 47,og 49 (fa 29 1 0 0) 48 true,og 50 (ln 24 3 49) 48 true,og 51 (fa 29 1 1 3) 48 true,og 52 (ln 26 6 51) 48 true,og 53 (fa 29 1 2 9) 48 true,og 54 (lo 27 53) 48 true,og 55 (cs 19 [50,52,54] [24,26,27]) 48 true,og 56 (fa 29 1 0 0) 48 true,og 57 (ln 24 3 56) 48 true,og 58 (fa 29 1 1 3) 48 true,og 59 (ln 26 6 58) 48 true,og 60 (fa 29 1 2 9) 48 true,og 61 (lo 27 60) 48 true,og 62 (cs 20 [57,59,61] [24,26,27]) 48 true,og 63 (bt .eql 3 55 62) 48 true,o1 64 (po 48 63),mv 65 64,og 66 (cs 13 [] []) 65 true,o1 67 (po 65 66),o1 2 (sg 67)] 0 (some [[],[],[0,1],[0,1,2],(rl 0 4 []),(rl 0 4 []),(rl 0 6 []),(rl 0 7 []),(rl 0 8 []),(rl 0 9 []),(rl 0 10 []),(rl 0 9 []),(rl 0 9 [11]),(rl 0 13 []),(rl 0 9 []),(rl 0 9 [14]),(rl 0 9 []),(rl 0 9 [16]),(rl 0 18 []),(rl 0 19 []),(rl 0 20 []),(rl 0 21 []),(rl 0 22 []),(rl 0 23 []),(rl 0 22 []),(rl 0 22 [24]),(rl 0 22 []),(rl 0 22 [26]),(rl 0 28 []),(rl 0 22 []),(rl 0 22 [29]),(rl 0 22 []),(rl 0 22 [31]),(rl 0 22 []),(rl 0 22 [33]),(rl 0 35 []),(rl 0 36 []),(rl 0 37 []),(rl 0 38 []),(rl 0 39 []),(rl 0 40 []),(rl 0 41 [])])) []
 (.ghost [0] (.ret (0 :: 1 :: (rl 3 65 [])))))))
def A4 : AF := ⟨68,[.tmp 2],
 (.seq (.region 0 [o1 1 (bx 0 29 0),o1 2 (sb false)] 1 none) []
 (.seq (.seq (.region 1 [o1 7 (ln 29 10 1),o1 8 (cs 10 [7] [29]),o1 9 (.unOp .not 4 (tm 8))] 0 none) []
 (.cond (tm 9)
 (.seq (.region 2 [o1 10 (cs 13 [] []),o1 2 (sg 10)] 0 none) []
  (.ghost [0] (.ret (0 :: 1 :: (rl 3 65 [])))))
 .skip)) (2 :: (rl 7 4 []))
 A4v1))⟩
def F194 (x0 : Nat → CV) : Option (Bool) :=
 (ob (F168 u (listF (pj kR0 x0))) fun x1 => (bif (!x1) then (ob (F187 u) fun x2 => (some x2)) else (ob (F175 u (x0 0).str (x0 1).int (x0 2).len (x0 2).el (x0 9).len (x0 9).el) fun x3 => (ob (F189 u (x0 0).str (x0 1).int (x0 2).len (x0 2).el (x0 9).len (x0 9).el) fun x4 => (ob (F191 u x3.1 x3.2.1 x4.1 x4.2.1) fun x5 => (bif (x5 == true) then (bif ((x3.2.2 == x4.2.2) == true) then (ob (F183 u (x0 0).str (x0 1).int (x0 2).len (x0 2).el (x0 9).len (x0 9).el) fun x6 => (ob (F192 u (x0 0).str (x0 1).int (x0 2).len (x0 2).el (x0 9).len (x0 9).el) fun x7 => (bif ((x6 == x7) == true) then (ob (F186 u (x0 0).str (x0 1).int (x0 2).len (x0 2).el (x0 3).str (x0 4).str (x0 5).int (x0 6).int (x0 7).int (x0 8).str (x0 9).len (x0 9).el) fun x8 => (ob (F193 u (x0 0).str (x0 1).int (x0 2).len (x0 2).el (x0 3).str (x0 4).str (x0 5).int (x0 6).int (x0 7).int (x0 8).str (x0 9).len (x0 9).el) fun x9 => (bif ((x8 == x9) == true) then (ob (F187 u) fun xA => (some xA)) else (some false)))) else (some false)))) else (some false)) else (some false)))))))
theorem e194 : evalF (C86 u) u A4 [.agg (pj kR0 g0)] = ob (F194 u g0) fun t => some [.v (.b t)] := Eq.trans (b := (ob (F168 u (listF (pj kR0 g0))) fun x0 => (bif (!x0) then (ob (F187 u) fun x1 => (some [.v (.b x1)])) else (ob (F175 u (g0 0).str (g0 1).int (g0 2).len (g0 2).el (g0 9).len (g0 9).el) fun x2 => (ob (F189 u (g0 0).str (g0 1).int (g0 2).len (g0 2).el (g0 9).len (g0 9).el) fun x3 => (ob (F191 u x2.1 x2.2.1 x3.1 x3.2.1) fun x4 => (bif (x4 == true) then (bif ((x2.2.2 == x3.2.2) == true) then (ob (F183 u (g0 0).str (g0 1).int (g0 2).len (g0 2).el (g0 9).len (g0 9).el) fun x5 => (ob (F192 u (g0 0).str (g0 1).int (g0 2).len (g0 2).el (g0 9).len (g0 9).el) fun x6 => (bif ((x5 == x6) == true) then (ob (F186 u (g0 0).str (g0 1).int (g0 2).len (g0 2).el (g0 3).str (g0 4).str (g0 5).int (g0 6).int (g0 7).int (g0 8).str (g0 9).len (g0 9).el) fun x7 => (ob (F193 u (g0 0).str (g0 1).int (g0 2).len (g0 2).el (g0 3).str (g0 4).str (g0 5).int (g0 6).int (g0 7).int (g0 8).str (g0 9).len (g0 9).el) fun x8 => (bif ((x7 == x8) == true) then (ob (F187 u) fun x9 => (some [.v (.b x9)])) else (some [.v (.b false)])))) else (some [.v (.b false)])))) else (some [.v (.b false)])) else (some [.v (.b false)])))))))) (by kernel_rfl) (by
 simp only [F194,ob_bif,ob_ob,ob_none,ob_some])
def O194 : Ora := mkO (q1 (ar kR0)) (fun x => F194 u x) fun t => [.v (.b t)]
theorem d194 : DO (O194 u) (C86 u) 4 A4 := dO u (fun x => by exact e194 u x)
/- Functions that the plain texts alone name. -/
def L23v1 {ρ : Type} (u : Nat) (x0 : Nat) (x1 : FF) (x2 : Nat) (x3 : FF) (x4 x5 : Int) : Nat → Int → Int → (Int → Option ρ) → Option ρ
 | 0,_,_,_ => none
 | m + 1,x6,x7,k0 =>
  (bif (decide (x7 < (Int.ofNat x2))) then (bif (inb x7 x2) then (ob (F40 u (x3 x7.toNat 0).len (x3 x7.toNat 0).el x4 x5) fun x8 => (L23v1 u x0 x1 x2 x3 x4 x5 m (if (w64 (0 - x8)) < x6 then (w64 (0 - x8)) else x6) (w64 (x7 + 1)) k0)) else none) else (k0 x6))
def F23 (x0 : Nat) (x1 : FF) (x2 : Nat) (x3 : FF) (x4 x5 : Int) : Option (Int) :=
 (ob (F14 u x0 x1 x2 x3) fun x6 => (bif (x6 != 0) then (some (-1)) else (ob (F40 u x0 x1 x4 x5) fun x7 => (L23v1 u x0 x1 x2 x3 x4 x5 u x7 0
  (fun x8 => (some x8))))))
def F22 (x0 : Nat) (x1 : FF) (x2 : Nat) (x3 : FF) (x4 x5 : Int) : Option (Int) :=
 (ob (F13 u x0 x1 x2 x3) fun x6 => (bif (x6 != 0) then (some (-1)) else (ob (F47 u x0 x1 x2 x3 x4 x5) fun x7 => (some x7))))
end Go.Eng.R13
