/-
 The functions of the program,run on symbols; printed by decomp.py.
-/
import Derived.Test.YtajhkinnmdlokaaDecT0
set_option linter.all false
set_option maxRecDepth 1000000
set_option maxHeartbeats 4000000
namespace Go.Eng.R13
open Go Go.RowKit Go.Eng
variable {ρ σ : Type} (u m : Nat) (k : Ex → St → Option ρ) (ng : ρ → Option σ) (n0 n1 n2 n3 n4 n5 n6 n7 n8 : Nat) (f0 f1 f2 f3 f4 f5 f6 f7 f8 : FF) (i0 i1 i2 i3 i4 i5 i6 i7 : Int) (b0 b1 : Bool) (w0 w1 w2 : ByteArray) (g0 g1 : Nat → CV)
def A13v1 : AC := (.region 8 [mv 19 6,o1 20 (bk .add 3 19 1),o1 6 (sg 20)] 0 none)
def A13v2 : AC := (.seq (.block 3
 (.seq (.region 9 [mv 21 5,mv 22 6,o1 23 (bt .neq 3 21 22),mv 24 23,og 25 (ln 28 6 1) 24 true,og 26 (.move (tm 3)) 24 true,og 27 (.move (tm 5)) 24 true,og 28 (.indexAddr 31 9 1 (tm 26) (tm 27)) 24 true,og 29 (lo 9 28) 24 true,og 30 (.move (tm 3)) 24 true,og 31 (.move (tm 6)) 24 true,og 32 (.indexAddr 31 9 1 (tm 30) (tm 31)) 24 true,og 33 (lo 9 32) 24 true,og 34 (cs 31 [25,29,33] [28,9,9]) 24 true,o1 35 (po 24 34)] 0 (some [[],[],[0,1],[0,1,2],(rl 0 4 []),(rl 0 4 []),(rl 0 4 []),(rl 0 4 [5,6]),(rl 0 4 [5,6,7]),(rl 0 4 []),(rl 0 4 []),(rl 0 4 [9,10]),(rl 0 4 [9,10,11]),(rl 0 13 []),(rl 0 14 [])])) []
  (.cond (tm 35)
  (.region 10 [mv 36 4,mv 37 5,mv 38 6,o1 39 (.build 53 [vci 0,vci 0] [] 1 [(0,(tm 37)),(1,(tm 38))]),o1 40 (.buildSlice 0 36 53 kP 1 [vci 0,vci 0] [(0,(tm 39))]),o1 41 (.append 1 36 53 kP 16 (tm 36) (tm 40)),o1 4 (sg 41)] 2 none)
  .skip))) (rl 21 21 [])
 A13v1)
def A13v3 : AC := (.seq (.seq (.region 7 [mv 15 6,mv 16 3,o1 17 (.len 31 false (tm 16)),o1 18 (bt .lss 3 15 17)] 0 none) []
 (.cond (tm 18)
 .skip
 (.exit 2 (0 :: 2 :: (rl 6 37 []))))) (rl 15 4 [])
 A13v2)
def A13v4 : AC := (.region 5 [mv 13 5,o1 14 (bk .add 3 13 1),o1 5 (sg 14)] 0 none)
def A13v5 : AC := (.seq (.block 1
 (.seq (.region 6 [o1 6 (sk 0)] 0 none) []
  (.block 2
  (.loop [.slot 4 kP] (0 :: 2 :: (rl 7 36 []))
   A13v3)))) (6 :: (rl 15 27 []))
 A13v4)
def A13v6 : AC := (.seq (.seq (.region 4 [mv 9 5,mv 10 3,o1 11 (.len 31 false (tm 10)),o1 12 (bt .lss 3 9 11)] 0 none) []
 (.cond (tm 12)
 .skip
 (.exit 0 (rl 0 4 (rl 5 38 []))))) (rl 9 4 [])
 A13v5)
def A13v7 : AC := (.seq (.region 11 [mv 42 4,o1 2 (sg 42)] 0 none) []
 (.ret (0 :: 1 :: (rl 3 40 []))))
def A13 : AF := ⟨43,[.tmp 2],
 (.seq (.region 0 [o1 1 (bx 0 28 0),o1 2 (.assign (.const (.slice none 0 0)))] 1 none) []
 (.seq (.region 1 [o1 7 (ln 28 6 1),o1 8 (cf 24 [7] [28]),o1 3 (sg 8)] 0 none) []
 (.seq (.region 2 [o1 4 (.assign (.const (.slice none 0 0)))] 0 none) []
 (.seq (.seq (.region 3 [o1 5 (sk 0)] 0 none) []
 (.block 0
 (.loop [.slot 4 kP] (0 :: 2 :: (rl 6 37 []))
  A13v6))) (5 :: 6 :: (rl 9 33 []))
 A13v7))))⟩
def N254v2 : St → Option St := nN 2 (0 :: 2 :: (rl 7 36 []))
def s254v0 : St := ⟨(.u :: .x (.ptr 0 0) :: .u :: .x (.c (ro (.pr .str .nil) n0 f0)) :: .x (.own 1 0 n1) :: vxi i0 :: vxi i1 :: (us 36 [])),[.box [(vcs w0),(.c (ro kC n2 f1)),(.c (ro kA n3 f2)),(.c (ro kE n4 f3)),(.c (ro kB n5 f4)),(.c (ro kD n6 f5))],.arr kP n1 f6]⟩
def s254v1 : St := ⟨(.u :: .x (.ptr 0 0) :: .u :: .x (.c (ro (.pr .str .nil) n0 f0)) :: .x (.own 1 0 n1) :: vxi i0 :: (us 37 [])),[.box [(vcs w0),(.c (ro kC n2 f1)),(.c (ro kA n3 f2)),(.c (ro kE n4 f3)),(.c (ro kB n5 f4)),(.c (ro kD n6 f5))],.arr kP n1 f6]⟩
def L254v2 {ρ : Type} (u : Nat) (x0 : Nat) (x1 : FF) (x2 : Int) (x3 : ByteArray) (x4 : Nat) (x5 : FF) (x6 : Nat) (x7 : FF) (x8 : Nat) (x9 : FF) (xA : Nat) (xB : FF) (xC : Nat) (xD : FF) : Nat → Nat → Int → FF → (Nat → FF → Option ρ) → Option ρ
 | 0,_,_,_,_ => none
 | m + 1,xE,xF,xG,k0 =>
  (bif (decide (xF < (Int.ofNat x0))) then (bif ((x2 != xF) == true) then (bif (inb x2 x0) then (bif (inb xF x0) then (ob (F253 u x3 x4 x5 x6 x7 x8 x9 xA xB xC xD (x1 x2.toNat 0).str (x1 xF.toNat 0).str) fun xH => (bif xH then (bif (Nat.ble (xE + 1) 1073741824) then (L254v2 u x0 x1 x2 x3 x4 x5 x6 x7 x8 x9 xA xB xC xD m (xE + 1) (w64 (xF + 1)) (joinF xE xG (rowsF 2 [(.i .i64 x2),(.i .i64 xF)])) k0) else none) else (L254v2 u x0 x1 x2 x3 x4 x5 x6 x7 x8 x9 xA xB xC xD m xE (w64 (xF + 1)) xG k0))) else none) else none) else (L254v2 u x0 x1 x2 x3 x4 x5 x6 x7 x8 x9 xA xB xC xD m xE (w64 (xF + 1)) xG k0)) else (k0 xE xG))
theorem nl254v2 : ∀ (m : Nat) (x0 : Nat) (x1 : Int) (x2 : FF) (k0 : Nat → FF → Option ρ),ob (L254v2 u n0 f0 i0 w0 n1 f1 n2 f2 n3 f3 n4 f4 n5 f5 m x0 x1 x2 k0) ng = L254v2 u n0 f0 i0 w0 n1 f1 n2 f2 n3 f3 n4 f4 n5 f5 m x0 x1 x2 (fun x3 x4 => ob (k0 x3 x4) ng)
 | 0,_,_,_,_ => rfl
 | m + 1,x0,x1,x2,k0 => by
  simp only [L254v2,ob_bif,ob_ob,ob_none,nl254v2 m]
theorem r254v2 :
  loopH (eB A13v3 (C27 u) u) N254v2 (m + 1) (s254v0 n0 n6 n1 n2 n3 n4 n5 f0 f1 f2 f3 f4 f5 f6 i0 i1 w0) k =
  (bif (decide (i1 < (Int.ofNat n0))) then (bif ((i0 != i1) == true) then (bif (inb i0 n0) then (bif (inb i1 n0) then (ob (F253 u w0 n1 f1 n2 f2 n3 f3 n4 f4 n5 f5 (f0 i0.toNat 0).str (f0 i1.toNat 0).str) fun x0 => (bif x0 then (bif (Nat.ble (n6 + 1) 1073741824) then (loopH (eB A13v3 (C27 u) u) N254v2 m (s254v0 n0 (n6 + 1) n1 n2 n3 n4 n5 f0 f1 f2 f3 f4 f5 (joinF n6 f6 (rowsF 2 [(vi i0),(vi i1)])) i0 (w64 (i1 + 1)) w0) k) else none) else (loopH (eB A13v3 (C27 u) u) N254v2 m (s254v0 n0 n6 n1 n2 n3 n4 n5 f0 f1 f2 f3 f4 f5 f6 i0 (w64 (i1 + 1)) w0) k))) else none) else none) else (loopH (eB A13v3 (C27 u) u) N254v2 m (s254v0 n0 n6 n1 n2 n3 n4 n5 f0 f1 f2 f3 f4 f5 f6 i0 (w64 (i1 + 1)) w0) k)) else (k (.exit 2) (s254v1 n0 n6 n1 n2 n3 n4 n5 f0 f1 f2 f3 f4 f5 f6 i0 w0))) := by kernel_rfl
theorem q254v2 : ∀ (m : Nat) (x0 : Nat) (x1 : Int) (x2 : FF),
  loopH (eB A13v3 (C27 u) u) N254v2 m (s254v0 n0 x0 n1 n2 n3 n4 n5 f0 f1 f2 f3 f4 f5 x2 i0 x1 w0) k = L254v2 u n0 f0 i0 w0 n1 f1 n2 f2 n3 f3 n4 f4 n5 f5 m x0 x1 x2 (fun x3 x4 => k (.exit 2) (s254v1 n0 x3 n1 n2 n3 n4 n5 f0 f1 f2 f3 f4 f5 x4 i0 w0))
 | 0,_,_,_ => rfl
 | m + 1,x0,x1,x2 => by
  rw [r254v2]
  simp only [L254v2,q254v2 m]
def N254v3 : St → Option St := nN 2 (0 :: 2 :: (rl 6 37 []))
def s254v2 : St := ⟨(.u :: .x (.ptr 0 0) :: .u :: .x (.c (ro (.pr .str .nil) n0 f0)) :: .x (.own 1 0 n1) :: vxi i0 :: (us 37 [])),[.box [(vcs w0),(.c (ro kC n2 f1)),(.c (ro kA n3 f2)),(.c (ro kE n4 f3)),(.c (ro kB n5 f4)),(.c (ro kD n6 f5))],.arr kP n1 f6]⟩
def s254v3 : St := ⟨(us 4 (.x (.own 1 0 n0) :: (us 38 []))),[.box [(vcs w0),(.c (ro kC n1 f0)),(.c (ro kA n2 f1)),(.c (ro kE n3 f2)),(.c (ro kB n4 f3)),(.c (ro kD n5 f4))],.arr kP n0 f5]⟩
def L254v3 {ρ : Type} (u : Nat) (x0 : Nat) (x1 : FF) (x2 : ByteArray) (x3 : Nat) (x4 : FF) (x5 : Nat) (x6 : FF) (x7 : Nat) (x8 : FF) (x9 : Nat) (xA : FF) (xB : Nat) (xC : FF) : Nat → Nat → Int → FF → (Nat → FF → Option ρ) → Option ρ
 | 0,_,_,_,_ => none
 | m + 1,xD,xE,xF,k0 =>
  (bif (decide (xE < (Int.ofNat x0))) then (L254v2 u x0 x1 xE x2 x3 x4 x5 x6 x7 x8 x9 xA xB xC u xD 0 xF
  (fun xG xH => (L254v3 u x0 x1 x2 x3 x4 x5 x6 x7 x8 x9 xA xB xC m xG (w64 (xE + 1)) xH k0))) else (k0 xD xF))
theorem nl254v3 : ∀ (m : Nat) (x0 : Nat) (x1 : Int) (x2 : FF) (k0 : Nat → FF → Option ρ),ob (L254v3 u n0 f0 w0 n1 f1 n2 f2 n3 f3 n4 f4 n5 f5 m x0 x1 x2 k0) ng = L254v3 u n0 f0 w0 n1 f1 n2 f2 n3 f3 n4 f4 n5 f5 m x0 x1 x2 (fun x3 x4 => ob (k0 x3 x4) ng)
 | 0,_,_,_,_ => rfl
 | m + 1,x0,x1,x2,k0 => by
  simp only [L254v3,ob_bif,ob_ob,ob_none,nl254v3 m,nl254v2]
def s254v4 : St := ⟨(.u :: .x (.ptr 0 0) :: .u :: .x (.c (ro (.pr .str .nil) n0 f0)) :: .x (.own 1 0 n1) :: vxi i0 :: vxi 0 :: (us 36 [])),[.box [(vcs w0),(.c (ro kC n2 f1)),(.c (ro kA n3 f2)),(.c (ro kE n4 f3)),(.c (ro kB n5 f4)),(.c (ro kD n6 f5))],.arr kP n1 f6]⟩
theorem r254v3 :
  loopH (eB A13v6 (C27 u) u) N254v3 (m + 1) (s254v2 n0 n6 n1 n2 n3 n4 n5 f0 f1 f2 f3 f4 f5 f6 i0 w0) k =
  (bif (decide (i0 < (Int.ofNat n0))) then (loopN (eB A13v3 (C27 u) u) N254v2 u (s254v4 n0 n6 n1 n2 n3 n4 n5 f0 f1 f2 f3 f4 f5 f6 i0 w0) (kBlk 2 (kBlk 1 (kSeq (C27 u) u (6 :: (rl 15 27 [])) A13v4 (kLoop (eB A13v6 (C27 u) u) N254v3 m k))))) else (k (.exit 0) (s254v3 n6 n1 n2 n3 n4 n5 f1 f2 f3 f4 f5 f6 w0))) := by kernel_rfl
theorem t254v1 :
  loopN (eB A13v3 (C27 u) u) N254v2 u (s254v4 n0 n1 n2 n3 n4 n5 n6 f0 f1 f2 f3 f4 f5 f6 i0 w0) k =
  L254v2 u n0 f0 i0 w0 n2 f1 n3 f2 n4 f3 n5 f4 n6 f5 u n1 0 f6 (fun x0 x1 => k (.exit 2) (s254v1 n0 x0 n2 n3 n4 n5 n6 f0 f1 f2 f3 f4 f5 x1 i0 w0)) :=
 Eq.trans (loopN_at (by kernel_rfl)) (q254v2 ..)
theorem g254v2 :
  (kBlk 2 (kBlk 1 (kSeq (C27 u) u (6 :: (rl 15 27 [])) A13v4 (kLoop (eB A13v6 (C27 u) u) N254v3 m k)))) (.exit 2) (s254v1 n0 n1 n2 n3 n4 n5 n6 f0 f1 f2 f3 f4 f5 f6 i0 w0) =
  (loopH (eB A13v6 (C27 u) u) N254v3 m (s254v2 n0 n1 n2 n3 n4 n5 n6 f0 f1 f2 f3 f4 f5 f6 (w64 (i0 + 1)) w0) k) := by kernel_rfl
theorem q254v3 : ∀ (m : Nat) (x0 : Nat) (x1 : Int) (x2 : FF),
  loopH (eB A13v6 (C27 u) u) N254v3 m (s254v2 n0 x0 n1 n2 n3 n4 n5 f0 f1 f2 f3 f4 f5 x2 x1 w0) k = L254v3 u n0 f0 w0 n1 f1 n2 f2 n3 f3 n4 f4 n5 f5 m x0 x1 x2 (fun x3 x4 => k (.exit 0) (s254v3 x3 n1 n2 n3 n4 n5 f1 f2 f3 f4 f5 x4 w0))
 | 0,_,_,_ => rfl
 | m + 1,x0,x1,x2 => by
  rw [r254v3]
  simp only [L254v3,q254v3 m,t254v1,g254v2]
def F254 (x0 : ByteArray) (x1 : Nat) (x2 : FF) (x3 : Nat) (x4 : FF) (x5 : Nat) (x6 : FF) (x7 : Nat) (x8 : FF) (x9 : Nat) (xA : FF) : Option (Nat × FF) :=
 (ob (F252 u x0 x1 x2 x3 x4 x5 x6 x7 x8 x9 xA) fun xB => (L254v3 u xB.1 xB.2 x0 x1 x2 x3 x4 x5 x6 x7 x8 x9 xA u 0 0 (fun _ _ => .any)
  (fun xC xD => (some (xC,xD)))))
def s254v5 (x0 : Nat × FF) : St := ⟨[.agg [(vcs w0),(.c (ro kC n0 f0)),(.c (ro kA n1 f1)),(.c (ro kE n2 f2)),(.c (ro kB n3 f3)),(.c (ro kD n4 f4))],.x (.ptr 0 0),.x (vcn),.x (.c (ro (.pr .str .nil) x0.1 x0.2)),.x (.own 1 0 0),vxi 0,uu,.agg [(vcs w0),(.c (ro kC n0 f0)),(.c (ro kA n1 f1)),(.c (ro kE n2 f2)),(.c (ro kB n3 f3)),(.c (ro kD n4 f4))],.x (.c (ro (.pr .str .nil) x0.1 x0.2)),uu,uu,uu,uu,uu,uu,uu,uu,uu,uu,uu,uu,uu,uu,uu,uu,uu,uu,uu,uu,uu,uu,uu,uu,uu,uu,uu,uu,uu,uu,uu,uu,uu,uu],[.box [(vcs w0),(.c (ro kC n0 f0)),(.c (ro kA n1 f1)),(.c (ro kE n2 f2)),(.c (ro kB n3 f3)),(.c (ro kD n4 f4))],.arr kP 0 nilF]⟩
theorem t254v3 (x0 : Nat × FF) :
  loopN (eB A13v6 (C27 u) u) N254v3 u (s254v5 n0 n1 n2 n3 n4 f0 f1 f2 f3 f4 w0 x0) k =
  L254v3 u x0.1 x0.2 w0 n0 f0 n1 f1 n2 f2 n3 f3 n4 f4 u 0 0 nilF (fun x1 x2 => k (.exit 0) (s254v3 x1 n0 n1 n2 n3 n4 f0 f1 f2 f3 f4 x2 w0)) :=
 Eq.trans (loopN_at (by kernel_rfl)) (q254v3 ..)
theorem g254v4 :
  (kBlk 0 (kSeq (C27 u) u (5 :: 6 :: (rl 9 33 [])) A13v7 (finish A13))) (.exit 0) (s254v3 n0 n1 n2 n3 n4 n5 f0 f1 f2 f3 f4 f5 w0) =
  (some [.v (ro kP n0 f5)]) := by kernel_rfl
theorem e254 : evalF (C27 u) u A13 [.agg [(.s w0),(ro kC n0 f0),(ro kA n1 f1),(ro kE n2 f2),(ro kB n3 f3),(ro kD n4 f4)]] = ob (F254 u w0 n0 f0 n1 f1 n2 f2 n3 f3 n4 f4) fun t => some [.v (ro kP t.1 t.2)] := Eq.trans (b := (ob (F252 u w0 n0 f0 n1 f1 n2 f2 n3 f3 n4 f4) fun x0 => (loopN (eB A13v6 (C27 u) u) N254v3 u (s254v5 n0 n1 n2 n3 n4 f0 f1 f2 f3 f4 w0 x0) (kBlk 0 (kSeq (C27 u) u (5 :: 6 :: (rl 9 33 [])) A13v7 (finish A13)))))) (by kernel_rfl) (by
 simp only [F254,ob_bif,ob_ob,ob_none,ob_some,nl254v3,t254v3,g254v4])
def O254 : Ora := mkO (q1 (ag (tc cS (tc (cL kC) (tc (cL kA) (tc (cL kE) (tc (cL kB) (t1 (cL kD))))))))) (fun x => F254 u x.1 x.2.1.1 x.2.1.2 x.2.2.1.1 x.2.2.1.2 x.2.2.2.1.1 x.2.2.2.1.2 x.2.2.2.2.1.1 x.2.2.2.2.1.2 x.2.2.2.2.2.1 x.2.2.2.2.2.2) fun t => [.v (ro kP t.1 t.2)]
theorem d254 : DO (O254 u) (C27 u) 13 A13 := dO u (fun x => by exact e254 u x.2.1.1 x.2.2.1.1 x.2.2.2.1.1 x.2.2.2.2.1.1 x.2.2.2.2.2.1 x.2.1.2 x.2.2.1.2 x.2.2.2.1.2 x.2.2.2.2.1.2 x.2.2.2.2.2.2 x.1)
def C28 : Oracle := (C27 u).add 13 (fun _ => true) (O254 u)
def A39v1 : AC := (.seq (.region 7 [mv 40 6,mv 41 7,o1 42 (bt .eql 3 40 41)] 0 none) []
 (.cond (tm 42)
 (.seq (.region 8 [o1 4 (sk 2)] 0 none) []
  (.ret (rl 0 4 (rl 5 38 []))))
 .skip))
def A39v2 : AC := (.region 3 [mv 12 5,o1 13 (bk .add 3 12 1),o1 5 (sg 13)] 0 none)
def A39v3 : AC := (.seq (.block 1
 (.seq (.region 4 [mv 14 1,mv 15 5,o1 16 (.indexAddr 36 53 2 (tm 14) (tm 15)),o1 17 (.indexAddrA 53 3 2 1 (tm 16) (ic 0)),o1 18 (lo 3 17),mv 19 1,mv 20 5,o1 21 (.indexAddr 36 53 2 (tm 19) (tm 20)),o1 22 (.indexAddrA 53 3 2 1 (tm 21) (ic 1)),o1 23 (lo 3 22),o1 6 (sg 18),o1 7 (sg 23)] 0 (some [[],[],[0,1],[0,1,2],(rl 0 4 []),[],[],[5,6],[5,6,7],(rl 5 4 []),(rl 0 5 []),(rl 0 11 [])])) []
  (.seq (.seq (.region 5 [mv 24 6,o1 25 (bk .lss 3 24 0),mv 26 25,og 27 (.move (tm 6)) 26 false,og 28 (.move (tm 0)) 26 false,og 29 (bt .geq 3 27 28) 26 false,o1 30 (pa 26 29),mv 31 30,og 32 (.move (tm 7)) 31 false,og 33 (bk .lss 3 32 0) 31 false,o1 34 (pa 31 33),mv 35 34,og 36 (.move (tm 7)) 35 false,og 37 (.move (tm 0)) 35 false,og 38 (bt .geq 3 36 37) 35 false,o1 39 (pa 35 38)] 0 none) []
  (.cond (tm 39)
  (.seq (.region 6 [o1 4 (sk 9)] 0 none) []
   (.ret (rl 0 4 (rl 5 38 []))))
  .skip)) (4 :: (rl 24 16 []))
  A39v1))) (4 :: 6 :: 7 :: (rl 14 29 []))
 A39v2)
def A39v4 : AC := (.seq (.seq (.region 2 [mv 8 5,mv 9 1,o1 10 (.len 36 false (tm 9)),o1 11 (bt .lss 3 8 10)] 0 none) []
 (.cond (tm 11)
 .skip
 (.exit 0 (rl 0 43 [])))) (rl 8 4 [])
 A39v3)
def A39v5 : AC := (.seq (.region 9 [o1 4 (sk 0)] 0 none) []
 (.ret (rl 0 4 (rl 5 38 []))))
def A39 : AF := ⟨43,[.tmp 4],
 (.seq (.region 0 [o1 4 (sk 0)] 0 none) []
 (.seq (.seq (.region 1 [o1 5 (sk 0)] 0 none) []
 (.block 0
 (.loop [] (2 :: 3 :: 4 :: (rl 6 37 []))
  A39v4))) (rl 4 39 [])
 A39v5))⟩
def N228v1 : St → Option St := nN 0 (2 :: 3 :: 4 :: (rl 6 37 []))
def s228v0 : St := ⟨(vxi i0 :: .x (.c (ro kP n0 f0)) :: (us 3 (vxi i1 :: (us 37 [])))),[]⟩
def s228v1 : St := ⟨(us 4 (vxi i0 :: (us 38 []))),[]⟩
def s228v2 : St := ⟨(us 43 []),[]⟩
def L228v1 {ρ : Type} (u : Nat) (x0 : Int) (x1 : Nat) (x2 : FF) : Nat → Int → (Int → Option ρ) → (Option ρ) → Option ρ
 | 0,_,_,_ => none
 | m + 1,x3,k0,k1 =>
  (bif (decide (x3 < (Int.ofNat x1))) then (bif (inb x3 x1) then (bif (inb x3 x1) then (bif ((decide ((x2 x3.toNat 0).int < 0)) == false) then (bif ((decide ((x2 x3.toNat 0).int ≥ x0)) == false) then (bif ((decide ((x2 x3.toNat 1).int < 0)) == false) then (bif (decide ((x2 x3.toNat 1).int ≥ x0)) then (k0 9) else (bif ((x2 x3.toNat 0).int == (x2 x3.toNat 1).int) then (k0 2) else (L228v1 u x0 x1 x2 m (w64 (x3 + 1)) k0 k1))) else (k0 9)) else (k0 9)) else (k0 9)) else none) else none) else k1)
theorem nl228v1 : ∀ (m : Nat) (x0 : Int) (k0 : Int → Option ρ) (k1 : Option ρ),ob (L228v1 u i0 n0 f0 m x0 k0 k1) ng = L228v1 u i0 n0 f0 m x0 (fun x1 => ob (k0 x1) ng) (ob k1 ng)
 | 0,_,_,_ => rfl
 | m + 1,x0,k0,k1 => by
  simp only [L228v1,ob_bif,ob_ob,ob_none,nl228v1 m]
theorem r228v1 :
  loopH (eB A39v4 (C28 u) u) N228v1 (m + 1) (s228v0 n0 f0 i0 i1) k =
  (bif (decide (i1 < (Int.ofNat n0))) then (bif (inb i1 n0) then (bif (inb i1 n0) then (bif ((decide ((f0 i1.toNat 0).int < 0)) == false) then (bif ((decide ((f0 i1.toNat 0).int ≥ i0)) == false) then (bif ((decide ((f0 i1.toNat 1).int < 0)) == false) then (bif (decide ((f0 i1.toNat 1).int ≥ i0)) then (k .ret (s228v1 9)) else (bif ((f0 i1.toNat 0).int == (f0 i1.toNat 1).int) then (k .ret (s228v1 2)) else (loopH (eB A39v4 (C28 u) u) N228v1 m (s228v0 n0 f0 i0 (w64 (i1 + 1))) k))) else (k .ret (s228v1 9))) else (k .ret (s228v1 9))) else (k .ret (s228v1 9))) else none) else none) else (k (.exit 0) s228v2)) := by kernel_rfl
theorem q228v1 : ∀ (m : Nat) (x0 : Int),
  loopH (eB A39v4 (C28 u) u) N228v1 m (s228v0 n0 f0 i0 x0) k = L228v1 u i0 n0 f0 m x0 (fun x1 => k .ret (s228v1 x1)) (k (.exit 0) s228v2)
 | 0,_ => rfl
 | m + 1,x0 => by
  rw [r228v1]
  simp only [L228v1,q228v1 m]
def F228 (x0 : Int) (x1 : Nat) (x2 : FF) : Option (Int) :=
 (L228v1 u x0 x1 x2 u 0
  (fun x3 => (some x3))
  (some 0))
def s228v3 : St := ⟨[vxi i0,.x (.c (ro kP n0 f0)),uu,uu,vxi 0,vxi 0,uu,uu,uu,uu,uu,uu,uu,uu,uu,uu,uu,uu,uu,uu,uu,uu,uu,uu,uu,uu,uu,uu,uu,uu,uu,uu,uu,uu,uu,uu,uu,uu,uu,uu,uu,uu,uu],[]⟩
theorem t228v1 :
  loopN (eB A39v4 (C28 u) u) N228v1 u (s228v3 n0 f0 i0) k =
  L228v1 u i0 n0 f0 u 0 (fun x0 => k .ret (s228v1 x0)) (k (.exit 0) s228v2) :=
 Eq.trans (loopN_at (by kernel_rfl)) (q228v1 ..)
theorem g228v2 :
  (kBlk 0 (kSeq (C28 u) u (rl 4 39 []) A39v5 (finish A39))) .ret (s228v1 i0) =
  (some [.v (vi i0)]) := by kernel_rfl
theorem g228v3 :
  (kBlk 0 (kSeq (C28 u) u (rl 4 39 []) A39v5 (finish A39))) (.exit 0) s228v2 =
  (some [.v (vi 0)]) := by kernel_rfl
theorem e228 : evalF (C28 u) u A39 [.v (vi i0),.v (ro kP n0 f0)] = ob (F228 u i0 n0 f0) fun t => some [.v (vi t)] := Eq.trans (b := (loopN (eB A39v4 (C28 u) u) N228v1 u (s228v3 n0 f0 i0) (kBlk 0 (kSeq (C28 u) u (rl 4 39 []) A39v5 (finish A39))))) (by kernel_rfl) (by
 simp only [F228,ob_bif,ob_ob,ob_none,ob_some,nl228v1,t228v1,g228v2,g228v3])
def O228 : Ora := mkO (qc (av ci) (q1 (av (cL kP)))) (fun x => F228 u x.1 x.2.1 x.2.2) fun t => [.v (vi t)]
theorem d228 : DO (O228 u) (C28 u) 39 A39 := dO u (fun x => by exact e228 u x.2.1 x.2.2 x.1)
def C29 : Oracle := (C28 u).add 39 (fun _ => true) (O228 u)
def A25v1 : AC := (.region 12 [mv 37 10,o1 38 (bk .add 3 37 1),o1 10 (sg 38)] 0 none)
def A25v2 : AC := (.seq (.block 3
 (.seq (.region 13 [mv 39 8,mv 40 1,mv 41 10,o1 42 (.indexAddr 36 53 2 (tm 40) (tm 41)),o1 43 (.indexAddrA 53 3 2 1 (tm 42) (ic 0)),o1 44 (lo 3 43),o1 45 (.indexAddr 76 4 1 (tm 39) (tm 44)),o1 46 (lo 4 45),o1 47 (.unOp .not 4 (tm 46))] 0 none) []
  (.cond (tm 47)
  (.region 14 [mv 48 9,mv 49 1,mv 50 10,o1 51 (.indexAddr 36 53 2 (tm 49) (tm 50)),o1 52 (.indexAddrA 53 3 2 1 (tm 51) (ic 1)),o1 53 (lo 3 52),o1 54 (.indexAddr 76 4 1 (tm 48) (tm 53)),o0 (.store 4 1 (tm 54) (.const (.bool true)))] 0 none)
  .skip))) (rl 39 16 [])
 A25v1)
def A25v3 : AC := (.seq (.seq (.region 11 [mv 33 10,mv 34 1,o1 35 (.len 36 false (tm 34)),o1 36 (bt .lss 3 33 35)] 0 none) []
 (.cond (tm 36)
 .skip
 (.exit 2 (rl 2 5 (rl 10 74 []))))) (rl 33 4 [])
 A25v2)
def A25v4 : AC := (.region 18 [mv 59 12,o1 60 (bk .sub 3 59 1),o1 12 (sg 60)] 0 none)
def A25v5 : AC := (.seq (.block 5
 (.seq (.region 19 [mv 61 8,mv 62 12,o1 63 (.indexAddr 76 4 1 (tm 61) (tm 62)),o1 64 (lo 4 63),o1 65 (.unOp .not 4 (tm 64)),mv 66 65,og 67 (.move (tm 9)) 66 true,og 68 (.move (tm 12)) 66 true,og 69 (.indexAddr 76 4 1 (tm 67) (tm 68)) 66 true,og 70 (lo 4 69) 66 true,og 71 (.unOp .not 4 (tm 70)) 66 true,o1 72 (po 66 71)] 0 none) []
  (.cond (tm 72)
  (.region 20 [mv 73 12,o1 11 (sg 73)] 0 none)
  .skip))) (rl 61 13 [])
 A25v4)
def A25v6 : AC := (.seq (.seq (.region 17 [mv 57 12,o1 58 (bk .geq 3 57 0)] 0 none) []
 (.cond (tm 58)
 .skip
 (.exit 4 (rl 2 5 (9 :: 10 :: (rl 12 72 [])))))) [57,58]
 A25v5)
def A25v7 : AC := (.seq (.region 23 [mv 76 8,mv 77 11,o1 78 (.indexAddr 76 4 1 (tm 76) (tm 77)),o0 (.store 4 1 (tm 78) (.const (.bool true)))] 0 none) []
 (.region 24 [mv 79 7,mv 80 11,o1 81 (.buildSlice 0 55 3 (.pr (.int .i64) .nil) 1 [vci 0] [(0,(tm 80))]),o1 82 (.append 1 55 3 (.pr (.int .i64) .nil) 8 (tm 79) (tm 81)),o1 7 (sg 82)] 2 none))
def A25v8 : AC := (.seq (.seq (.region 21 [mv 74 11,o1 75 (bk .lss 3 74 0)] 0 none) []
 (.cond (tm 75)
 (.seq (.region 22 [o1 4 (.assign (.const (.slice none 0 0))),o1 5 (sk 20)] 0 none) []
  (.ret (rl 0 4 (rl 6 78 []))))
 .skip)) [4,5,74,75]
 A25v7)
def A25v9 : AC := (.seq (.region 15 [o1 11 (sk (-1))] 0 none) []
 (.seq (.seq (.region 16 [mv 55 0,o1 56 (bk .sub 3 55 1),o1 12 (sg 56)] 0 none) []
 (.block 4
 (.loop [] (rl 2 5 (10 :: (rl 13 71 [])))
  A25v6))) (12 :: (rl 55 19 []))
 A25v8))
def A25v10 : AC := (.block 1
 (.seq (.region 9 [mv 31 0,o1 32 (.makeSlice 0 76 4 (.pr .bool .nil) 1 [(.b false)] (tm 31) (tm 31)),o1 9 (sg 32)] 1 none) []
  (.seq (.seq (.region 10 [o1 10 (sk 0)] 0 none) []
  (.block 2
  (.loop [] (rl 2 5 (rl 11 73 []))
   A25v3))) (10 :: (rl 33 22 []))
  A25v9)))
def A25v11 : AC := (.seq (.seq (.region 8 [mv 27 7,o1 28 (.len 55 false (tm 27)),mv 29 0,o1 30 (bt .lss 3 28 29)] 0 none) []
 (.cond (tm 30)
 .skip
 (.exit 0 (rl 0 7 (rl 8 76 []))))) (rl 27 4 [])
 A25v10)
def A25v12 : AC := (.seq (.region 25 [mv 83 7,o1 4 (sg 83),o1 5 (sk 0)] 0 none) []
 (.ret (rl 0 4 (rl 6 78 []))))
def A25v13 : AC := (.seq (.region 6 [o1 7 (.assign (.const (.slice none 0 0)))] 0 none) []
 (.seq (.region 7 [mv 25 0,o1 26 (.makeSlice 0 76 4 (.pr .bool .nil) 1 [(.b false)] (tm 25) (tm 25)),o1 8 (sg 26)] 1 none) []
 (.seq (.block 0
 (.loop [.slot 7 (.pr (.int .i64) .nil)] (rl 2 5 (rl 9 75 []))
  A25v11)) (4 :: 5 :: (rl 9 4 (rl 27 56 [])))
 A25v12)))
def A25v14 : AC := (.seq (.seq (.region 3 [mv 19 0,mv 20 1,o1 21 (cs 39 [19,20] [3,36]),o1 6 (sg 21)] 0 none) []
 (.seq (.region 4 [mv 22 6,o1 23 (bk .neq 32 22 0)] 0 none) []
 (.cond (tm 23)
 (.seq (.region 5 [mv 24 6,o1 4 (.assign (.const (.slice none 0 0))),o1 5 (sg 24)] 0 none) []
  (.ret (rl 0 4 (rl 6 78 []))))
 .skip))) (4 :: 5 :: 6 :: (rl 19 6 []))
 A25v13)
def A25 : AF := ⟨84,[.tmp 4,.tmp 5],
 (.seq (.region 0 [o1 4 (.assign (.const (.slice none 0 0))),o1 5 (sk 0)] 0 none) []
 (.seq (.seq (.region 1 [mv 13 0,o1 14 (bk .lss 3 13 0),mv 15 14,og 16 (.move (tm 0)) 15 false,og 17 (bk .gtr 3 16 256) 15 false,o1 18 (pa 15 17)] 0 none) []
 (.cond (tm 18)
 (.seq (.region 2 [o1 4 (.assign (.const (.slice none 0 0))),o1 5 (sk 9)] 0 none) []
  (.ret (rl 0 4 (rl 6 78 []))))
 .skip)) (4 :: 5 :: (rl 13 6 []))
 A25v14))⟩
def N229v3 : St → Option St := nN 3 (rl 2 5 (rl 11 73 []))
def s229v0 : St := ⟨(vxi i0 :: .x (.c (ro kP n0 f0)) :: (us 5 (.x (.own 1 0 n1) :: .x (.own 0 0 n2) :: .x (.own 2 0 n3) :: vxi i1 :: (us 73 [])))),[.arr (.pr .bool .nil) n2 f1,.arr (.pr (.int .i64) .nil) n1 f2,.arr (.pr .bool .nil) n3 f3]⟩
def s229v1 : St := ⟨(vxi i0 :: .x (.c (ro kP n0 f0)) :: (us 5 (.x (.own 1 0 n1) :: .x (.own 0 0 n2) :: .x (.own 2 0 n3) :: (us 74 [])))),[.arr (.pr .bool .nil) n2 f1,.arr (.pr (.int .i64) .nil) n1 f2,.arr (.pr .bool .nil) n3 f3]⟩
def L229v3 {ρ : Type} (u : Nat) (x0 : Int) (x1 : Nat) (x2 : FF) (x3 x4 x5 : Nat) (x6 x7 : FF) : Nat → Int → FF → (FF → Option ρ) → Option ρ
 | 0,_,_,_ => none
 | m + 1,x8,x9,k0 =>
  (bif (decide (x8 < (Int.ofNat x1))) then (bif (inb x8 x1) then (bif (inb (x2 x8.toNat 0).int x4) then (bif (!(CV.bool (x6 (0 + (Int.toNat (x2 x8.toNat 0).int)) 0))) then (bif (inb x8 x1) then (bif (inb (x2 x8.toNat 1).int x5) then (L229v3 u x0 x1 x2 x3 x4 x5 x6 x7 m (w64 (x8 + 1)) (setF x9 (0 + (Int.toNat (x2 x8.toNat 1).int)) 0 1 (listF [(.b true)])) k0) else none) else none) else (L229v3 u x0 x1 x2 x3 x4 x5 x6 x7 m (w64 (x8 + 1)) x9 k0)) else none) else none) else (k0 x9))
theorem nl229v3 : ∀ (m : Nat) (x0 : Int) (x1 : FF) (k0 : FF → Option ρ),ob (L229v3 u i0 n0 f0 n1 n2 n3 f1 f2 m x0 x1 k0) ng = L229v3 u i0 n0 f0 n1 n2 n3 f1 f2 m x0 x1 (fun x2 => ob (k0 x2) ng)
 | 0,_,_,_ => rfl
 | m + 1,x0,x1,k0 => by
  simp only [L229v3,ob_bif,ob_ob,ob_none,nl229v3 m]
theorem r229v3 :
  loopH (eB A25v3 (C29 u) u) N229v3 (m + 1) (s229v0 n0 n1 n2 n3 f0 f1 f2 f3 i0 i1) k =
  (bif (decide (i1 < (Int.ofNat n0))) then (bif (inb i1 n0) then (bif (inb (f0 i1.toNat 0).int n2) then (bif (!(CV.bool (f1 (0 + (Int.toNat (f0 i1.toNat 0).int)) 0))) then (bif (inb i1 n0) then (bif (inb (f0 i1.toNat 1).int n3) then (loopH (eB A25v3 (C29 u) u) N229v3 m (s229v0 n0 n1 n2 n3 f0 f1 f2 (setF f3 (0 + (Int.toNat (f0 i1.toNat 1).int)) 0 1 (listF [(.b true)])) i0 (w64 (i1 + 1))) k) else none) else none) else (loopH (eB A25v3 (C29 u) u) N229v3 m (s229v0 n0 n1 n2 n3 f0 f1 f2 f3 i0 (w64 (i1 + 1))) k)) else none) else none) else (k (.exit 2) (s229v1 n0 n1 n2 n3 f0 f1 f2 f3 i0))) := by kernel_rfl
theorem q229v3 : ∀ (m : Nat) (x0 : Int) (x1 : FF),
  loopH (eB A25v3 (C29 u) u) N229v3 m (s229v0 n0 n1 n2 n3 f0 f1 f2 x1 i0 x0) k = L229v3 u i0 n0 f0 n1 n2 n3 f1 f2 m x0 x1 (fun x2 => k (.exit 2) (s229v1 n0 n1 n2 n3 f0 f1 f2 x2 i0))
 | 0,_,_ => rfl
 | m + 1,x0,x1 => by
  rw [r229v3]
  simp only [L229v3,q229v3 m]
def N229v4 : St → Option St := nN 3 (rl 2 5 (10 :: (rl 13 71 [])))
def s229v2 : St := ⟨(vxi i0 :: .x (.c (ro kP n0 f0)) :: (us 5 (.x (.own 1 0 n1) :: .x (.own 0 0 n2) :: .x (.own 2 0 n3) :: .u :: vxi i1 :: vxi i2 :: (us 71 [])))),[.arr (.pr .bool .nil) n2 f1,.arr (.pr (.int .i64) .nil) n1 f2,.arr (.pr .bool .nil) n3 f3]⟩
def s229v3 : St := ⟨(vxi i0 :: .x (.c (ro kP n0 f0)) :: (us 5 (.x (.own 1 0 n1) :: .x (.own 0 0 n2) :: .u :: .u :: vxi i1 :: (us 72 [])))),[.arr (.pr .bool .nil) n2 f1,.arr (.pr (.int .i64) .nil) n1 f2,.arr (.pr .bool .nil) n3 f3]⟩
def L229v4 {ρ : Type} (u : Nat) (x0 : Int) (x1 : Nat) (x2 : FF) (x3 x4 x5 : Nat) (x6 x7 x8 : FF) : Nat → Int → Int → (Int → Option ρ) → Option ρ
 | 0,_,_,_ => none
 | m + 1,x9,xA,k0 =>
  (bif (decide (xA ≥ 0)) then (bif (inb xA x4) then (bif ((!(x6 (0 + xA.toNat) 0).bool) == true) then (bif (inb xA x5) then (bif (!(x8 (0 + xA.toNat) 0).bool) then (L229v4 u x0 x1 x2 x3 x4 x5 x6 x7 x8 m xA (w64 (xA - 1)) k0) else (L229v4 u x0 x1 x2 x3 x4 x5 x6 x7 x8 m x9 (w64 (xA - 1)) k0)) else none) else (L229v4 u x0 x1 x2 x3 x4 x5 x6 x7 x8 m x9 (w64 (xA - 1)) k0)) else none) else (k0 x9))
theorem nl229v4 : ∀ (m : Nat) (x0 x1 : Int) (k0 : Int → Option ρ),ob (L229v4 u i0 n0 f0 n1 n2 n3 f1 f2 f3 m x0 x1 k0) ng = L229v4 u i0 n0 f0 n1 n2 n3 f1 f2 f3 m x0 x1 (fun x2 => ob (k0 x2) ng)
 | 0,_,_,_ => rfl
 | m + 1,x0,x1,k0 => by
  simp only [L229v4,ob_bif,ob_ob,ob_none,nl229v4 m]
theorem r229v4 :
  loopH (eB A25v6 (C29 u) u) N229v4 (m + 1) (s229v2 n0 n1 n2 n3 f0 f1 f2 f3 i0 i1 i2) k =
  (bif (decide (i2 ≥ 0)) then (bif (inb i2 n2) then (bif ((!(f1 (0 + i2.toNat) 0).bool) == true) then (bif (inb i2 n3) then (bif (!(f3 (0 + i2.toNat) 0).bool) then (loopH (eB A25v6 (C29 u) u) N229v4 m (s229v2 n0 n1 n2 n3 f0 f1 f2 f3 i0 i2 (w64 (i2 - 1))) k) else (loopH (eB A25v6 (C29 u) u) N229v4 m (s229v2 n0 n1 n2 n3 f0 f1 f2 f3 i0 i1 (w64 (i2 - 1))) k)) else none) else (loopH (eB A25v6 (C29 u) u) N229v4 m (s229v2 n0 n1 n2 n3 f0 f1 f2 f3 i0 i1 (w64 (i2 - 1))) k)) else none) else (k (.exit 4) (s229v3 n0 n1 n2 n3 f0 f1 f2 f3 i0 i1))) := by kernel_rfl
theorem q229v4 : ∀ (m : Nat) (x0 x1 : Int),
  loopH (eB A25v6 (C29 u) u) N229v4 m (s229v2 n0 n1 n2 n3 f0 f1 f2 f3 i0 x0 x1) k = L229v4 u i0 n0 f0 n1 n2 n3 f1 f2 f3 m x0 x1 (fun x2 => k (.exit 4) (s229v3 n0 n1 n2 n3 f0 f1 f2 f3 i0 x2))
 | 0,_,_ => rfl
 | m + 1,x0,x1 => by
  rw [r229v4]
  simp only [L229v4,q229v4 m]
def N229v5 : St → Option St := nN 2 (rl 2 5 (rl 9 75 []))
def s229v4 : St := ⟨(vxi i0 :: .x (.c (ro kP n0 f0)) :: (us 5 (.x (.own 1 0 n1) :: .x (.own 0 0 n2) :: (us 75 [])))),[.arr (.pr .bool .nil) n2 f1,.arr (.pr (.int .i64) .nil) n1 f2]⟩
def s229v5 : St := ⟨(us 4 (.x (vcn) :: vxi 20 :: (us 78 []))),[.arr (.pr .bool .nil) n0 f0,.arr (.pr (.int .i64) .nil) n1 f1,.arr (.pr .bool .nil) i0.toNat f2]⟩
def s229v6 : St := ⟨(us 7 (.x (.own 1 0 n0) :: (us 76 []))),[.arr (.pr .bool .nil) n1 f0,.arr (.pr (.int .i64) .nil) n0 f1]⟩
def L229v5 {ρ : Type} (u : Nat) (x0 : Int) (x1 : Nat) (x2 : FF) (x3 : Nat) : Nat → Nat → FF → FF → (FF → Nat → FF → FF → Option ρ) → (Nat → FF → FF → Option ρ) → Option ρ
 | 0,_,_,_,_,_ => none
 | m + 1,x4,x5,x6,k0,k1 =>
  (bif (decide ((Int.ofNat x4) < x0)) then (bif (decide (0 ≤ x0) && decide (x0 ≤ x0) && decide (x0 ≤ 1073741824) && true) then (L229v3 u x0 x1 x2 x4 x3 x0.toNat x5 x6 u 0 (fun _ j => listF [(.b false)] j)
  (fun x7 => (L229v4 u x0 x1 x2 x4 x3 x0.toNat x5 x6 x7 u (-1) (w64 (x0 - 1))
  (fun x8 => (bif (decide (x8 < 0)) then (k0 x5 x4 x6 x7) else (bif (inb x8 x3) then (bif (Nat.ble (x4 + 1) 1073741824) then (L229v5 u x0 x1 x2 x3 m (x4 + 1) (setF x5 (0 + x8.toNat) 0 1 (listF [(.b true)])) (joinF x4 x6 (rowsF 1 [(.i .i64 x8)])) k0 k1) else none) else none)))))) else none) else (k1 x4 x5 x6))
theorem nl229v5 : ∀ (m : Nat) (x0 : Nat) (x1 x2 : FF) (k0 : FF → Nat → FF → FF → Option ρ) (k1 : Nat → FF → FF → Option ρ),ob (L229v5 u i0 n0 f0 n1 m x0 x1 x2 k0 k1) ng = L229v5 u i0 n0 f0 n1 m x0 x1 x2 (fun x3 x4 x5 x6 => ob (k0 x3 x4 x5 x6) ng) (fun x7 x8 x9 => ob (k1 x7 x8 x9) ng)
 | 0,_,_,_,_,_ => rfl
 | m + 1,x0,x1,x2,k0,k1 => by
  simp only [L229v5,ob_bif,ob_ob,ob_none,nl229v5 m,nl229v3,nl229v4]
def s229v7 : St := ⟨(vxi i0 :: .x (.c (ro kP n0 f0)) :: (us 5 (.x (.own 1 0 n1) :: .x (.own 0 0 n2) :: .x (.own 2 0 i0.toNat) :: vxi 0 :: (us 20 (vxi i0 :: .x (.own 2 0 i0.toNat) :: (us 51 [])))))),[.arr (.pr .bool .nil) n2 f1,.arr (.pr (.int .i64) .nil) n1 f2,.arr (.pr .bool .nil) i0.toNat (fun _ j => listF [(.b false)] j)]⟩
theorem r229v5 :
  loopH (eB A25v11 (C29 u) u) N229v5 (m + 1) (s229v4 n0 n2 n1 f0 f1 f2 i0) k =
  (bif (decide ((Int.ofNat n2) < i0)) then (bif (decide (0 ≤ i0) && decide (i0 ≤ i0) && decide (i0 ≤ 1073741824) && true) then (loopN (eB A25v3 (C29 u) u) N229v3 u (s229v7 n0 n2 n1 f0 f1 f2 i0) (kBlk 2 (kSeq (C29 u) u (10 :: (rl 33 22 [])) A25v9 (kBlk 1 (kLoop (eB A25v11 (C29 u) u) N229v5 m k))))) else none) else (k (.exit 0) (s229v6 n2 n1 f1 f2))) := by kernel_rfl
theorem t229v1 :
  loopN (eB A25v3 (C29 u) u) N229v3 u (s229v7 n0 n1 n2 f0 f1 f2 i0) k =
  L229v3 u i0 n0 f0 n1 n2 i0.toNat f1 f2 u 0 (fun _ j => listF [(.b false)] j) (fun x0 => k (.exit 2) (s229v1 n0 n1 n2 i0.toNat f0 f1 f2 x0 i0)) :=
 Eq.trans (loopN_at (by kernel_rfl)) (q229v3 ..)
def s229v8 : St := ⟨(vxi i0 :: .x (.c (ro kP n0 f0)) :: (us 5 (.x (.own 1 0 n1) :: .x (.own 0 0 n2) :: .x (.own 2 0 i0.toNat) :: .u :: vxi (-1) :: vxi (w64 (i0 - 1)) :: (us 42 (vxi i0 :: vxi (w64 (i0 - 1)) :: (us 27 [])))))),[.arr (.pr .bool .nil) n2 f1,.arr (.pr (.int .i64) .nil) n1 f2,.arr (.pr .bool .nil) i0.toNat f3]⟩
theorem g229v2 :
  (kBlk 2 (kSeq (C29 u) u (10 :: (rl 33 22 [])) A25v9 (kBlk 1 (kLoop (eB A25v11 (C29 u) u) N229v5 m k)))) (.exit 2) (s229v1 n0 n1 n2 i0.toNat f0 f1 f2 f3 i0) =
  (loopN (eB A25v6 (C29 u) u) N229v4 u (s229v8 n0 n1 n2 f0 f1 f2 f3 i0) (kBlk 4 (kSeq (C29 u) u (12 :: (rl 55 19 [])) A25v8 (kBlk 1 (kLoop (eB A25v11 (C29 u) u) N229v5 m k))))) := by kernel_rfl
theorem t229v3 :
  loopN (eB A25v6 (C29 u) u) N229v4 u (s229v8 n0 n1 n2 f0 f1 f2 f3 i0) k =
  L229v4 u i0 n0 f0 n1 n2 i0.toNat f1 f2 f3 u (-1) (w64 (i0 - 1)) (fun x0 => k (.exit 4) (s229v3 n0 n1 n2 i0.toNat f0 f1 f2 f3 i0 x0)) :=
 Eq.trans (loopN_at (by kernel_rfl)) (q229v4 ..)
theorem g229v4 :
  (kBlk 4 (kSeq (C29 u) u (12 :: (rl 55 19 [])) A25v8 (kBlk 1 (kLoop (eB A25v11 (C29 u) u) N229v5 m k)))) (.exit 4) (s229v3 n0 n1 n2 i0.toNat f0 f1 f2 f3 i0 i1) =
  (bif (decide (i1 < 0)) then (k .ret (s229v5 n2 n1 f1 f2 f3 i0)) else (bif (inb i1 n2) then (bif (Nat.ble (n1 + 1) 1073741824) then (loopH (eB A25v11 (C29 u) u) N229v5 m (s229v4 n0 (n1 + 1) n2 f0 (setF f1 (0 + i1.toNat) 0 1 (listF [(.b true)])) (joinF n1 f2 (rowsF 1 [(vi i1)])) i0) k) else none) else none)) := by kernel_rfl
theorem q229v5 : ∀ (m : Nat) (x0 : Nat) (x1 x2 : FF),
  loopH (eB A25v11 (C29 u) u) N229v5 m (s229v4 n0 x0 n1 f0 x1 x2 i0) k = L229v5 u i0 n0 f0 n1 m x0 x1 x2 (fun x3 x4 x5 x6 => k .ret (s229v5 n1 x4 x3 x5 x6 i0)) (fun x7 x8 x9 => k (.exit 0) (s229v6 x7 n1 x8 x9))
 | 0,_,_,_ => rfl
 | m + 1,x0,x1,x2 => by
  rw [r229v5]
  simp only [L229v5,q229v5 m,t229v1,g229v2,t229v3,g229v4]
def FT229 (x0 : Int) (x1 : Nat) (x2 : FF) : Option (Bool × Nat × FF × Int) :=
 (bif ((decide (x0 < 0)) == false) then (bif (decide (x0 > 256)) then (some (true,0,(fun _ _ => .any),9)) else (ob (F228 u x0 x1 x2) fun x3 => (bif (x3 != 0) then (some (true,0,(fun _ _ => .any),x3)) else (bif (decide (0 ≤ x0) && decide (x0 ≤ x0) && decide (x0 ≤ 1073741824) && true) then (L229v5 u x0 x1 x2 x0.toNat u 0 (fun _ j => listF [(.b false)] j) (fun _ _ => .any)
  (fun x4 x5 x6 x7 => (some (true,0,(fun _ _ => .any),20)))
  (fun x8 x9 xA => (some (false,x8,xA,0)))) else none)))) else (some (true,0,(fun _ _ => .any),9)))
def s229v9 : St := ⟨(vxi i0 :: .x (.c (ro kP n0 f0)) :: uu :: uu :: (us 3 (.x (.own 1 0 0) :: .x (.own 0 0 i0.toNat) :: uu :: uu :: uu :: uu :: (us 12 [vxi i0,.x (.own 0 0 i0.toNat),uu,uu,uu,uu,uu,uu,uu,uu,uu,uu,uu,uu,uu,uu,uu,uu,uu,uu,uu,uu,uu,uu,uu,uu,uu,uu,uu,uu,uu,uu,uu,uu,uu,uu,uu,uu,uu,uu,uu,uu,uu,uu,uu,uu,uu,uu,uu,uu,uu,uu,uu,uu,uu,uu,uu,uu,uu])))),[.arr (.pr .bool .nil) i0.toNat (fun _ j => listF [(.b false)] j),.arr (.pr (.int .i64) .nil) 0 nilF]⟩
theorem t229v5 :
  loopN (eB A25v11 (C29 u) u) N229v5 u (s229v9 n0 f0 i0) k =
  L229v5 u i0 n0 f0 i0.toNat u 0 (fun _ j => listF [(.b false)] j) nilF (fun x0 x1 x2 x3 => k .ret (s229v5 i0.toNat x1 x0 x2 x3 i0)) (fun x4 x5 x6 => k (.exit 0) (s229v6 x4 i0.toNat x5 x6)) :=
 Eq.trans (loopN_at (by kernel_rfl)) (q229v5 ..)
theorem g229v6 :
  (kBlk 0 (kSeq (C29 u) u (4 :: 5 :: (rl 9 4 (rl 27 56 []))) A25v12 (finish A25))) .ret (s229v5 i0.toNat n0 f0 f1 f2 i0) =
  (some [.v (.ro true .nil 0 nilF),.v (vi 20)]) := by kernel_rfl
theorem g229v7 :
  (kBlk 0 (kSeq (C29 u) u (4 :: 5 :: (rl 9 4 (rl 27 56 []))) A25v12 (finish A25))) (.exit 0) (s229v6 n0 i0.toNat f0 f1) =
  (some [.v (ro (.pr (.int .i64) .nil) n0 f1),.v (vi 0)]) := by kernel_rfl
theorem e229 : evalF (C29 u) u A25 [.v (vi i0),.v (ro kP n0 f0)] = ob (FT229 u i0 n0 f0) fun t => some (bif t.1 then [.v (.ro true .nil 0 nilF),.v (vi t.2.2.2)] else [.v (ro (.pr (.int .i64) .nil) t.2.1 t.2.2.1),.v (vi 0)]) := Eq.trans (b := (bif ((decide (i0 < 0)) == false) then (bif (decide (i0 > 256)) then (some [.v (.ro true .nil 0 nilF),.v (vi 9)]) else (ob (F228 u i0 n0 f0) fun x0 => (bif (x0 != 0) then (some [.v (.ro true .nil 0 nilF),.v (vi x0)]) else (bif (decide (0 ≤ i0) && decide (i0 ≤ i0) && decide (i0 ≤ 1073741824) && true) then (loopN (eB A25v11 (C29 u) u) N229v5 u (s229v9 n0 f0 i0) (kBlk 0 (kSeq (C29 u) u (4 :: 5 :: (rl 9 4 (rl 27 56 []))) A25v12 (finish A25)))) else none)))) else (some [.v (.ro true .nil 0 nilF),.v (vi 9)]))) (by kernel_rfl) (by
 simp only [FT229,ob_bif,ob_ob,ob_none,ob_some,nl229v5,t229v5,g229v6,g229v7,cond_true,cond_false])
def F229 (x0 : Int) (x1 : Nat) (x2 : FF) : Option (Nat × FF × Int) := ob (FT229 u x0 x1 x2) fun t => some (bif t.1 then (0,(fun _ _ => .any),t.2.2.2) else (t.2.1,t.2.2.1,0))
def O229 : Ora := mkO (qc (av ci) (q1 (av (cL kP)))) (fun x => F229 u x.1 x.2.1 x.2.2) fun t => [.v (ro (.pr (.int .i64) .nil) t.1 t.2.1),.v (vi t.2.2)]
theorem d229 : DO (O229 u) (C29 u) 25 A25 := dW u (fun x => by exact e229 u x.2.1 x.2.2 x.1) (fun _ => rfl) fun t => by
 obtain ⟨b,t⟩ := t
 cases b with
 | true => exact (.cons (WkA.v (Wk.ro (by rfl))) (.cons (WkA.v (Wk.refl _)) .nil))
 | false =>
  exact (.cons (WkA.v (Wk.refl _)) (.cons (WkA.v (Wk.refl _)) .nil))
def C30 : Oracle := (C29 u).add 25 (fun _ => true) (O229 u)
def A10v1 : AC := (.seq (.block 1
 (.region 9 [mv 28 7,mv 29 4,mv 30 5,mv 31 8,o1 32 (.indexAddr 55 3 1 (tm 30) (tm 31)),o1 33 (lo 3 32),o1 34 (.indexAddr 31 9 1 (tm 29) (tm 33)),o1 35 (lo 9 34),o1 36 (.buildSlice 0 31 9 (.pr .str .nil) 1 [vcs ByteArray.empty] [(0,(tm 35))]),o1 37 (.append 1 31 9 (.pr .str .nil) 16 (tm 28) (tm 36)),o1 7 (sg 37)] 2 none)) []
 (.region 8 [mv 26 8,o1 27 (bk .add 3 26 1),o1 8 (sg 27)] 0 none))
def A10v2 : AC := (.seq (.seq (.region 7 [mv 22 8,mv 23 5,o1 24 (.len 55 false (tm 23)),o1 25 (bt .lss 3 22 24)] 0 none) []
 (.cond (tm 25)
 .skip
 (.exit 0 (rl 0 7 (rl 8 31 []))))) (rl 22 4 [])
 A10v1)
def A10v3 : AC := (.seq (.region 10 [mv 38 7,o1 2 (sg 38),o1 3 (sk 0)] 0 none) []
 (.ret (0 :: 1 :: (rl 4 35 []))))
def A10v4 : AC := (.seq (.region 5 [o1 7 (.assign (.const (.slice none 0 0)))] 0 none) []
 (.seq (.seq (.region 6 [o1 8 (sk 0)] 0 none) []
 (.block 0
 (.loop [.slot 7 (.pr .str .nil)] (rl 0 4 (6 :: (rl 9 30 [])))
  A10v2))) (8 :: (rl 22 16 []))
 A10v3))
def A10 : AF := ⟨39,[.tmp 2,.tmp 3],
 (.seq (.region 0 [o1 1 (bx 0 28 0),o1 2 (.assign (.const (.slice none 0 0))),o1 3 (sk 0)] 1 none) []
 (.seq (.region 1 [o1 9 (ln 28 6 1),o1 10 (cf 24 [9] [28]),o1 4 (sg 10)] 0 none) []
 (.seq (.region 2 [mv 12 4,o1 13 (.len 31 false (tm 12)),o1 14 (ln 28 6 1),o1 15 (cf 13 [14] [28]),o1 16 (cf 25 [13,15] [3,36]),mv 11 16,o1 17 (.extract (tm 11) 0),o1 18 (.extract (tm 11) 1),o1 5 (sg 17),o1 6 (sg 18)] 0 none) []
 (.seq (.seq (.region 3 [mv 19 6,o1 20 (bk .neq 32 19 0)] 0 none) []
 (.cond (tm 20)
 (.seq (.region 4 [mv 21 6,o1 2 (.assign (.const (.slice none 0 0))),o1 3 (sg 21)] 0 none) []
  (.ret (0 :: 1 :: (rl 4 35 []))))
 .skip)) [2,3,19,20,21]
 A10v4))))⟩
def N255v1 : St → Option St := nN 2 (rl 0 4 (6 :: (rl 9 30 [])))
def s255v0 : St := ⟨(us 4 (.x (.c (ro (.pr .str .nil) n0 f0)) :: .x (.c (ro (.pr (.int .i64) .nil) n1 f1)) :: .u :: .x (.own 1 0 n2) :: vxi i0 :: (us 30 []))),[.box [(vcs w0),(.c (ro kC n3 f2)),(.c (ro kA n4 f3)),(.c (ro kE n5 f4)),(.c (ro kB n6 f5)),(.c (ro kD n7 f6))],.arr (.pr .str .nil) n2 f7]⟩
def s255v1 : St := ⟨(us 7 (.x (.own 1 0 n0) :: (us 31 []))),[.box [(vcs w0),(.c (ro kC n1 f0)),(.c (ro kA n2 f1)),(.c (ro kE n3 f2)),(.c (ro kB n4 f3)),(.c (ro kD n5 f4))],.arr (.pr .str .nil) n0 f5]⟩
def L255v1 {ρ : Type} (u : Nat) (x0 : Nat) (x1 : FF) (x2 : Nat) (x3 : FF) (x4 : ByteArray) (x5 : Nat) (x6 : FF) (x7 : Nat) (x8 : FF) (x9 : Nat) (xA : FF) (xB : Nat) (xC : FF) (xD : Nat) (xE : FF) : Nat → Nat → Int → FF → (Nat → FF → Option ρ) → Option ρ
 | 0,_,_,_,_ => none
 | m + 1,xF,xG,xH,k0 =>
  (bif (decide (xG < (Int.ofNat x2))) then (bif (inb xG x2) then (bif (inb (x3 xG.toNat 0).int x0) then (bif (Nat.ble (xF + 1) 1073741824) then (L255v1 u x0 x1 x2 x3 x4 x5 x6 x7 x8 x9 xA xB xC xD xE m (xF + 1) (w64 (xG + 1)) (joinF xF xH (rowsF 1 [(.s (CV.str (x1 (Int.toNat (x3 xG.toNat 0).int) 0)))])) k0) else none) else none) else none) else (k0 xF xH))
theorem nl255v1 : ∀ (m : Nat) (x0 : Nat) (x1 : Int) (x2 : FF) (k0 : Nat → FF → Option ρ),ob (L255v1 u n0 f0 n1 f1 w0 n2 f2 n3 f3 n4 f4 n5 f5 n6 f6 m x0 x1 x2 k0) ng = L255v1 u n0 f0 n1 f1 w0 n2 f2 n3 f3 n4 f4 n5 f5 n6 f6 m x0 x1 x2 (fun x3 x4 => ob (k0 x3 x4) ng)
 | 0,_,_,_,_ => rfl
 | m + 1,x0,x1,x2,k0 => by
  simp only [L255v1,ob_bif,ob_ob,ob_none,nl255v1 m]
theorem r255v1 :
  loopH (eB A10v2 (C30 u) u) N255v1 (m + 1) (s255v0 n0 n1 n7 n2 n3 n4 n5 n6 f0 f1 f2 f3 f4 f5 f6 f7 i0 w0) k =
  (bif (decide (i0 < (Int.ofNat n1))) then (bif (inb i0 n1) then (bif (inb (f1 i0.toNat 0).int n0) then (bif (Nat.ble (n7 + 1) 1073741824) then (loopH (eB A10v2 (C30 u) u) N255v1 m (s255v0 n0 n1 (n7 + 1) n2 n3 n4 n5 n6 f0 f1 f2 f3 f4 f5 f6 (joinF n7 f7 (rowsF 1 [(.s (CV.str (f0 (Int.toNat (f1 i0.toNat 0).int) 0)))])) (w64 (i0 + 1)) w0) k) else none) else none) else none) else (k (.exit 0) (s255v1 n7 n2 n3 n4 n5 n6 f2 f3 f4 f5 f6 f7 w0))) := by kernel_rfl
theorem q255v1 : ∀ (m : Nat) (x0 : Nat) (x1 : Int) (x2 : FF),
  loopH (eB A10v2 (C30 u) u) N255v1 m (s255v0 n0 n1 x0 n2 n3 n4 n5 n6 f0 f1 f2 f3 f4 f5 f6 x2 x1 w0) k = L255v1 u n0 f0 n1 f1 w0 n2 f2 n3 f3 n4 f4 n5 f5 n6 f6 m x0 x1 x2 (fun x3 x4 => k (.exit 0) (s255v1 x3 n2 n3 n4 n5 n6 f2 f3 f4 f5 f6 x4 w0))
 | 0,_,_,_ => rfl
 | m + 1,x0,x1,x2 => by
  rw [r255v1]
  simp only [L255v1,q255v1 m]
def FT255 (x0 : ByteArray) (x1 : Nat) (x2 : FF) (x3 : Nat) (x4 : FF) (x5 : Nat) (x6 : FF) (x7 : Nat) (x8 : FF) (x9 : Nat) (xA : FF) : Option (Bool × Nat × FF × Int) :=
 (ob (F252 u x0 x1 x2 x3 x4 x5 x6 x7 x8 x9 xA) fun xB => (ob (F254 u x0 x1 x2 x3 x4 x5 x6 x7 x8 x9 xA) fun xC => (ob (F229 u (Int.ofNat xB.1) xC.1 xC.2) fun xD => (bif (xD.2.2 != 0) then (some (true,0,(fun _ _ => .any),xD.2.2)) else (L255v1 u xB.1 xB.2 xD.1 xD.2.1 x0 x1 x2 x3 x4 x5 x6 x7 x8 x9 xA u 0 0 (fun _ _ => .any)
  (fun xE xF => (some (false,xE,xF,0))))))))
def s255v2 (x0 : Nat × FF) (x1 : Nat × FF × Int) (x2 : Nat × FF) : St := ⟨(.agg [(vcs w0),(.c (ro kC n0 f0)),(.c (ro kA n1 f1)),(.c (ro kE n2 f2)),(.c (ro kB n3 f3)),(.c (ro kD n4 f4))] :: .x (.ptr 0 0) :: .u :: .u :: .x (.c (ro (.pr .str .nil) x0.1 x0.2)) :: .x (.c (ro (.pr (.int .i64) .nil) x1.1 x1.2.1)) :: vxi x1.2.2 :: .x (.own 1 0 0) :: vxi 0 :: .agg [(vcs w0),(.c (ro kC n0 f0)),(.c (ro kA n1 f1)),(.c (ro kE n2 f2)),(.c (ro kB n3 f3)),(.c (ro kD n4 f4))] :: .x (.c (ro (.pr .str .nil) x0.1 x0.2)) :: .tup [.v (ro (.pr (.int .i64) .nil) x1.1 x1.2.1),.v (vi x1.2.2)] :: .x (.c (ro (.pr .str .nil) x0.1 x0.2)) :: vxi (Int.ofNat x0.1) :: .agg [(vcs w0),(.c (ro kC n0 f0)),(.c (ro kA n1 f1)),(.c (ro kE n2 f2)),(.c (ro kB n3 f3)),(.c (ro kD n4 f4))] :: .x (.c (ro kP x2.1 x2.2)) :: .tup [.v (ro (.pr (.int .i64) .nil) x1.1 x1.2.1),.v (vi x1.2.2)] :: .x (.c (ro (.pr (.int .i64) .nil) x1.1 x1.2.1)) :: vxi x1.2.2 :: (us 3 [uu,uu,uu,uu,uu,uu,uu,uu,uu,uu,uu,uu,uu,uu,uu,uu,uu])),[.box [(vcs w0),(.c (ro kC n0 f0)),(.c (ro kA n1 f1)),(.c (ro kE n2 f2)),(.c (ro kB n3 f3)),(.c (ro kD n4 f4))],.arr (.pr .str .nil) 0 nilF]⟩
theorem t255v1 (x0 : Nat × FF) (x1 : Nat × FF × Int) (x2 : Nat × FF) :
  loopN (eB A10v2 (C30 u) u) N255v1 u (s255v2 n0 n1 n2 n3 n4 f0 f1 f2 f3 f4 w0 x0 x1 x2) k =
  L255v1 u x0.1 x0.2 x1.1 x1.2.1 w0 n0 f0 n1 f1 n2 f2 n3 f3 n4 f4 u 0 0 nilF (fun x3 x4 => k (.exit 0) (s255v1 x3 n0 n1 n2 n3 n4 f0 f1 f2 f3 f4 x4 w0)) :=
 Eq.trans (loopN_at (by kernel_rfl)) (q255v1 ..)
theorem g255v2 :
  (kBlk 0 (kSeq (C30 u) u (8 :: (rl 22 16 [])) A10v3 (finish A10))) (.exit 0) (s255v1 n0 n1 n2 n3 n4 n5 f0 f1 f2 f3 f4 f5 w0) =
  (some [.v (ro (.pr .str .nil) n0 f5),.v (vi 0)]) := by kernel_rfl
theorem e255 : evalF (C30 u) u A10 [.agg [(.s w0),(ro kC n0 f0),(ro kA n1 f1),(ro kE n2 f2),(ro kB n3 f3),(ro kD n4 f4)]] = ob (FT255 u w0 n0 f0 n1 f1 n2 f2 n3 f3 n4 f4) fun t => some (bif t.1 then [.v (.ro true .nil 0 nilF),.v (vi t.2.2.2)] else [.v (ro (.pr .str .nil) t.2.1 t.2.2.1),.v (vi 0)]) := Eq.trans (b := (ob (F252 u w0 n0 f0 n1 f1 n2 f2 n3 f3 n4 f4) fun x0 => (ob (F254 u w0 n0 f0 n1 f1 n2 f2 n3 f3 n4 f4) fun x1 => (ob (F229 u (Int.ofNat x0.1) x1.1 x1.2) fun x2 => (bif (x2.2.2 != 0) then (some [.v (.ro true .nil 0 nilF),.v (vi x2.2.2)]) else (loopN (eB A10v2 (C30 u) u) N255v1 u (s255v2 n0 n1 n2 n3 n4 f0 f1 f2 f3 f4 w0 x0 x2 x1) (kBlk 0 (kSeq (C30 u) u (8 :: (rl 22 16 [])) A10v3 (finish A10))))))))) (by kernel_rfl) (by
 simp only [FT255,ob_bif,ob_ob,ob_none,ob_some,nl255v1,t255v1,g255v2,cond_true,cond_false])
def F255 (x0 : ByteArray) (x1 : Nat) (x2 : FF) (x3 : Nat) (x4 : FF) (x5 : Nat) (x6 : FF) (x7 : Nat) (x8 : FF) (x9 : Nat) (xA : FF) : Option (Nat × FF × Int) := ob (FT255 u x0 x1 x2 x3 x4 x5 x6 x7 x8 x9 xA) fun t => some (bif t.1 then (0,(fun _ _ => .any),t.2.2.2) else (t.2.1,t.2.2.1,0))
def O255 : Ora := mkO (q1 (ag (tc cS (tc (cL kC) (tc (cL kA) (tc (cL kE) (tc (cL kB) (t1 (cL kD))))))))) (fun x => F255 u x.1 x.2.1.1 x.2.1.2 x.2.2.1.1 x.2.2.1.2 x.2.2.2.1.1 x.2.2.2.1.2 x.2.2.2.2.1.1 x.2.2.2.2.1.2 x.2.2.2.2.2.1 x.2.2.2.2.2.2) fun t => [.v (ro (.pr .str .nil) t.1 t.2.1),.v (vi t.2.2)]
theorem d255 : DO (O255 u) (C30 u) 10 A10 := dW u (fun x => by exact e255 u x.2.1.1 x.2.2.1.1 x.2.2.2.1.1 x.2.2.2.2.1.1 x.2.2.2.2.2.1 x.2.1.2 x.2.2.1.2 x.2.2.2.1.2 x.2.2.2.2.1.2 x.2.2.2.2.2.2 x.1) (fun _ => rfl) fun t => by
 obtain ⟨b,t⟩ := t
 cases b with
 | true => exact (.cons (WkA.v (Wk.ro (by rfl))) (.cons (WkA.v (Wk.refl _)) .nil))
 | false =>
  exact (.cons (WkA.v (Wk.refl _)) (.cons (WkA.v (Wk.refl _)) .nil))
def C31 : Oracle := (C30 u).add 10 (fun _ => true) (O255 u)
def A3v1 : AC := (.seq (.region 3 [o1 12 (ln 28 6 1),o1 13 (cf 9 [12] [28]),mv 11 13,o1 14 (.extract (tm 11) 0),o1 15 (.extract (tm 11) 1),o1 3 (sg 14),o1 4 (sg 15)] 0 none) []
 (.seq (.region 4 [o1 17 (ln 28 6 1),o1 18 (cf 10 [17] [28]),mv 16 18,o1 19 (.extract (tm 16) 0),o1 20 (.extract (tm 16) 1),o1 5 (sg 19),o1 6 (sg 20)] 0 none) []
 (.seq (.region 5 [o1 21 (ln 28 6 1),o1 22 (cf 12 [21] [28]),o1 23 (ln 28 6 1),o1 24 (cf 13 [23] [28]),o1 25 (cs 11 [22,24] [36,36]),mv 26 25,og 27 (.move (tm 3)) 26 true,og 28 (.move (tm 5)) 26 true,og 29 (cs 14 [27,28] [31,31]) 26 true,o1 30 (po 26 29),mv 31 30,og 32 (.move (tm 4)) 31 true,og 33 (.move (tm 6)) 31 true,og 34 (bt .eql 32 32 33) 31 true,o1 35 (po 31 34),mv 36 35,og 37 (cs 8 [] []) 36 true,o1 38 (po 36 37),o1 2 (sg 38)] 0 (some [[],[0],[],[0,1,2],(rl 0 4 []),(rl 0 5 []),(rl 0 6 []),(rl 0 6 []),(rl 0 8 []),(rl 0 9 []),(rl 0 10 []),(rl 0 11 []),(rl 0 11 []),(rl 0 13 []),(rl 0 14 []),(rl 0 15 []),(rl 0 16 []),(rl 0 17 []),(rl 0 18 [])])) []
 (.ghost [0] (.ret (0 :: 1 :: (rl 3 36 [])))))))
def A3 : AF := ⟨39,[.tmp 2],
 (.seq (.region 0 [o1 1 (bx 0 28 0),o1 2 (sb false)] 1 none) []
 (.seq (.seq (.region 1 [o1 7 (ln 28 6 1),o1 8 (.call 7 [(tm 7),(.const (.slice none 0 0)),(.const (.slice none 0 0))] [28,31,31] .snap),o1 9 (.unOp .not 4 (tm 8))] 0 none) []
 (.cond (tm 9)
 (.seq (.region 2 [o1 10 (cs 8 [] []),o1 2 (sg 10)] 0 none) []
  (.ghost [0] (.ret (0 :: 1 :: (rl 3 36 [])))))
 .skip)) (2 :: (rl 7 4 []))
 A3v1))⟩
def F279 (x0 : ByteArray) (x1 : Nat) (x2 : FF) (x3 : Nat) (x4 : FF) (x5 : Nat) (x6 : FF) (x7 : Nat) (x8 : FF) (x9 : Nat) (xA : FF) : Option (Bool) :=
 (ob (F274 u x0 x1 x2 x3 x4 x5 x6 x7 x8 x9 xA 0 (fun _ _ => .any) 0 (fun _ _ => .any)) fun xB => (bif (!xB) then (ob (F278 u) fun xC => (some xC)) else (ob (F277 u x0 x1 x2 x3 x4 x5 x6 x7 x8 x9 xA) fun xD => (ob (F255 u x0 x1 x2 x3 x4 x5 x6 x7 x8 x9 xA) fun xE => (ob (F276 u x0 x1 x2 x3 x4 x5 x6 x7 x8 x9 xA) fun xF => (ob (F254 u x0 x1 x2 x3 x4 x5 x6 x7 x8 x9 xA) fun xG => (ob (F271 u xF.1 xF.2 xG.1 xG.2) fun xH => (bif (xH == true) then (ob (F269 u xD.1 xD.2.1 xE.1 xE.2.1) fun xI => (bif (xI == true) then (bif ((xD.2.2 == xE.2.2) == true) then (ob (F278 u) fun xJ => (some xJ)) else (some false)) else (some false))) else (some false)))))))))
theorem e279 : evalF (C31 u) u A3 [.agg [(.s w0),(ro kC n0 f0),(ro kA n1 f1),(ro kE n2 f2),(ro kB n3 f3),(ro kD n4 f4)]] = ob (F279 u w0 n0 f0 n1 f1 n2 f2 n3 f3 n4 f4) fun t => some [.v (.b t)] := Eq.trans (b := (ob (F274 u w0 n0 f0 n1 f1 n2 f2 n3 f3 n4 f4 0 nilF 0 nilF) fun x0 => (bif (!x0) then (ob (F278 u) fun x1 => (some [.v (.b x1)])) else (ob (F277 u w0 n0 f0 n1 f1 n2 f2 n3 f3 n4 f4) fun x2 => (ob (F255 u w0 n0 f0 n1 f1 n2 f2 n3 f3 n4 f4) fun x3 => (ob (F276 u w0 n0 f0 n1 f1 n2 f2 n3 f3 n4 f4) fun x4 => (ob (F254 u w0 n0 f0 n1 f1 n2 f2 n3 f3 n4 f4) fun x5 => (ob (F271 u x4.1 x4.2 x5.1 x5.2) fun x6 => (bif (x6 == true) then (ob (F269 u x2.1 x2.2.1 x3.1 x3.2.1) fun x7 => (bif (x7 == true) then (bif ((x2.2.2 == x3.2.2) == true) then (ob (F278 u) fun x8 => (some [.v (.b x8)])) else (some [.v (.b false)])) else (some [.v (.b false)]))) else (some [.v (.b false)])))))))))) (by kernel_rfl) (by
 simp only [F279,ob_bif,ob_ob,ob_none,ob_some])
def O279 : Ora := mkO (q1 (ag (tc cS (tc (cL kC) (tc (cL kA) (tc (cL kE) (tc (cL kB) (t1 (cL kD))))))))) (fun x => F279 u x.1 x.2.1.1 x.2.1.2 x.2.2.1.1 x.2.2.1.2 x.2.2.2.1.1 x.2.2.2.1.2 x.2.2.2.2.1.1 x.2.2.2.2.1.2 x.2.2.2.2.2.1 x.2.2.2.2.2.2) fun t => [.v (.b t)]
theorem d279 : DO (O279 u) (C31 u) 3 A3 := dO u (fun x => by exact e279 u x.2.1.1 x.2.2.1.1 x.2.2.2.1.1 x.2.2.2.2.1.1 x.2.2.2.2.2.1 x.2.1.2 x.2.2.1.2 x.2.2.2.1.2 x.2.2.2.2.1.2 x.2.2.2.2.2.2 x.1)
/- Functions that the plain texts alone name. -/
end Go.Eng.R13
