/-
 The functions of the program,run on symbols; printed by decomp.py.
-/
import Derived.Test.YtajhkinnmdlokaaDecT0
set_option linter.all false
set_option maxRecDepth 1000000
set_option maxHeartbeats 4000000
namespace Go.Eng.R13
open Go Go.RowKit Go.Eng
variable {ρ σ : Type} (u m : Nat) (k : Ex → St → Option ρ) (ng : ρ → Option σ) (n0 n1 n2 n3 n4 n5 n6 n7 n8 : Nat) (f0 f1 f2 f3 f4 f5 f6 f7 f8 : FF) (i0 i1 i2 i3 i4 i5 i6 i7 : Int) (b0 b1 : Bool) (w0 w1 w2 : ByteArray) (g0 g1 : Nat → CV)
def A19v1 : AC := (.region 4 [mv 16 10,o1 17 (bk .add 3 16 1),o1 10 (sg 17)] 0 none)
def A19v2 : AC := (.seq (.block 1
 (.seq (.region 5 [o1 18 (fa 28 4 5 5),o1 19 (lo 26 18),mv 20 10,o1 21 (.indexAddr 26 49 3 (tm 19) (tm 20)),o1 22 (fa 49 21 1 1),o1 23 (lo 9 22),mv 24 3,o1 25 (bt .eql 9 23 24),mv 26 25,og 27 (fa 28 4 5 5) 26 true,og 28 (lo 26 27) 26 true,og 29 (.move (tm 10)) 26 true,og 30 (.indexAddr 26 49 3 (tm 28) (tm 29)) 26 true,og 31 (ln 49 3 30) 26 true,og 32 (.move (tm 1)) 26 true,og 33 (.move (tm 2)) 26 true,og 34 (cs 37 [31,32,33] [49,31,31]) 26 true,og 35 (.unOp .not 4 (tm 34)) 26 true,o1 36 (po 26 35)] 0 none) []
  (.cond (tm 36)
  (.region 6 [mv 37 9,o1 38 (fa 28 4 5 5),o1 39 (lo 26 38),mv 40 10,o1 41 (.indexAddr 26 49 3 (tm 39) (tm 40)),o1 42 (ln 49 3 41),o1 43 (.buildSlice 0 26 49 kD 1 [vci 0,vcs ByteArray.empty,vcs ByteArray.empty] [(0,(tm 42))]),o1 44 (.append 1 26 49 kD 40 (tm 37) (tm 43)),o1 9 (sg 44)] 2 none)
  .skip))) (rl 18 27 [])
 A19v1)
def A19v3 : AC := (.seq (.seq (.region 3 [mv 11 10,o1 12 (fa 28 4 5 5),o1 13 (lo 26 12),o1 14 (.len 26 false (tm 13)),o1 15 (bt .lss 3 11 14)] 0 none) []
 (.cond (tm 15)
 .skip
 (.exit 0 (rl 0 9 (rl 10 36 []))))) (rl 11 5 [])
 A19v2)
def A19v4 : AC := (.seq (.region 7 [mv 45 9,o1 8 (sg 45)] 0 none) []
 (.ret (rl 0 8 (rl 9 37 []))))
def A19 : AF := ⟨46,[.tmp 8],
 (.seq (.region 0 [o1 4 (bx 0 28 0),o1 8 (.assign (.const (.slice none 0 0)))] 1 none) []
 (.seq (.region 1 [o1 9 (.assign (.const (.slice none 0 0)))] 0 none) []
 (.seq (.seq (.region 2 [o1 10 (sk 0)] 0 none) []
 (.block 0
 (.loop [.slot 9 kD] (0 :: (rl 5 4 (rl 11 35 [])))
  A19v3))) (rl 10 35 [])
 A19v4)))⟩
def N266v1 : St → Option St := nN 2 (0 :: (rl 5 4 (rl 11 35 [])))
def s266v0 : St := ⟨(.u :: .x (.c (ro (.pr .str .nil) n0 f0)) :: .x (.c (ro (.pr .str .nil) n1 f1)) :: vxs w0 :: .x (.ptr 0 0) :: (us 4 (.x (.own 1 0 n2) :: vxi i0 :: (us 35 [])))),[.box [(vcs w1),(.c (ro kC n3 f2)),(.c (ro kA n4 f3)),(.c (ro kE n5 f4)),(.c (ro kB n6 f5)),(.c (ro kD n7 f6))],.arr kD n2 f7]⟩
def s266v1 : St := ⟨(us 9 (.x (.own 1 0 n0) :: (us 36 []))),[.box [(vcs w0),(.c (ro kC n1 f0)),(.c (ro kA n2 f1)),(.c (ro kE n3 f2)),(.c (ro kB n4 f3)),(.c (ro kD n5 f4))],.arr kD n0 f5]⟩
def L266v1 {ρ : Type} (u : Nat) (x0 : Nat) (x1 : FF) (x2 : Nat) (x3 : FF) (x4 x5 : ByteArray) (x6 : Nat) (x7 : FF) (x8 : Nat) (x9 : FF) (xA : Nat) (xB : FF) (xC : Nat) (xD : FF) (xE : Nat) (xF : FF) : Nat → Nat → Int → FF → (Nat → FF → Option ρ) → Option ρ
 | 0,_,_,_,_ => none
 | m + 1,xG,xH,xI,k0 =>
  (bif (decide (xH < (Int.ofNat xE))) then (bif (inb xH xE) then (bif ((ByteArray.toList (xF xH.toNat 1).str == ByteArray.toList x4) == true) then (bif (inb xH xE) then (ob (F265 u (xF xH.toNat 0).int (xF xH.toNat 1).str (xF xH.toNat 2).str x0 x1 x2 x3) fun xJ => (bif (!xJ) then (bif (inb xH xE) then (bif (Nat.ble (xG + 1) 1073741824) then (L266v1 u x0 x1 x2 x3 x4 x5 x6 x7 x8 x9 xA xB xC xD xE xF m (xG + 1) (w64 (xH + 1)) (joinF xG xI (rowsF 3 [(.i .i64 (xF xH.toNat 0).int),(.s (xF xH.toNat 1).str),(.s (xF xH.toNat 2).str)])) k0) else none) else none) else (L266v1 u x0 x1 x2 x3 x4 x5 x6 x7 x8 x9 xA xB xC xD xE xF m xG (w64 (xH + 1)) xI k0))) else none) else (L266v1 u x0 x1 x2 x3 x4 x5 x6 x7 x8 x9 xA xB xC xD xE xF m xG (w64 (xH + 1)) xI k0)) else none) else (k0 xG xI))
theorem nl266v1 : ∀ (m : Nat) (x0 : Nat) (x1 : Int) (x2 : FF) (k0 : Nat → FF → Option ρ),ob (L266v1 u n0 f0 n1 f1 w0 w1 n2 f2 n3 f3 n4 f4 n5 f5 n6 f6 m x0 x1 x2 k0) ng = L266v1 u n0 f0 n1 f1 w0 w1 n2 f2 n3 f3 n4 f4 n5 f5 n6 f6 m x0 x1 x2 (fun x3 x4 => ob (k0 x3 x4) ng)
 | 0,_,_,_,_ => rfl
 | m + 1,x0,x1,x2,k0 => by
  simp only [L266v1,ob_bif,ob_ob,ob_none,nl266v1 m]
theorem r266v1 :
  loopH (eB A19v3 (C28 u) u) N266v1 (m + 1) (s266v0 n0 n1 n7 n2 n3 n4 n5 n6 f0 f1 f2 f3 f4 f5 f6 f7 i0 w0 w1) k =
  (bif (decide (i0 < (Int.ofNat n6))) then (bif (inb i0 n6) then (bif ((ByteArray.toList (f6 i0.toNat 1).str == ByteArray.toList w0) == true) then (bif (inb i0 n6) then (ob (F265 u (f6 i0.toNat 0).int (f6 i0.toNat 1).str (f6 i0.toNat 2).str n0 f0 n1 f1) fun x0 => (bif (!x0) then (bif (inb i0 n6) then (bif (Nat.ble (n7 + 1) 1073741824) then (loopH (eB A19v3 (C28 u) u) N266v1 m (s266v0 n0 n1 (n7 + 1) n2 n3 n4 n5 n6 f0 f1 f2 f3 f4 f5 f6 (joinF n7 f7 (rowsF 3 [(vi (f6 i0.toNat 0).int),(.s (f6 i0.toNat 1).str),(.s (f6 i0.toNat 2).str)])) (w64 (i0 + 1)) w0 w1) k) else none) else none) else (loopH (eB A19v3 (C28 u) u) N266v1 m (s266v0 n0 n1 n7 n2 n3 n4 n5 n6 f0 f1 f2 f3 f4 f5 f6 f7 (w64 (i0 + 1)) w0 w1) k))) else none) else (loopH (eB A19v3 (C28 u) u) N266v1 m (s266v0 n0 n1 n7 n2 n3 n4 n5 n6 f0 f1 f2 f3 f4 f5 f6 f7 (w64 (i0 + 1)) w0 w1) k)) else none) else (k (.exit 0) (s266v1 n7 n2 n3 n4 n5 n6 f2 f3 f4 f5 f6 f7 w1))) := by kernel_rfl
theorem q266v1 : ∀ (m : Nat) (x0 : Nat) (x1 : Int) (x2 : FF),
  loopH (eB A19v3 (C28 u) u) N266v1 m (s266v0 n0 n1 x0 n2 n3 n4 n5 n6 f0 f1 f2 f3 f4 f5 f6 x2 x1 w0 w1) k = L266v1 u n0 f0 n1 f1 w0 w1 n2 f2 n3 f3 n4 f4 n5 f5 n6 f6 m x0 x1 x2 (fun x3 x4 => k (.exit 0) (s266v1 x3 n2 n3 n4 n5 n6 f2 f3 f4 f5 f6 x4 w1))
 | 0,_,_,_ => rfl
 | m + 1,x0,x1,x2 => by
  rw [r266v1]
  simp only [L266v1,q266v1 m]
def F266 (x0 : ByteArray) (x1 : Nat) (x2 : FF) (x3 : Nat) (x4 : FF) (x5 : Nat) (x6 : FF) (x7 : Nat) (x8 : FF) (x9 : Nat) (xA : FF) (xB : Nat) (xC : FF) (xD : Nat) (xE : FF) (xF : ByteArray) : Option (Nat × FF) :=
 (L266v1 u xB xC xD xE xF x0 x1 x2 x3 x4 x5 x6 x7 x8 x9 xA u 0 0 (fun _ _ => .any)
  (fun xG xH => (some (xG,xH))))
def s266v2 : St := ⟨[.agg [(vcs w0),(.c (ro kC n0 f0)),(.c (ro kA n1 f1)),(.c (ro kE n2 f2)),(.c (ro kB n3 f3)),(.c (ro kD n4 f4))],.x (.c (ro (.pr .str .nil) n5 f5)),.x (.c (ro (.pr .str .nil) n6 f6)),vxs w1,.x (.ptr 0 0),uu,uu,uu,.x (vcn),.x (.own 1 0 0),vxi 0,uu,uu,uu,uu,uu,uu,uu,uu,uu,uu,uu,uu,uu,uu,uu,uu,uu,uu,uu,uu,uu,uu,uu,uu,uu,uu,uu,uu,uu,uu,uu,uu,uu,uu,uu],[.box [(vcs w0),(.c (ro kC n0 f0)),(.c (ro kA n1 f1)),(.c (ro kE n2 f2)),(.c (ro kB n3 f3)),(.c (ro kD n4 f4))],.arr kD 0 nilF]⟩
theorem t266v1 :
  loopN (eB A19v3 (C28 u) u) N266v1 u (s266v2 n0 n1 n2 n3 n4 n5 n6 f0 f1 f2 f3 f4 f5 f6 w0 w1) k =
  L266v1 u n5 f5 n6 f6 w1 w0 n0 f0 n1 f1 n2 f2 n3 f3 n4 f4 u 0 0 nilF (fun x0 x1 => k (.exit 0) (s266v1 x0 n0 n1 n2 n3 n4 f0 f1 f2 f3 f4 x1 w0)) :=
 Eq.trans (loopN_at (by kernel_rfl)) (q266v1 ..)
theorem g266v2 :
  (kBlk 0 (kSeq (C28 u) u (rl 10 35 []) A19v4 (finish A19))) (.exit 0) (s266v1 n0 n1 n2 n3 n4 n5 f0 f1 f2 f3 f4 f5 w0) =
  (some [.v (ro kD n0 f5)]) := by kernel_rfl
theorem e266 : evalF (C28 u) u A19 [.agg [(.s w0),(ro kC n0 f0),(ro kA n1 f1),(ro kE n2 f2),(ro kB n3 f3),(ro kD n4 f4)],.v (ro (.pr .str .nil) n5 f5),.v (ro (.pr .str .nil) n6 f6),.v (.s w1)] = ob (F266 u w0 n0 f0 n1 f1 n2 f2 n3 f3 n4 f4 n5 f5 n6 f6 w1) fun t => some [.v (ro kD t.1 t.2)] := Eq.trans (b := (loopN (eB A19v3 (C28 u) u) N266v1 u (s266v2 n0 n1 n2 n3 n4 n5 n6 f0 f1 f2 f3 f4 f5 f6 w0 w1) (kBlk 0 (kSeq (C28 u) u (rl 10 35 []) A19v4 (finish A19))))) (by kernel_rfl) (by
 simp only [F266,ob_bif,ob_ob,ob_none,ob_some,nl266v1,t266v1,g266v2])
def O266 : Ora := mkO (qc (ag (tc cS (tc (cL kC) (tc (cL kA) (tc (cL kE) (tc (cL kB) (t1 (cL kD)))))))) (qc (av (cL (.pr .str .nil))) (qc (av (cL (.pr .str .nil))) (q1 (av cS))))) (fun x => F266 u x.1.1 x.1.2.1.1 x.1.2.1.2 x.1.2.2.1.1 x.1.2.2.1.2 x.1.2.2.2.1.1 x.1.2.2.2.1.2 x.1.2.2.2.2.1.1 x.1.2.2.2.2.1.2 x.1.2.2.2.2.2.1 x.1.2.2.2.2.2.2 x.2.1.1 x.2.1.2 x.2.2.1.1 x.2.2.1.2 x.2.2.2) fun t => [.v (ro kD t.1 t.2)]
theorem d266 : DO (O266 u) (C28 u) 19 A19 := dO u (fun x => by exact e266 u x.1.2.1.1 x.1.2.2.1.1 x.1.2.2.2.1.1 x.1.2.2.2.2.1.1 x.1.2.2.2.2.2.1 x.2.1.1 x.2.2.1.1 x.1.2.1.2 x.1.2.2.1.2 x.1.2.2.2.1.2 x.1.2.2.2.2.1.2 x.1.2.2.2.2.2.2 x.2.1.2 x.2.2.1.2 x.1.1 x.2.2.2)
def C29 : Oracle := (C28 u).add 19 (fun _ => true) (O266 u)
def A16v1 : AC := (.region 11 [mv 33 11,o1 34 (bk .add 3 33 1),o1 11 (sg 34)] 0 none)
def A16v2 : AC := (.seq (.block 3
 (.seq (.region 12 [mv 35 9,mv 36 11,o1 37 (.indexAddr 26 49 3 (tm 35) (tm 36)),o1 38 (fa 49 37 0 0),o1 39 (lo 3 38),mv 40 10,o1 41 (bt .eql 3 39 40)] 0 none) []
  (.cond (tm 41)
  (.seq (.region 13 [o1 42 (.buildSlice 0 71 32 (.pr (.int .i64) .nil) 4 [vci 0] [(0,(ic 0)),(1,(ic 26)),(2,(ic 27)),(3,(ic 28))]),mv 43 10,o1 44 (.indexAddr 71 32 1 (tm 42) (tm 43)),o1 45 (lo 32 44),o1 8 (sg 45)] 1 none) []
   (.ret (rl 0 8 (rl 9 37 []))))
  .skip))) (8 :: (rl 35 11 []))
 A16v1)
def A16v3 : AC := (.seq (.seq (.region 10 [mv 29 11,mv 30 9,o1 31 (.len 26 false (tm 30)),o1 32 (bt .lss 3 29 31)] 0 none) []
 (.cond (tm 32)
 .skip
 (.exit 2 (rl 0 9 (rl 11 35 []))))) (rl 29 4 [])
 A16v2)
def A16v4 : AC := (.region 8 [mv 27 10,o1 28 (bk .add 3 27 1),o1 10 (sg 28)] 0 none)
def A16v5 : AC := (.seq (.block 1
 (.seq (.region 9 [o1 11 (sk 0)] 0 none) []
  (.block 2
  (.loop [] (rl 0 9 (rl 12 34 []))
   A16v3)))) (8 :: 11 :: (rl 29 17 []))
 A16v4)
def A16v6 : AC := (.seq (.seq (.region 7 [mv 25 10,o1 26 (bk .leq 3 25 3)] 0 none) []
 (.cond (tm 26)
 .skip
 (.exit 0 (rl 0 46 [])))) [25,26]
 A16v5)
def A16v7 : AC := (.seq (.region 14 [o1 8 (sk 0)] 0 none) []
 (.ret (rl 0 8 (rl 9 37 []))))
def A16v8 : AC := (.seq (.region 5 [o1 20 (ln 28 6 4),mv 21 1,mv 22 2,mv 23 3,o1 24 (cf 19 [20,21,22,23] [28,31,31,9]),o1 9 (sg 24)] 0 none) []
 (.seq (.seq (.region 6 [o1 10 (sk 1)] 0 none) []
 (.block 0
 (.loop [] (rl 0 9 (rl 11 35 []))
  A16v6))) (8 :: 10 :: 11 :: (rl 25 21 []))
 A16v7))
def A16v9 : AC := (.seq (.seq (.region 3 [mv 17 1,mv 18 3,o1 19 (cs 35 [17,18] [31,9])] 0 none) []
 (.cond (tm 19)
 (.seq (.region 4 [o1 8 (sk 14)] 0 none) []
  (.ret (rl 0 8 (rl 9 37 []))))
 .skip)) [8,17,18,19]
 A16v8)
def A16 : AF := ⟨46,[.tmp 8],
 (.seq (.region 0 [o1 4 (bx 0 28 0),o1 8 (sk 0)] 1 none) []
 (.seq (.seq (.region 1 [o1 12 (ln 28 6 4),o1 13 (cf 24 [12] [28]),mv 14 3,o1 15 (cs 35 [13,14] [31,9]),o1 16 (.unOp .not 4 (tm 15))] 0 none) []
 (.cond (tm 16)
 (.seq (.region 2 [o1 8 (sk 8)] 0 none) []
  (.ret (rl 0 8 (rl 9 37 []))))
 .skip)) (8 :: (rl 12 5 []))
 A16v9))⟩
def N267v2 : St → Option St := nN 1 (rl 0 9 (rl 12 34 []))
def s267v0 : St := ⟨(us 9 (.x (.c (ro kD n0 f0)) :: vxi i0 :: vxi i1 :: (us 34 []))),[.box [(vcs w0),(.c (ro kC n1 f1)),(.c (ro kA n2 f2)),(.c (ro kE n3 f3)),(.c (ro kB n4 f4)),(.c (ro kD n5 f5))]]⟩
def s267v1 : St := ⟨(us 8 (vxi (CV.int ((rowsF 1 [(vi 0),(vi 26),(vi 27),(vi 28)]) (0 + i0.toNat) 0)) :: (us 37 []))),[.box [(vcs w0),(.c (ro kC n0 f0)),(.c (ro kA n1 f1)),(.c (ro kE n2 f2)),(.c (ro kB n3 f3)),(.c (ro kD n4 f4))],.arr (.pr (.int .i64) .nil) 4 (rowsF 1 [(vi 0),(vi 26),(vi 27),(vi 28)])]⟩
def s267v2 : St := ⟨(us 9 (.x (.c (ro kD n0 f0)) :: vxi i0 :: (us 35 []))),[.box [(vcs w0),(.c (ro kC n1 f1)),(.c (ro kA n2 f2)),(.c (ro kE n3 f3)),(.c (ro kB n4 f4)),(.c (ro kD n5 f5))]]⟩
def L267v2 {ρ : Type} (u : Nat) (x0 : Nat) (x1 : FF) (x2 : Int) (x3 : ByteArray) (x4 : Nat) (x5 : FF) (x6 : Nat) (x7 : FF) (x8 : Nat) (x9 : FF) (xA : Nat) (xB : FF) (xC : Nat) (xD : FF) : Nat → Int → (Option ρ) → (Option ρ) → Option ρ
 | 0,_,_,_ => none
 | m + 1,xE,k0,k1 =>
  (bif (decide (xE < (Int.ofNat x0))) then (bif (inb xE x0) then (bif ((x1 xE.toNat 0).int == x2) then (bif (inb x2 4) then k0 else none) else (L267v2 u x0 x1 x2 x3 x4 x5 x6 x7 x8 x9 xA xB xC xD m (w64 (xE + 1)) k0 k1)) else none) else k1)
theorem nl267v2 : ∀ (m : Nat) (x0 : Int) (k0 : Option ρ) (k1 : Option ρ),ob (L267v2 u n0 f0 i0 w0 n1 f1 n2 f2 n3 f3 n4 f4 n5 f5 m x0 k0 k1) ng = L267v2 u n0 f0 i0 w0 n1 f1 n2 f2 n3 f3 n4 f4 n5 f5 m x0 (ob k0 ng) (ob k1 ng)
 | 0,_,_,_ => rfl
 | m + 1,x0,k0,k1 => by
  simp only [L267v2,ob_bif,ob_ob,ob_none,nl267v2 m]
theorem r267v2 :
  loopH (eB A16v3 (C29 u) u) N267v2 (m + 1) (s267v0 n0 n1 n2 n3 n4 n5 f0 f1 f2 f3 f4 f5 i0 i1 w0) k =
  (bif (decide (i1 < (Int.ofNat n0))) then (bif (inb i1 n0) then (bif ((f0 i1.toNat 0).int == i0) then (bif (inb i0 4) then (k .ret (s267v1 n1 n2 n3 n4 n5 f1 f2 f3 f4 f5 i0 w0)) else none) else (loopH (eB A16v3 (C29 u) u) N267v2 m (s267v0 n0 n1 n2 n3 n4 n5 f0 f1 f2 f3 f4 f5 i0 (w64 (i1 + 1)) w0) k)) else none) else (k (.exit 2) (s267v2 n0 n1 n2 n3 n4 n5 f0 f1 f2 f3 f4 f5 i0 w0))) := by kernel_rfl
theorem q267v2 : ∀ (m : Nat) (x0 : Int),
  loopH (eB A16v3 (C29 u) u) N267v2 m (s267v0 n0 n1 n2 n3 n4 n5 f0 f1 f2 f3 f4 f5 i0 x0 w0) k = L267v2 u n0 f0 i0 w0 n1 f1 n2 f2 n3 f3 n4 f4 n5 f5 m x0 (k .ret (s267v1 n1 n2 n3 n4 n5 f1 f2 f3 f4 f5 i0 w0)) (k (.exit 2) (s267v2 n0 n1 n2 n3 n4 n5 f0 f1 f2 f3 f4 f5 i0 w0))
 | 0,_ => rfl
 | m + 1,x0 => by
  rw [r267v2]
  simp only [L267v2,q267v2 m]
def N267v3 : St → Option St := nN 1 (rl 0 9 (rl 11 35 []))
def s267v3 : St := ⟨(us 9 (.x (.c (ro kD n0 f0)) :: vxi i0 :: (us 35 []))),[.box [(vcs w0),(.c (ro kC n1 f1)),(.c (ro kA n2 f2)),(.c (ro kE n3 f3)),(.c (ro kB n4 f4)),(.c (ro kD n5 f5))]]⟩
def s267v4 : St := ⟨(us 8 (vxi i0 :: (us 37 []))),[.box [(vcs w0),(.c (ro kC n0 f0)),(.c (ro kA n1 f1)),(.c (ro kE n2 f2)),(.c (ro kB n3 f3)),(.c (ro kD n4 f4))],.arr (.pr (.int .i64) .nil) 4 (rowsF 1 [(vi 0),(vi 26),(vi 27),(vi 28)])]⟩
def s267v5 : St := ⟨(us 46 []),[.box [(vcs w0),(.c (ro kC n0 f0)),(.c (ro kA n1 f1)),(.c (ro kE n2 f2)),(.c (ro kB n3 f3)),(.c (ro kD n4 f4))]]⟩
def L267v3 {ρ : Type} (u : Nat) (x0 : Nat) (x1 : FF) (x2 : ByteArray) (x3 : Nat) (x4 : FF) (x5 : Nat) (x6 : FF) (x7 : Nat) (x8 : FF) (x9 : Nat) (xA : FF) (xB : Nat) (xC : FF) : Nat → Int → (Int → Option ρ) → (Option ρ) → Option ρ
 | 0,_,_,_ => none
 | m + 1,xD,k0,k1 =>
  (bif (decide (xD ≤ 3)) then (L267v2 u x0 x1 xD x2 x3 x4 x5 x6 x7 x8 x9 xA xB xC u 0
  (k0 (CV.int ((rowsF 1 [(.i .i64 0),(.i .i64 26),(.i .i64 27),(.i .i64 28)]) (0 + xD.toNat) 0)))
  (L267v3 u x0 x1 x2 x3 x4 x5 x6 x7 x8 x9 xA xB xC m (w64 (xD + 1)) k0 k1)) else k1)
theorem nl267v3 : ∀ (m : Nat) (x0 : Int) (k0 : Int → Option ρ) (k1 : Option ρ),ob (L267v3 u n0 f0 w0 n1 f1 n2 f2 n3 f3 n4 f4 n5 f5 m x0 k0 k1) ng = L267v3 u n0 f0 w0 n1 f1 n2 f2 n3 f3 n4 f4 n5 f5 m x0 (fun x1 => ob (k0 x1) ng) (ob k1 ng)
 | 0,_,_,_ => rfl
 | m + 1,x0,k0,k1 => by
  simp only [L267v3,ob_bif,ob_ob,ob_none,nl267v3 m,nl267v2]
def s267v6 : St := ⟨(us 9 (.x (.c (ro kD n0 f0)) :: vxi i0 :: vxi 0 :: (us 34 []))),[.box [(vcs w0),(.c (ro kC n1 f1)),(.c (ro kA n2 f2)),(.c (ro kE n3 f3)),(.c (ro kB n4 f4)),(.c (ro kD n5 f5))]]⟩
theorem r267v3 :
  loopH (eB A16v6 (C29 u) u) N267v3 (m + 1) (s267v3 n0 n1 n2 n3 n4 n5 f0 f1 f2 f3 f4 f5 i0 w0) k =
  (bif (decide (i0 ≤ 3)) then (loopN (eB A16v3 (C29 u) u) N267v2 u (s267v6 n0 n1 n2 n3 n4 n5 f0 f1 f2 f3 f4 f5 i0 w0) (kBlk 2 (kBlk 1 (kSeq (C29 u) u (8 :: 11 :: (rl 29 17 [])) A16v4 (kLoop (eB A16v6 (C29 u) u) N267v3 m k))))) else (k (.exit 0) (s267v5 n1 n2 n3 n4 n5 f1 f2 f3 f4 f5 w0))) := by kernel_rfl
theorem t267v1 :
  loopN (eB A16v3 (C29 u) u) N267v2 u (s267v6 n0 n1 n2 n3 n4 n5 f0 f1 f2 f3 f4 f5 i0 w0) k =
  L267v2 u n0 f0 i0 w0 n1 f1 n2 f2 n3 f3 n4 f4 n5 f5 u 0 (k .ret (s267v1 n1 n2 n3 n4 n5 f1 f2 f3 f4 f5 i0 w0)) (k (.exit 2) (s267v2 n0 n1 n2 n3 n4 n5 f0 f1 f2 f3 f4 f5 i0 w0)) :=
 Eq.trans (loopN_at (by kernel_rfl)) (q267v2 ..)
theorem g267v2 :
  (kBlk 2 (kBlk 1 (kSeq (C29 u) u (8 :: 11 :: (rl 29 17 [])) A16v4 (kLoop (eB A16v6 (C29 u) u) N267v3 m k)))) .ret (s267v1 n0 n1 n2 n3 n4 f0 f1 f2 f3 f4 i0 w0) =
  (k .ret (s267v4 n0 n1 n2 n3 n4 f0 f1 f2 f3 f4 (CV.int ((rowsF 1 [(vi 0),(vi 26),(vi 27),(vi 28)]) (0 + i0.toNat) 0)) w0)) := by kernel_rfl
theorem g267v3 :
  (kBlk 2 (kBlk 1 (kSeq (C29 u) u (8 :: 11 :: (rl 29 17 [])) A16v4 (kLoop (eB A16v6 (C29 u) u) N267v3 m k)))) (.exit 2) (s267v2 n0 n1 n2 n3 n4 n5 f0 f1 f2 f3 f4 f5 i0 w0) =
  (loopH (eB A16v6 (C29 u) u) N267v3 m (s267v3 n0 n1 n2 n3 n4 n5 f0 f1 f2 f3 f4 f5 (w64 (i0 + 1)) w0) k) := by kernel_rfl
theorem q267v3 : ∀ (m : Nat) (x0 : Int),
  loopH (eB A16v6 (C29 u) u) N267v3 m (s267v3 n0 n1 n2 n3 n4 n5 f0 f1 f2 f3 f4 f5 x0 w0) k = L267v3 u n0 f0 w0 n1 f1 n2 f2 n3 f3 n4 f4 n5 f5 m x0 (fun x1 => k .ret (s267v4 n1 n2 n3 n4 n5 f1 f2 f3 f4 f5 x1 w0)) (k (.exit 0) (s267v5 n1 n2 n3 n4 n5 f1 f2 f3 f4 f5 w0))
 | 0,_ => rfl
 | m + 1,x0 => by
  rw [r267v3]
  simp only [L267v3,q267v3 m,t267v1,g267v2,g267v3]
def F267 (x0 : ByteArray) (x1 : Nat) (x2 : FF) (x3 : Nat) (x4 : FF) (x5 : Nat) (x6 : FF) (x7 : Nat) (x8 : FF) (x9 : Nat) (xA : FF) (xB : Nat) (xC : FF) (xD : Nat) (xE : FF) (xF : ByteArray) : Option (Int) :=
 (ob (F252 u x0 x1 x2 x3 x4 x5 x6 x7 x8 x9 xA) fun xG => (ob (F264 u xG.1 xG.2 xF) fun xH => (bif (!xH) then (some 8) else (ob (F264 u xB xC xF) fun xI => (bif xI then (some 14) else (ob (F266 u x0 x1 x2 x3 x4 x5 x6 x7 x8 x9 xA xB xC xD xE xF) fun xJ => (L267v3 u xJ.1 xJ.2 x0 x1 x2 x3 x4 x5 x6 x7 x8 x9 xA u 1
  (fun xK => (some xK))
  (some 0))))))))
def s267v7 (x0 : Nat × FF) : St := ⟨(.agg [(vcs w0),(.c (ro kC n0 f0)),(.c (ro kA n1 f1)),(.c (ro kE n2 f2)),(.c (ro kB n3 f3)),(.c (ro kD n4 f4))] :: .x (.c (ro (.pr .str .nil) n5 f5)) :: .x (.c (ro (.pr .str .nil) n6 f6)) :: vxs w1 :: .x (.ptr 0 0) :: uu :: uu :: uu :: .u :: .x (.c (ro kD x0.1 x0.2)) :: vxi 1 :: uu :: (us 8 [.agg [(vcs w0),(.c (ro kC n0 f0)),(.c (ro kA n1 f1)),(.c (ro kE n2 f2)),(.c (ro kB n3 f3)),(.c (ro kD n4 f4))],.x (.c (ro (.pr .str .nil) n5 f5)),.x (.c (ro (.pr .str .nil) n6 f6)),vxs w1,.x (.c (ro kD x0.1 x0.2)),uu,uu,uu,uu,uu,uu,uu,uu,uu,uu,uu,uu,uu,uu,uu,uu,uu,uu,uu,uu,uu])),[.box [(vcs w0),(.c (ro kC n0 f0)),(.c (ro kA n1 f1)),(.c (ro kE n2 f2)),(.c (ro kB n3 f3)),(.c (ro kD n4 f4))]]⟩
theorem t267v4 (x0 : Nat × FF) :
  loopN (eB A16v6 (C29 u) u) N267v3 u (s267v7 n0 n1 n2 n3 n4 n5 n6 f0 f1 f2 f3 f4 f5 f6 w0 w1 x0) k =
  L267v3 u x0.1 x0.2 w0 n0 f0 n1 f1 n2 f2 n3 f3 n4 f4 u 1 (fun x1 => k .ret (s267v4 n0 n1 n2 n3 n4 f0 f1 f2 f3 f4 x1 w0)) (k (.exit 0) (s267v5 n0 n1 n2 n3 n4 f0 f1 f2 f3 f4 w0)) :=
 Eq.trans (loopN_at (by kernel_rfl)) (q267v3 ..)
theorem g267v5 :
  (kBlk 0 (kSeq (C29 u) u (8 :: 10 :: 11 :: (rl 25 21 [])) A16v7 (finish A16))) .ret (s267v4 n0 n1 n2 n3 n4 f0 f1 f2 f3 f4 i0 w0) =
  (some [.v (vi i0)]) := by kernel_rfl
theorem g267v6 :
  (kBlk 0 (kSeq (C29 u) u (8 :: 10 :: 11 :: (rl 25 21 [])) A16v7 (finish A16))) (.exit 0) (s267v5 n0 n1 n2 n3 n4 f0 f1 f2 f3 f4 w0) =
  (some [.v (vi 0)]) := by kernel_rfl
theorem e267 : evalF (C29 u) u A16 [.agg [(.s w0),(ro kC n0 f0),(ro kA n1 f1),(ro kE n2 f2),(ro kB n3 f3),(ro kD n4 f4)],.v (ro (.pr .str .nil) n5 f5),.v (ro (.pr .str .nil) n6 f6),.v (.s w1)] = ob (F267 u w0 n0 f0 n1 f1 n2 f2 n3 f3 n4 f4 n5 f5 n6 f6 w1) fun t => some [.v (vi t)] := Eq.trans (b := (ob (F252 u w0 n0 f0 n1 f1 n2 f2 n3 f3 n4 f4) fun x0 => (ob (F264 u x0.1 x0.2 w1) fun x1 => (bif (!x1) then (some [.v (vi 8)]) else (ob (F264 u n5 f5 w1) fun x2 => (bif x2 then (some [.v (vi 14)]) else (ob (F266 u w0 n0 f0 n1 f1 n2 f2 n3 f3 n4 f4 n5 f5 n6 f6 w1) fun x3 => (loopN (eB A16v6 (C29 u) u) N267v3 u (s267v7 n0 n1 n2 n3 n4 n5 n6 f0 f1 f2 f3 f4 f5 f6 w0 w1 x3) (kBlk 0 (kSeq (C29 u) u (8 :: 10 :: 11 :: (rl 25 21 [])) A16v7 (finish A16))))))))))) (by kernel_rfl) (by
 simp only [F267,ob_bif,ob_ob,ob_none,ob_some,nl267v3,t267v4,g267v5,g267v6])
def O267 : Ora := mkO (qc (ag (tc cS (tc (cL kC) (tc (cL kA) (tc (cL kE) (tc (cL kB) (t1 (cL kD)))))))) (qc (av (cL (.pr .str .nil))) (qc (av (cL (.pr .str .nil))) (q1 (av cS))))) (fun x => F267 u x.1.1 x.1.2.1.1 x.1.2.1.2 x.1.2.2.1.1 x.1.2.2.1.2 x.1.2.2.2.1.1 x.1.2.2.2.1.2 x.1.2.2.2.2.1.1 x.1.2.2.2.2.1.2 x.1.2.2.2.2.2.1 x.1.2.2.2.2.2.2 x.2.1.1 x.2.1.2 x.2.2.1.1 x.2.2.1.2 x.2.2.2) fun t => [.v (vi t)]
theorem d267 : DO (O267 u) (C29 u) 16 A16 := dO u (fun x => by exact e267 u x.1.2.1.1 x.1.2.2.1.1 x.1.2.2.2.1.1 x.1.2.2.2.2.1.1 x.1.2.2.2.2.2.1 x.2.1.1 x.2.2.1.1 x.1.2.1.2 x.1.2.2.1.2 x.1.2.2.2.1.2 x.1.2.2.2.2.1.2 x.1.2.2.2.2.2.2 x.2.1.2 x.2.2.1.2 x.1.1 x.2.2.2)
def C30 : Oracle := (C29 u).add 16 (fun _ => true) (O267 u)
def A17v1 : AC := (.region 5 [mv 15 5,o1 16 (bk .add 3 15 1),o1 5 (sg 16)] 0 none)
def A17v2 : AC := (.seq (.block 1
 (.seq (.region 6 [mv 17 0,mv 18 5,o1 19 (.indexAddr 26 49 3 (tm 17) (tm 18)),o1 20 (ln 49 3 19),mv 21 1,mv 22 5,o1 23 (.indexAddr 26 49 3 (tm 21) (tm 22)),o1 24 (ln 49 3 23),o1 25 (.eqA true kD 49 (tm 20) (tm 24) 49)] 0 (some [[],[],[0,1],[0,1,2],[],[],[4,5],[4,5,6],(rl 0 8 [])])) []
  (.cond (tm 25)
  (.seq (.region 7 [o1 4 (sb false)] 0 none) []
   (.ret (rl 0 4 (rl 5 21 []))))
  .skip))) (4 :: (rl 17 9 []))
 A17v1)
def A17v3 : AC := (.seq (.seq (.region 4 [mv 11 5,mv 12 0,o1 13 (.len 26 false (tm 12)),o1 14 (bt .lss 3 11 13)] 0 none) []
 (.cond (tm 14)
 .skip
 (.exit 0 (rl 0 26 [])))) (rl 11 4 [])
 A17v2)
def A17v4 : AC := (.seq (.region 8 [o1 4 (sb true)] 0 none) []
 (.ret (rl 0 4 (rl 5 21 []))))
def A17v5 : AC := (.seq (.seq (.region 3 [o1 5 (sk 0)] 0 none) []
 (.block 0
 (.loop [] (2 :: 3 :: 4 :: (rl 6 20 []))
  A17v3))) (4 :: 5 :: (rl 11 15 []))
 A17v4)
def A17 : AF := ⟨26,[.tmp 4],
 (.seq (.region 0 [o1 4 (sb false)] 0 none) []
 (.seq (.seq (.region 1 [mv 6 0,o1 7 (.len 26 false (tm 6)),mv 8 1,o1 9 (.len 26 false (tm 8)),o1 10 (bt .neq 3 7 9)] 0 none) []
 (.cond (tm 10)
 (.seq (.region 2 [o1 4 (sb false)] 0 none) []
  (.ret (rl 0 4 (rl 5 21 []))))
 .skip)) (4 :: (rl 6 5 []))
 A17v5))⟩
def N270v1 : St → Option St := nN 0 (2 :: 3 :: 4 :: (rl 6 20 []))
def s270v0 : St := ⟨(.x (.c (ro kD n0 f0)) :: .x (.c (ro kD n1 f1)) :: (us 3 (vxi i0 :: (us 20 [])))),[]⟩
def s270v1 : St := ⟨(us 4 (vxb false :: (us 21 []))),[]⟩
def s270v2 : St := ⟨(us 26 []),[]⟩
def L270v1 {ρ : Type} (u : Nat) (x0 : Nat) (x1 : FF) (x2 : Nat) (x3 : FF) : Nat → Int → (Option ρ) → (Option ρ) → Option ρ
 | 0,_,_,_ => none
 | m + 1,x4,k0,k1 =>
  (bif (decide (x4 < (Int.ofNat x0))) then (bif (inb x4 x0) then (bif (inb x4 x2) then (bif (!(((x1 x4.toNat 0).int == (x3 x4.toNat 0).int) && ((ByteArray.toList (x1 x4.toNat 1).str == ByteArray.toList (x3 x4.toNat 1).str) && ((ByteArray.toList (x1 x4.toNat 2).str == ByteArray.toList (x3 x4.toNat 2).str) && true)))) then k0 else (L270v1 u x0 x1 x2 x3 m (w64 (x4 + 1)) k0 k1)) else none) else none) else k1)
theorem nl270v1 : ∀ (m : Nat) (x0 : Int) (k0 : Option ρ) (k1 : Option ρ),ob (L270v1 u n0 f0 n1 f1 m x0 k0 k1) ng = L270v1 u n0 f0 n1 f1 m x0 (ob k0 ng) (ob k1 ng)
 | 0,_,_,_ => rfl
 | m + 1,x0,k0,k1 => by
  simp only [L270v1,ob_bif,ob_ob,ob_none,nl270v1 m]
theorem r270v1 :
  loopH (eB A17v3 (C30 u) u) N270v1 (m + 1) (s270v0 n0 n1 f0 f1 i0) k =
  (bif (decide (i0 < (Int.ofNat n0))) then (bif (inb i0 n0) then (bif (inb i0 n1) then (bif (!(((f0 i0.toNat 0).int == (f1 i0.toNat 0).int) && ((ByteArray.toList (f0 i0.toNat 1).str == ByteArray.toList (f1 i0.toNat 1).str) && ((ByteArray.toList (f0 i0.toNat 2).str == ByteArray.toList (f1 i0.toNat 2).str) && true)))) then (k .ret s270v1) else (loopH (eB A17v3 (C30 u) u) N270v1 m (s270v0 n0 n1 f0 f1 (w64 (i0 + 1))) k)) else none) else none) else (k (.exit 0) s270v2)) := by kernel_rfl
theorem q270v1 : ∀ (m : Nat) (x0 : Int),
  loopH (eB A17v3 (C30 u) u) N270v1 m (s270v0 n0 n1 f0 f1 x0) k = L270v1 u n0 f0 n1 f1 m x0 (k .ret s270v1) (k (.exit 0) s270v2)
 | 0,_ => rfl
 | m + 1,x0 => by
  rw [r270v1]
  simp only [L270v1,q270v1 m]
def F270 (x0 : Nat) (x1 : FF) (x2 : Nat) (x3 : FF) : Option (Bool) :=
 (bif ((Int.ofNat x0) != (Int.ofNat x2)) then (some false) else (L270v1 u x0 x1 x2 x3 u 0
  (some false)
  (some true)))
def s270v3 : St := ⟨(.x (.c (ro kD n0 f0)) :: .x (.c (ro kD n1 f1)) :: uu :: uu :: .u :: vxi 0 :: (us 5 [uu,uu,uu,uu,uu,uu,uu,uu,uu,uu,uu,uu,uu,uu,uu])),[]⟩
theorem t270v1 :
  loopN (eB A17v3 (C30 u) u) N270v1 u (s270v3 n0 n1 f0 f1) k =
  L270v1 u n0 f0 n1 f1 u 0 (k .ret s270v1) (k (.exit 0) s270v2) :=
 Eq.trans (loopN_at (by kernel_rfl)) (q270v1 ..)
theorem g270v2 :
  (kBlk 0 (kSeq (C30 u) u (4 :: 5 :: (rl 11 15 [])) A17v4 (finish A17))) .ret s270v1 =
  (some [.v (.b false)]) := by kernel_rfl
theorem g270v3 :
  (kBlk 0 (kSeq (C30 u) u (4 :: 5 :: (rl 11 15 [])) A17v4 (finish A17))) (.exit 0) s270v2 =
  (some [.v (.b true)]) := by kernel_rfl
theorem e270 : evalF (C30 u) u A17 [.v (ro kD n0 f0),.v (ro kD n1 f1)] = ob (F270 u n0 f0 n1 f1) fun t => some [.v (.b t)] := Eq.trans (b := (bif ((Int.ofNat n0) != (Int.ofNat n1)) then (some [.v (.b false)]) else (loopN (eB A17v3 (C30 u) u) N270v1 u (s270v3 n0 n1 f0 f1) (kBlk 0 (kSeq (C30 u) u (4 :: 5 :: (rl 11 15 [])) A17v4 (finish A17)))))) (by kernel_rfl) (by
 simp only [F270,ob_bif,ob_ob,ob_none,ob_some,nl270v1,t270v1,g270v2,g270v3])
def O270 : Ora := mkO (qc (av (cL kD)) (q1 (av (cL kD)))) (fun x => F270 u x.1.1 x.1.2 x.2.1 x.2.2) fun t => [.v (.b t)]
theorem d270 : DO (O270 u) (C30 u) 17 A17 := dO u (fun x => by exact e270 u x.1.1 x.2.1 x.1.2 x.2.2)
def C31 : Oracle := (C30 u).add 17 (fun _ => true) (O270 u)
def A4v1 : AC := (.seq (.region 3 [o1 12 (fa 41 1 0 0),o1 13 (ln 28 6 12),o1 14 (fa 41 1 1 6),o1 15 (lo 31 14),o1 16 (fa 41 1 2 7),o1 17 (lo 31 16),o1 18 (fa 41 1 3 8),o1 19 (lo 9 18),o1 20 (cs 15 [13,15,17,19] [28,31,31,9]),o1 21 (fa 41 1 0 0),o1 22 (ln 28 6 21),o1 23 (fa 41 1 1 6),o1 24 (lo 31 23),o1 25 (fa 41 1 2 7),o1 26 (lo 31 25),o1 27 (fa 41 1 3 8),o1 28 (lo 9 27),o1 29 (cs 16 [22,24,26,28] [28,31,31,9]),o1 30 (bt .eql 32 20 29),mv 31 30,og 32 (fa 41 1 0 0) 31 true,og 33 (ln 28 6 32) 31 true,og 34 (fa 41 1 1 6) 31 true,og 35 (lo 31 34) 31 true,og 36 (fa 41 1 2 7) 31 true,og 37 (lo 31 36) 31 true,og 38 (fa 41 1 3 8) 31 true,og 39 (lo 9 38) 31 true,og 40 (cf 18 [33,35,37,39] [28,31,31,9]) 31 true,og 41 (fa 41 1 0 0) 31 true,og 42 (ln 28 6 41) 31 true,og 43 (fa 41 1 1 6) 31 true,og 44 (lo 31 43) 31 true,og 45 (fa 41 1 2 7) 31 true,og 46 (lo 31 45) 31 true,og 47 (fa 41 1 3 8) 31 true,og 48 (lo 9 47) 31 true,og 49 (cf 19 [42,44,46,48] [28,31,31,9]) 31 true,og 50 (cs 17 [40,49] [26,26]) 31 true,o1 51 (po 31 50),mv 52 51,og 53 (cs 8 [] []) 52 true,o1 54 (po 52 53),o1 2 (sg 54)] 0 (some [[],[0],[],[2],[],[4],[],[6],(rl 0 8 []),[],[9],[],[11],[],[13],[],[15],(rl 0 17 []),(rl 0 18 []),(rl 0 19 []),(rl 0 20 []),(rl 0 21 []),(rl 0 20 []),(rl 0 20 [22]),(rl 0 20 []),(rl 0 20 [24]),(rl 0 20 []),(rl 0 20 [26]),(rl 0 28 []),(rl 0 20 []),(rl 0 20 [29]),(rl 0 20 []),(rl 0 20 [31]),(rl 0 20 []),(rl 0 20 [33]),(rl 0 20 []),(rl 0 20 [35]),(rl 0 37 []),(rl 0 38 []),(rl 0 39 []),(rl 0 40 []),(rl 0 41 []),(rl 0 42 []),(rl 0 43 [])])) []
 (.ghost [0] (.ret (0 :: 1 :: (rl 3 52 [])))))
def A4 : AF := ⟨55,[.tmp 2],
 (.seq (.region 0 [o1 1 (bx 0 41 0),o1 2 (sb false)] 1 none) []
 (.seq (.seq (.region 1 [o1 3 (fa 41 1 0 0),o1 4 (ln 28 6 3),o1 5 (fa 41 1 1 6),o1 6 (lo 31 5),o1 7 (fa 41 1 2 7),o1 8 (lo 31 7),o1 9 (cs 7 [4,6,8] [28,31,31]),o1 10 (.unOp .not 4 (tm 9))] 0 none) []
 (.cond (tm 10)
 (.seq (.region 2 [o1 11 (cs 8 [] []),o1 2 (sg 11)] 0 none) []
  (.ghost [0] (.ret (0 :: 1 :: (rl 3 52 [])))))
 .skip)) (rl 2 10 [])
 A4v1))⟩
def F280 (x0 : Nat → CV) : Option (Bool) :=
 (ob (F274 u (x0 0).str (x0 1).len (x0 1).el (x0 2).len (x0 2).el (x0 3).len (x0 3).el (x0 4).len (x0 4).el (x0 5).len (x0 5).el (x0 6).len (x0 6).el (x0 7).len (x0 7).el) fun x1 => (bif (!x1) then (ob (F278 u) fun x2 => (some x2)) else (ob (F263 u (x0 0).str (x0 1).len (x0 1).el (x0 2).len (x0 2).el (x0 3).len (x0 3).el (x0 4).len (x0 4).el (x0 5).len (x0 5).el (x0 6).len (x0 6).el (x0 7).len (x0 7).el (x0 8).str) fun x3 => (ob (F267 u (x0 0).str (x0 1).len (x0 1).el (x0 2).len (x0 2).el (x0 3).len (x0 3).el (x0 4).len (x0 4).el (x0 5).len (x0 5).el (x0 6).len (x0 6).el (x0 7).len (x0 7).el (x0 8).str) fun x4 => (bif ((x3 == x4) == true) then (ob (F259 u (x0 0).str (x0 1).len (x0 1).el (x0 2).len (x0 2).el (x0 3).len (x0 3).el (x0 4).len (x0 4).el (x0 5).len (x0 5).el (x0 6).len (x0 6).el (x0 7).len (x0 7).el (x0 8).str) fun x5 => (ob (F266 u (x0 0).str (x0 1).len (x0 1).el (x0 2).len (x0 2).el (x0 3).len (x0 3).el (x0 4).len (x0 4).el (x0 5).len (x0 5).el (x0 6).len (x0 6).el (x0 7).len (x0 7).el (x0 8).str) fun x6 => (ob (F270 u x5.1 x5.2 x6.1 x6.2) fun x7 => (bif (x7 == true) then (ob (F278 u) fun x8 => (some x8)) else (some false))))) else (some false))))))
theorem e280 : evalF (C31 u) u A4 [.agg (pj kR0 g0)] = ob (F280 u g0) fun t => some [.v (.b t)] := Eq.trans (b := (ob (F274 u (g0 0).str (g0 1).len (g0 1).el (g0 2).len (g0 2).el (g0 3).len (g0 3).el (g0 4).len (g0 4).el (g0 5).len (g0 5).el (g0 6).len (g0 6).el (g0 7).len (g0 7).el) fun x0 => (bif (!x0) then (ob (F278 u) fun x1 => (some [.v (.b x1)])) else (ob (F263 u (g0 0).str (g0 1).len (g0 1).el (g0 2).len (g0 2).el (g0 3).len (g0 3).el (g0 4).len (g0 4).el (g0 5).len (g0 5).el (g0 6).len (g0 6).el (g0 7).len (g0 7).el (g0 8).str) fun x2 => (ob (F267 u (g0 0).str (g0 1).len (g0 1).el (g0 2).len (g0 2).el (g0 3).len (g0 3).el (g0 4).len (g0 4).el (g0 5).len (g0 5).el (g0 6).len (g0 6).el (g0 7).len (g0 7).el (g0 8).str) fun x3 => (bif ((x2 == x3) == true) then (ob (F259 u (g0 0).str (g0 1).len (g0 1).el (g0 2).len (g0 2).el (g0 3).len (g0 3).el (g0 4).len (g0 4).el (g0 5).len (g0 5).el (g0 6).len (g0 6).el (g0 7).len (g0 7).el (g0 8).str) fun x4 => (ob (F266 u (g0 0).str (g0 1).len (g0 1).el (g0 2).len (g0 2).el (g0 3).len (g0 3).el (g0 4).len (g0 4).el (g0 5).len (g0 5).el (g0 6).len (g0 6).el (g0 7).len (g0 7).el (g0 8).str) fun x5 => (ob (F270 u x4.1 x4.2 x5.1 x5.2) fun x6 => (bif (x6 == true) then (ob (F278 u) fun x7 => (some [.v (.b x7)])) else (some [.v (.b false)]))))) else (some [.v (.b false)]))))))) (by kernel_rfl) (by
 simp only [F280,ob_bif,ob_ob,ob_none,ob_some])
def O280 : Ora := mkO (q1 (ar kR0)) (fun x => F280 u x) fun t => [.v (.b t)]
theorem d280 : DO (O280 u) (C31 u) 4 A4 := dO u (fun x => by exact e280 u x)
/- Functions that the plain texts alone name. -/
end Go.Eng.R13
