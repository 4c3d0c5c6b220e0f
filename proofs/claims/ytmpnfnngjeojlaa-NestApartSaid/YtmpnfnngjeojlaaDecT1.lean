/-
 The functions of the program,run on symbols; printed by decomp.py.
-/
import Derived.Test.YtmpnfnngjeojlaaDecT0
set_option linter.all false
set_option maxRecDepth 1000000
set_option maxHeartbeats 4000000
namespace Go.Eng.R13
open Go Go.RowKit Go.Eng
variable {ρ σ : Type} (u m : Nat) (k : Ex → St → Option ρ) (ng : ρ → Option σ) (n0 n1 n2 n3 n4 n5 n6 : Nat) (f0 f1 f2 f3 f4 f5 f6 : FF) (i0 i1 i2 i3 i4 i5 i6 i7 i8 i9 iA iB iC iD iE iF iG iH iI iJ iK iL iM : Int) (b0 b1 : Bool) (w0 w1 w2 w3 w4 w5 w6 w7 w8 : ByteArray) (g0 g1 : Nat → CV)
def N58bv2 : St → Option St := nN 1 (rl 3 4 (9 :: 10 :: (rl 14 4 (rl 21 26 []))))
def s58bv0 : St := ⟨(.x (.c (ro kP n0 f0)) :: .x (.c (ro kP n1 f1)) :: .x (.c (.fn 41 1 (listF [(.rp (.pr (.int .i64) .nil) g0)]))) :: (us 4 (vxi i0 :: .x (.ptr 0 0) :: .u :: .u :: .x (.c (ro kP n0 f0)) :: vxi i1 :: vxi i0 :: (us 4 (.x (.c (ro kP n1 f1)) :: vxi i2 :: vxi i3 :: (us 26 [])))))),[.box [(vci i4),(vci i5)]]⟩
def s58bv1 : St := ⟨(us 6 (vxb true :: (us 40 []))),[.box [(vci i0),(vci i1)],.box [(vci i2),(vci i3)]]⟩
def s58bv2 : St := ⟨(.x (.c (ro kP n0 f0)) :: .x (.c (ro kP n1 f1)) :: .x (.c (.fn 41 1 (listF [(.rp (.pr (.int .i64) .nil) g0)]))) :: (us 8 (.x (.c (ro kP n0 f0)) :: vxi i0 :: vxi i1 :: (us 33 [])))),[.box [(vci i2),(vci i3)]]⟩
def L58bv2 {ρ : Type} (u : Nat) (x0 : Nat) (x1 : FF) (x2 : Nat) (x3 : FF) (x4 : Nat → CV) (x5 x6 x7 x8 x9 : Int) : Nat → Int → (Int → Int → Option ρ) → (Option ρ) → Option ρ
 | 0,_,_,_ => none
 | m + 1,xA,k0,k1 =>
  (bif (decide (xA < x7)) then (bif (inb xA x2) then (bif ((Int.ofNat x0) == 0) then none else (bif (inb (Int.tmod (w64 (x5 + 1)) (Int.ofNat x0)) x0) then (bif ((Int.ofNat x2) == 0) then none else (bif (inb (Int.tmod (w64 (xA + 1)) (Int.ofNat x2)) x2) then (ob (F55 u x8 x9 (CV.int (x1 (Int.toNat (Int.tmod (w64 (x5 + 1)) (Int.ofNat x0))) 0)) (CV.int (x1 (Int.toNat (Int.tmod (w64 (x5 + 1)) (Int.ofNat x0))) 1)) (x3 xA.toNat 0).int (x3 xA.toNat 1).int (CV.int (x3 (Int.toNat (Int.tmod (w64 (xA + 1)) (Int.ofNat x2))) 0)) (CV.int (x3 (Int.toNat (Int.tmod (w64 (xA + 1)) (Int.ofNat x2))) 1)) x4) fun xB => (bif xB then (k0 (x3 xA.toNat 0).int (x3 xA.toNat 1).int) else (L58bv2 u x0 x1 x2 x3 x4 x5 x6 x7 x8 x9 m (w64 (xA + 1)) k0 k1))) else none)) else none)) else none) else k1)
theorem nl58bv2 : ∀ (m : Nat) (x0 : Int) (k0 : Int → Int → Option ρ) (k1 : Option ρ),ob (L58bv2 u n0 f0 n1 f1 g0 i0 i1 i2 i3 i4 m x0 k0 k1) ng = L58bv2 u n0 f0 n1 f1 g0 i0 i1 i2 i3 i4 m x0 (fun x1 x2 => ob (k0 x1 x2) ng) (ob k1 ng)
 | 0,_,_,_ => rfl
 | m + 1,x0,k0,k1 => by
  simp only [L58bv2,ob_bif,ob_ob,ob_none,nl58bv2 m]
theorem r58bv2 :
  loopH (eB A45v3 (C46 u) u) N58bv2 (m + 1) (s58bv0 n0 n1 f0 f1 i0 i1 i2 i5 i3 i4 g0) k =
  (bif (decide (i5 < i2)) then (bif (inb i5 n1) then (bif ((Int.ofNat n0) == 0) then none else (bif (inb (Int.tmod (w64 (i0 + 1)) (Int.ofNat n0)) n0) then (bif ((Int.ofNat n1) == 0) then none else (bif (inb (Int.tmod (w64 (i5 + 1)) (Int.ofNat n1)) n1) then (ob (F55 u i3 i4 (CV.int (f0 (Int.toNat (Int.tmod (w64 (i0 + 1)) (Int.ofNat n0))) 0)) (CV.int (f0 (Int.toNat (Int.tmod (w64 (i0 + 1)) (Int.ofNat n0))) 1)) (f1 i5.toNat 0).int (f1 i5.toNat 1).int (CV.int (f1 (Int.toNat (Int.tmod (w64 (i5 + 1)) (Int.ofNat n1))) 0)) (CV.int (f1 (Int.toNat (Int.tmod (w64 (i5 + 1)) (Int.ofNat n1))) 1)) g0) fun x0 => (bif x0 then (k .ret (s58bv1 i3 i4 (f1 i5.toNat 0).int (f1 i5.toNat 1).int)) else (loopH (eB A45v3 (C46 u) u) N58bv2 m (s58bv0 n0 n1 f0 f1 i0 i1 i2 (w64 (i5 + 1)) i3 i4 g0) k))) else none)) else none)) else none) else (k (.exit 2) (s58bv2 n0 n1 f0 f1 i1 i0 i3 i4 g0))) := by kernel_rfl
theorem q58bv2 : ∀ (m : Nat) (x0 : Int),
  loopH (eB A45v3 (C46 u) u) N58bv2 m (s58bv0 n0 n1 f0 f1 i0 i1 i2 x0 i3 i4 g0) k = L58bv2 u n0 f0 n1 f1 g0 i0 i1 i2 i3 i4 m x0 (fun x1 x2 => k .ret (s58bv1 i3 i4 x1 x2)) (k (.exit 2) (s58bv2 n0 n1 f0 f1 i1 i0 i3 i4 g0))
 | 0,_ => rfl
 | m + 1,x0 => by
  rw [r58bv2]
  simp only [L58bv2,q58bv2 m]
def N58bv3 : St → Option St := nN 0 (rl 3 8 (rl 14 33 []))
def s58bv3 : St := ⟨(.x (.c (ro kP n0 f0)) :: .x (.c (ro kP n1 f1)) :: .x (.c (.fn 41 1 (listF [(.rp (.pr (.int .i64) .nil) g0)]))) :: (us 8 (.x (.c (ro kP n0 f0)) :: vxi i0 :: vxi i1 :: (us 33 [])))),[]⟩
def s58bv4 : St := ⟨(us 6 (vxb true :: (us 40 []))),[.box [(vci i0),(vci i1)],.box [(vci i2),(vci i3)]]⟩
def s58bv5 : St := ⟨(us 47 []),[]⟩
def L58bv3 {ρ : Type} (u : Nat) (x0 : Nat) (x1 : FF) (x2 : Nat) (x3 : FF) (x4 : Nat → CV) (x5 : Int) : Nat → Int → (Int → Int → Int → Int → Option ρ) → (Option ρ) → Option ρ
 | 0,_,_,_ => none
 | m + 1,x6,k0,k1 =>
  (bif (decide (x6 < x5)) then (bif (inb x6 x0) then (L58bv2 u x0 x1 x2 x3 x4 x6 x5 (Int.ofNat x2) (x1 x6.toNat 0).int (x1 x6.toNat 1).int u 0
  (fun x7 x8 => (k0 (x1 x6.toNat 0).int (x1 x6.toNat 1).int x7 x8))
  (L58bv3 u x0 x1 x2 x3 x4 x5 m (w64 (x6 + 1)) k0 k1)) else none) else k1)
theorem nl58bv3 : ∀ (m : Nat) (x0 : Int) (k0 : Int → Int → Int → Int → Option ρ) (k1 : Option ρ),ob (L58bv3 u n0 f0 n1 f1 g0 i0 m x0 k0 k1) ng = L58bv3 u n0 f0 n1 f1 g0 i0 m x0 (fun x1 x2 x3 x4 => ob (k0 x1 x2 x3 x4) ng) (ob k1 ng)
 | 0,_,_,_ => rfl
 | m + 1,x0,k0,k1 => by
  simp only [L58bv3,ob_bif,ob_ob,ob_none,nl58bv3 m,nl58bv2]
def s58bv6 : St := ⟨(.x (.c (ro kP n0 f0)) :: .x (.c (ro kP n1 f1)) :: .x (.c (.fn 41 1 (listF [(.rp (.pr (.int .i64) .nil) g0)]))) :: (us 4 (vxi i0 :: .x (.ptr 0 0) :: .u :: .u :: .x (.c (ro kP n0 f0)) :: vxi i1 :: vxi i0 :: vxb true :: vxi i0 :: .x (.c (.rp kP (f0 i0.toNat))) :: .agg [(vci (f0 i0.toNat 0).int),(vci (f0 i0.toNat 1).int)] :: .x (.c (ro kP n1 f1)) :: vxi (Int.ofNat n1) :: vxi 0 :: (us 26 [])))),[.box [(vci (f0 i0.toNat 0).int),(vci (f0 i0.toNat 1).int)]]⟩
theorem r58bv3 :
  loopH (eB A45v6 (C46 u) u) N58bv3 (m + 1) (s58bv3 n0 n1 f0 f1 i0 i1 g0) k =
  (bif (decide (i1 < i0)) then (bif (inb i1 n0) then (loopN (eB A45v3 (C46 u) u) N58bv2 u (s58bv6 n0 n1 f0 f1 i1 i0 g0) (kBlk 2 (kBlk 1 (kSeq (C46 u) u (rl 6 5 (rl 15 31 [])) A45v4 (kLoop (eB A45v6 (C46 u) u) N58bv3 m k))))) else none) else (k (.exit 0) s58bv5)) := by kernel_rfl
theorem t58bv1 :
  loopN (eB A45v3 (C46 u) u) N58bv2 u (s58bv6 n0 n1 f0 f1 i0 i1 g0) k =
  L58bv2 u n0 f0 n1 f1 g0 i0 i1 (Int.ofNat n1) (f0 i0.toNat 0).int (f0 i0.toNat 1).int u 0 (fun x0 x1 => k .ret (s58bv1 (f0 i0.toNat 0).int (f0 i0.toNat 1).int x0 x1)) (k (.exit 2) (s58bv2 n0 n1 f0 f1 i1 i0 (f0 i0.toNat 0).int (f0 i0.toNat 1).int g0)) :=
 Eq.trans (loopN_at (by kernel_rfl)) (q58bv2 ..)
theorem g58bv2 :
  (kBlk 2 (kBlk 1 (kSeq (C46 u) u (rl 6 5 (rl 15 31 [])) A45v4 (kLoop (eB A45v6 (C46 u) u) N58bv3 m k)))) .ret (s58bv1 (f0 i0.toNat 0).int (f0 i0.toNat 1).int i1 i2) =
  (k .ret (s58bv4 (f0 i0.toNat 0).int (f0 i0.toNat 1).int i1 i2)) := by kernel_rfl
theorem g58bv3 :
  (kBlk 2 (kBlk 1 (kSeq (C46 u) u (rl 6 5 (rl 15 31 [])) A45v4 (kLoop (eB A45v6 (C46 u) u) N58bv3 m k)))) (.exit 2) (s58bv2 n0 n1 f0 f1 i0 i1 (f0 i1.toNat 0).int (f0 i1.toNat 1).int g0) =
  (loopH (eB A45v6 (C46 u) u) N58bv3 m (s58bv3 n0 n1 f0 f1 i0 (w64 (i1 + 1)) g0) k) := by kernel_rfl
theorem q58bv3 : ∀ (m : Nat) (x0 : Int),
  loopH (eB A45v6 (C46 u) u) N58bv3 m (s58bv3 n0 n1 f0 f1 i0 x0 g0) k = L58bv3 u n0 f0 n1 f1 g0 i0 m x0 (fun x1 x2 x3 x4 => k .ret (s58bv4 x1 x2 x3 x4)) (k (.exit 0) s58bv5)
 | 0,_ => rfl
 | m + 1,x0 => by
  rw [r58bv3]
  simp only [L58bv3,q58bv3 m,t58bv1,g58bv2,g58bv3]
def F58b (x0 : Nat) (x1 : FF) (x2 : Nat) (x3 : FF) (x4 : Nat → CV) : Option (Bool) :=
 (L58bv3 u x0 x1 x2 x3 x4 (Int.ofNat x0) u 0
  (fun x5 x6 x7 x8 => (some true))
  (some false))
def s58bv7 : St := ⟨[.x (.c (ro kP n0 f0)),.x (.c (ro kP n1 f1)),.x (.c (.fn 41 1 (listF [(.rp (.pr (.int .i64) .nil) g0)]))),uu,uu,uu,vxb false,uu,uu,uu,uu,.x (.c (ro kP n0 f0)),vxi (Int.ofNat n0),vxi 0,uu,uu,uu,uu,uu,uu,uu,uu,uu,uu,uu,uu,uu,uu,uu,uu,uu,uu,uu,uu,uu,uu,uu,uu,uu,uu,uu,uu,uu,uu,uu,uu,uu],[]⟩
theorem t58bv4 :
  loopN (eB A45v6 (C46 u) u) N58bv3 u (s58bv7 n0 n1 f0 f1 g0) k =
  L58bv3 u n0 f0 n1 f1 g0 (Int.ofNat n0) u 0 (fun x0 x1 x2 x3 => k .ret (s58bv4 x0 x1 x2 x3)) (k (.exit 0) s58bv5) :=
 Eq.trans (loopN_at (by kernel_rfl)) (q58bv3 ..)
theorem g58bv5 :
  (kBlk 0 (kSeq (C46 u) u (rl 6 41 []) A45v7 (finish A45))) .ret (s58bv4 i0 i1 i2 i3) =
  (some [.v (.b true)]) := by kernel_rfl
theorem g58bv6 :
  (kBlk 0 (kSeq (C46 u) u (rl 6 41 []) A45v7 (finish A45))) (.exit 0) s58bv5 =
  (some [.v (.b false)]) := by kernel_rfl
theorem e58b : evalF (C46 u) u A45 [.v (ro kP n0 f0),.v (ro kP n1 f1),.v (.fn 41 1 (listF [(.rp (.pr (.int .i64) .nil) g0)]))] = ob (F58b u n0 f0 n1 f1 g0) fun t => some [.v (.b t)] := Eq.trans (b := (loopN (eB A45v6 (C46 u) u) N58bv3 u (s58bv7 n0 n1 f0 f1 g0) (kBlk 0 (kSeq (C46 u) u (rl 6 41 []) A45v7 (finish A45))))) (by kernel_rfl) (by
 simp only [F58b,ob_bif,ob_ob,ob_none,ob_some,nl58bv3,t58bv4,g58bv5,g58bv6])
def O58b : Ora := mkO (qc (av (cL kP)) (qc (av (cL kP)) (q1 (av (cF 41 1 (t1 (cP (.pr (.int .i64) .nil)))))))) (fun x => F58b u x.1.1 x.1.2 x.2.1.1 x.2.1.2 x.2.2) fun t => [.v (.b t)]
theorem d58b : DO (O58b u) (C46 u) 45 A45 := dO u (fun x => by exact e58b u x.1.1 x.2.1.1 x.1.2 x.2.1.2 x.2.2)
def C47 : Oracle := (C46 u).add 45 (fun l => isFn 41 l 2) (O58b u)
def A23v1 : AC := (.region 14 [o1 63 (bk .add 3 55 1),mv 55 63] 0 none)
def A23v2 : AC := (.seq (.block 3
 (.seq (.region 11 [o1 57 (.indexAddr 48 47 1 (tm 53) (tm 55)),o1 58 (lo 47 57),o1 11 (sg 58)] 0 none) []
  (.seq (.region 12 [mv 59 9,mv 60 11,mv 61 7,o1 62 (cs 45 [59,60,61] [47,47,77])] 0 none) []
  (.cond (tm 62)
  (.seq (.region 13 [o1 6 (sb false)] 0 none) []
   (.ret (rl 0 6 (rl 7 58 []))))
  .skip)))) (6 :: 11 :: (rl 57 6 []))
 A23v1)
def A23v3 : AC := (.seq (.region 10 [o1 56 (bt .lss 3 55 54)] 0 none) []
 (.seq (.cond (tm 56)
 .skip
 (.exit 2 (rl 0 4 (5 :: 6 :: (rl 8 38 (rl 49 16 [])))))) []
 A23v2))
def A23v4 : AC := (.region 15 [o1 64 (bk .add 3 48 1),mv 48 64] 0 none)
def A23v5 : AC := (.seq (.block 1
 (.seq (.region 8 [o1 50 (.indexAddr 48 47 1 (tm 46) (tm 48)),o1 51 (lo 47 50),o1 9 (sg 51)] 0 none) []
  (.seq (.region 9 [o1 52 (ln 50 2 4),o1 53 (cf 44 [52] [50]),o1 54 (.len 48 false (tm 53)),o1 55 (.move (ic 0))] 0 none) []
  (.block 2
  (.loop [] (rl 0 4 (5 :: 6 :: 8 :: (rl 10 36 (rl 49 4 (rl 56 9 [])))))
   A23v3))))) (6 :: 9 :: 11 :: (rl 50 14 []))
 A23v4)
def A23v6 : AC := (.seq (.region 7 [o1 49 (bt .lss 3 48 47)] 0 none) []
 (.seq (.cond (tm 49)
 .skip
 (.exit 0 (rl 0 65 []))) []
 A23v5))
def A23v7 : AC := (.seq (.region 16 [o1 6 (sb true)] 0 none) []
 (.ret (rl 0 6 (rl 7 58 []))))
def A23v8 : AC := (.seq (.region 5 [o1 44 (.mkfn 41 [(tm 5)]),o1 7 (sg 44)] 0 none) []
 (.seq (.seq (.region 6 [o1 45 (ln 50 2 3),o1 46 (cf 44 [45] [50]),o1 47 (.len 48 false (tm 46)),o1 48 (.move (ic 0))] 0 none) []
 (.block 0
 (.loop [] (rl 0 4 (5 :: 6 :: (rl 8 38 (rl 49 16 []))))
  A23v6))) (6 :: 9 :: 11 :: (rl 45 20 []))
 A23v7))
def A23v9 : AC := (.seq (.seq (.region 3 [o1 28 (ln 50 2 3),o1 29 (fa 50 4 0 0),o1 30 (lo 47 29),o1 31 (.indexAddr 47 41 2 (tm 30) (ic 0)),o1 32 (ln 41 2 31),o1 33 (cs 40 [28,32] [50,41]),o1 34 (bk .geq 3 33 0),mv 35 34,og 36 (ln 50 2 4) 35 false,og 37 (fa 50 3 0 0) 35 false,og 38 (lo 47 37) 35 false,og 39 (.indexAddr 47 41 2 (tm 38) (ic 0)) 35 false,og 40 (ln 41 2 39) 35 false,og 41 (cs 40 [36,40] [50,41]) 35 false,og 42 (bk .geq 3 41 0) 35 false,o1 43 (pa 35 42)] 0 (some [[],[],[1],[1,2],[1,2,3],(rl 0 5 []),(rl 0 6 []),(rl 0 7 []),(rl 0 8 []),(rl 0 8 []),(rl 0 8 [9]),(rl 0 8 [9,10]),(rl 0 8 [9,10,11]),(rl 0 13 []),(rl 0 14 []),(rl 0 15 [])])) []
 (.cond (tm 43)
 (.seq (.region 4 [o1 6 (sb false)] 0 none) []
  (.ret (rl 0 6 (rl 7 58 []))))
 .skip)) (6 :: (rl 28 16 []))
 A23v8)
def A23 : AF := ⟨65,[.tmp 6],
 (.seq (.region 0 [o1 3 (bx 0 50 0),o1 4 (bx 1 50 1),o1 5 (bx 2 3 2),o1 6 (sb false)] 3 none) []
 (.seq (.seq (.region 1 [o1 12 (lo 3 5),o1 13 (bk .lss 3 12 0),mv 14 13,og 15 (lo 3 5) 14 false,og 16 (bk .gtr 3 15 1000) 14 false,o1 17 (pa 14 16),mv 18 17,og 19 (ln 50 2 3) 18 false,og 20 (cs 24 [19] [50]) 18 false,og 21 (bk .neq 31 20 0) 18 false,o1 22 (pa 18 21),mv 23 22,og 24 (ln 50 2 4) 23 false,og 25 (cs 24 [24] [50]) 23 false,og 26 (bk .neq 31 25 0) 23 false,o1 27 (pa 23 26)] 0 none) []
 (.cond (tm 27)
 (.seq (.region 2 [o1 6 (sb false)] 0 none) []
  (.ret (rl 0 6 (rl 7 58 []))))
 .skip)) (6 :: (rl 12 16 []))
 A23v9))⟩
def N27v2 : St → Option St := nN 3 (rl 0 4 (5 :: 6 :: 8 :: (rl 10 36 (rl 49 4 (rl 56 9 [])))))
def s27v0 : St := ⟨(us 4 (.x (.ptr 1 0) :: .u :: .u :: .x (.fn 41 [.ptr 2 0]) :: .u :: .x (.c (ro kP n0 f0)) :: (us 36 (.x (.c (ro (.pr (.sl kP) .nil) n1 f1)) :: vxi i0 :: vxi i1 :: (us 4 (.x (.c (ro (.pr (.sl kP) .nil) n2 f2)) :: vxi i2 :: vxi i3 :: (us 9 []))))))),[.box [(.c (ro kP n3 f3)),(.c (ro (.pr (.sl kP) .nil) n4 f4))],.box [(.c (ro kP n5 f5)),(.c (ro (.pr (.sl kP) .nil) n6 f6))],.box [(vci i4)]]⟩
def s27v1 : St := ⟨(us 6 (vxb false :: (us 58 []))),[.box [(.c (ro kP n0 f0)),(.c (ro (.pr (.sl kP) .nil) n1 f1))],.box [(.c (ro kP n2 f2)),(.c (ro (.pr (.sl kP) .nil) n3 f3))],.box [(vci i0)]]⟩
def s27v2 : St := ⟨(us 4 (.x (.ptr 1 0) :: .u :: .u :: .x (.fn 41 [.ptr 2 0]) :: (us 38 (.x (.c (ro (.pr (.sl kP) .nil) n0 f0)) :: vxi i0 :: vxi i1 :: (us 16 []))))),[.box [(.c (ro kP n1 f1)),(.c (ro (.pr (.sl kP) .nil) n2 f2))],.box [(.c (ro kP n3 f3)),(.c (ro (.pr (.sl kP) .nil) n4 f4))],.box [(vci i2)]]⟩
def L27v2 {ρ : Type} (u : Nat) (x0 : Nat) (x1 : FF) (x2 : Nat) (x3 : FF) (x4 x5 : Int) (x6 : Nat) (x7 : FF) (x8 : Int) (x9 : Nat) (xA : FF) (xB : Nat) (xC : FF) (xD : Nat) (xE : FF) (xF : Nat) (xG : FF) (xH : Int) : Nat → Int → (Option ρ) → (Option ρ) → Option ρ
 | 0,_,_,_ => none
 | m + 1,xI,k0,k1 =>
  (bif (decide (xI < x8)) then (bif (inb xI x6) then (ob (F58b u x0 x1 (x7 xI.toNat 0).len (x7 xI.toNat 0).el (listF [(.i .i64 xH)])) fun xJ => (bif xJ then k0 else (L27v2 u x0 x1 x2 x3 x4 x5 x6 x7 x8 x9 xA xB xC xD xE xF xG xH m (w64 (xI + 1)) k0 k1))) else none) else k1)
theorem nl27v2 : ∀ (m : Nat) (x0 : Int) (k0 : Option ρ) (k1 : Option ρ),ob (L27v2 u n0 f0 n1 f1 i0 i1 n2 f2 i2 n3 f3 n4 f4 n5 f5 n6 f6 i3 m x0 k0 k1) ng = L27v2 u n0 f0 n1 f1 i0 i1 n2 f2 i2 n3 f3 n4 f4 n5 f5 n6 f6 i3 m x0 (ob k0 ng) (ob k1 ng)
 | 0,_,_,_ => rfl
 | m + 1,x0,k0,k1 => by
  simp only [L27v2,ob_bif,ob_ob,ob_none,nl27v2 m]
theorem r27v2 :
  loopH (eB A23v3 (C47 u) u) N27v2 (m + 1) (s27v0 n0 n1 n2 n3 n4 n5 n6 f0 f1 f2 f3 f4 f5 f6 i0 i1 i2 i4 i3) k =
  (bif (decide (i4 < i2)) then (bif (inb i4 n2) then (ob (F58b u n0 f0 (f2 i4.toNat 0).len (f2 i4.toNat 0).el (listF [(vi i3)])) fun x0 => (bif x0 then (k .ret (s27v1 n3 n4 n5 n6 f3 f4 f5 f6 i3)) else (loopH (eB A23v3 (C47 u) u) N27v2 m (s27v0 n0 n1 n2 n3 n4 n5 n6 f0 f1 f2 f3 f4 f5 f6 i0 i1 i2 (w64 (i4 + 1)) i3) k))) else none) else (k (.exit 2) (s27v2 n1 n3 n4 n5 n6 f1 f3 f4 f5 f6 i0 i1 i3))) := by kernel_rfl
theorem q27v2 : ∀ (m : Nat) (x0 : Int),
  loopH (eB A23v3 (C47 u) u) N27v2 m (s27v0 n0 n1 n2 n3 n4 n5 n6 f0 f1 f2 f3 f4 f5 f6 i0 i1 i2 x0 i3) k = L27v2 u n0 f0 n1 f1 i0 i1 n2 f2 i2 n3 f3 n4 f4 n5 f5 n6 f6 i3 m x0 (k .ret (s27v1 n3 n4 n5 n6 f3 f4 f5 f6 i3)) (k (.exit 2) (s27v2 n1 n3 n4 n5 n6 f1 f3 f4 f5 f6 i0 i1 i3))
 | 0,_ => rfl
 | m + 1,x0 => by
  rw [r27v2]
  simp only [L27v2,q27v2 m]
def N27v3 : St → Option St := nN 3 (rl 0 4 (5 :: 6 :: (rl 8 38 (rl 49 16 []))))
def s27v3 : St := ⟨(us 4 (.x (.ptr 1 0) :: .u :: .u :: .x (.fn 41 [.ptr 2 0]) :: (us 38 (.x (.c (ro (.pr (.sl kP) .nil) n0 f0)) :: vxi i0 :: vxi i1 :: (us 16 []))))),[.box [(.c (ro kP n1 f1)),(.c (ro (.pr (.sl kP) .nil) n2 f2))],.box [(.c (ro kP n3 f3)),(.c (ro (.pr (.sl kP) .nil) n4 f4))],.box [(vci i2)]]⟩
def s27v4 : St := ⟨(us 6 (vxb false :: (us 58 []))),[.box [(.c (ro kP n0 f0)),(.c (ro (.pr (.sl kP) .nil) n1 f1))],.box [(.c (ro kP n2 f2)),(.c (ro (.pr (.sl kP) .nil) n3 f3))],.box [(vci i0)]]⟩
def s27v5 : St := ⟨(us 65 []),[.box [(.c (ro kP n0 f0)),(.c (ro (.pr (.sl kP) .nil) n1 f1))],.box [(.c (ro kP n2 f2)),(.c (ro (.pr (.sl kP) .nil) n3 f3))],.box [(vci i0)]]⟩
def L27v3 {ρ : Type} (u : Nat) (x0 : Nat) (x1 : FF) (x2 : Int) (x3 : Nat) (x4 : FF) (x5 : Nat) (x6 : FF) (x7 : Nat) (x8 : FF) (x9 : Nat) (xA : FF) (xB : Int) : Nat → Int → (Option ρ) → (Option ρ) → Option ρ
 | 0,_,_,_ => none
 | m + 1,xC,k0,k1 =>
  (bif (decide (xC < x2)) then (bif (inb xC x0) then (ob (F42 u x7 x8 x9 xA) fun xD => (L27v2 u (x1 xC.toNat 0).len (x1 xC.toNat 0).el x0 x1 x2 xC xD.1 xD.2 (Int.ofNat xD.1) x3 x4 x5 x6 x7 x8 x9 xA xB u 0
  k0
  (L27v3 u x0 x1 x2 x3 x4 x5 x6 x7 x8 x9 xA xB m (w64 (xC + 1)) k0 k1))) else none) else k1)
theorem nl27v3 : ∀ (m : Nat) (x0 : Int) (k0 : Option ρ) (k1 : Option ρ),ob (L27v3 u n0 f0 i0 n1 f1 n2 f2 n3 f3 n4 f4 i1 m x0 k0 k1) ng = L27v3 u n0 f0 i0 n1 f1 n2 f2 n3 f3 n4 f4 i1 m x0 (ob k0 ng) (ob k1 ng)
 | 0,_,_,_ => rfl
 | m + 1,x0,k0,k1 => by
  simp only [L27v3,ob_bif,ob_ob,ob_none,nl27v3 m,nl27v2]
def s27v6 (x0 : Nat × FF) : St := ⟨(us 4 (.x (.ptr 1 0) :: .u :: .u :: .x (.fn 41 [.ptr 2 0]) :: .u :: .x (.c (ro kP (f0 i0.toNat 0).len (f0 i0.toNat 0).el)) :: (us 36 (.x (.c (ro (.pr (.sl kP) .nil) n0 f0)) :: vxi i1 :: vxi i0 :: vxb true :: .x (.c (.rp (.pr (.sl kP) .nil) (f0 i0.toNat))) :: .x (.c (ro kP (f0 i0.toNat 0).len (f0 i0.toNat 0).el)) :: .agg [(.c (ro kP n1 f1)),(.c (ro (.pr (.sl kP) .nil) n2 f2))] :: .x (.c (ro (.pr (.sl kP) .nil) x0.1 x0.2)) :: vxi (Int.ofNat x0.1) :: vxi 0 :: (us 9 []))))),[.box [(.c (ro kP n3 f3)),(.c (ro (.pr (.sl kP) .nil) n4 f4))],.box [(.c (ro kP n1 f1)),(.c (ro (.pr (.sl kP) .nil) n2 f2))],.box [(vci i2)]]⟩
theorem r27v3 :
  loopH (eB A23v6 (C47 u) u) N27v3 (m + 1) (s27v3 n0 n1 n2 n3 n4 f0 f1 f2 f3 f4 i0 i2 i1) k =
  (bif (decide (i2 < i0)) then (bif (inb i2 n0) then (ob (F42 u n3 f3 n4 f4) fun x0 => (loopN (eB A23v3 (C47 u) u) N27v2 u (s27v6 n0 n3 n4 n1 n2 f0 f3 f4 f1 f2 i2 i0 i1 x0) (kBlk 2 (kBlk 1 (kSeq (C47 u) u (6 :: 9 :: 11 :: (rl 50 14 [])) A23v4 (kLoop (eB A23v6 (C47 u) u) N27v3 m k)))))) else none) else (k (.exit 0) (s27v5 n1 n2 n3 n4 f1 f2 f3 f4 i1))) := by kernel_rfl
theorem t27v1 (x0 : Nat × FF) :
  loopN (eB A23v3 (C47 u) u) N27v2 u (s27v6 n0 n1 n2 n3 n4 f0 f1 f2 f3 f4 i0 i1 i2 x0) k =
  L27v2 u (f0 i0.toNat 0).len (f0 i0.toNat 0).el n0 f0 i1 i0 x0.1 x0.2 (Int.ofNat x0.1) n3 f3 n4 f4 n1 f1 n2 f2 i2 u 0 (k .ret (s27v1 n3 n4 n1 n2 f3 f4 f1 f2 i2)) (k (.exit 2) (s27v2 n0 n3 n4 n1 n2 f0 f3 f4 f1 f2 i1 i0 i2)) :=
 Eq.trans (loopN_at (by kernel_rfl)) (q27v2 ..)
theorem g27v2 :
  (kBlk 2 (kBlk 1 (kSeq (C47 u) u (6 :: 9 :: 11 :: (rl 50 14 [])) A23v4 (kLoop (eB A23v6 (C47 u) u) N27v3 m k)))) .ret (s27v1 n0 n1 n2 n3 f0 f1 f2 f3 i0) =
  (k .ret (s27v4 n0 n1 n2 n3 f0 f1 f2 f3 i0)) := by kernel_rfl
theorem g27v3 :
  (kBlk 2 (kBlk 1 (kSeq (C47 u) u (6 :: 9 :: 11 :: (rl 50 14 [])) A23v4 (kLoop (eB A23v6 (C47 u) u) N27v3 m k)))) (.exit 2) (s27v2 n0 n1 n2 n3 n4 f0 f1 f2 f3 f4 i0 i1 i2) =
  (loopH (eB A23v6 (C47 u) u) N27v3 m (s27v3 n0 n1 n2 n3 n4 f0 f1 f2 f3 f4 i0 (w64 (i1 + 1)) i2) k) := by kernel_rfl
theorem q27v3 : ∀ (m : Nat) (x0 : Int),
  loopH (eB A23v6 (C47 u) u) N27v3 m (s27v3 n0 n1 n2 n3 n4 f0 f1 f2 f3 f4 i0 x0 i1) k = L27v3 u n0 f0 i0 n1 f1 n2 f2 n3 f3 n4 f4 i1 m x0 (k .ret (s27v4 n1 n2 n3 n4 f1 f2 f3 f4 i1)) (k (.exit 0) (s27v5 n1 n2 n3 n4 f1 f2 f3 f4 i1))
 | 0,_ => rfl
 | m + 1,x0 => by
  rw [r27v3]
  simp only [L27v3,q27v3 m,t27v1,g27v2,g27v3]
def F27 (x0 : Nat) (x1 : FF) (x2 : Nat) (x3 : FF) (x4 : Nat) (x5 : FF) (x6 : Nat) (x7 : FF) (x8 : Int) : Option (Bool) :=
 (bif ((decide (x8 < 0)) == false) then (bif ((decide (x8 > 1000)) == false) then (ob (F13 u x0 x1 x2 x3) fun x9 => (bif ((x9 != 0) == false) then (ob (F13 u x4 x5 x6 x7) fun xA => (bif (xA != 0) then (some false) else (bif (inb 0 x4) then (ob (F47 u x0 x1 x2 x3 (x5 0 0).int (x5 0 1).int) fun xB => (bif ((decide (xB ≥ 0)) == false) then (bif (inb 0 x0) then (ob (F47 u x4 x5 x6 x7 (x1 0 0).int (x1 0 1).int) fun xC => (bif (decide (xC ≥ 0)) then (some false) else (ob (F42 u x0 x1 x2 x3) fun xD => (L27v3 u xD.1 xD.2 (Int.ofNat xD.1) x0 x1 x2 x3 x4 x5 x6 x7 x8 u 0
  (some false)
  (some true))))) else none) else (some false))) else none))) else (some false))) else (some false)) else (some false))
def s27v7 (x0 : Nat × FF) : St := ⟨(.agg [(.c (ro kP n0 f0)),(.c (ro (.pr (.sl kP) .nil) n1 f1))] :: .agg [(.c (ro kP n2 f2)),(.c (ro (.pr (.sl kP) .nil) n3 f3))] :: vxi i0 :: .x (.ptr 0 0) :: .x (.ptr 1 0) :: .x (.ptr 2 0) :: .u :: .x (.fn 41 [.ptr 2 0]) :: uu :: uu :: uu :: uu :: (us 32 [.x (.fn 41 [.ptr 2 0]),.agg [(.c (ro kP n0 f0)),(.c (ro (.pr (.sl kP) .nil) n1 f1))],.x (.c (ro (.pr (.sl kP) .nil) x0.1 x0.2)),vxi (Int.ofNat x0.1),vxi 0,uu,uu,uu,uu,uu,uu,uu,uu,uu,uu,uu,uu,uu,uu,uu,uu])),[.box [(.c (ro kP n0 f0)),(.c (ro (.pr (.sl kP) .nil) n1 f1))],.box [(.c (ro kP n2 f2)),(.c (ro (.pr (.sl kP) .nil) n3 f3))],.box [(vci i0)]]⟩
theorem t27v4 (x0 : Nat × FF) :
  loopN (eB A23v6 (C47 u) u) N27v3 u (s27v7 n0 n1 n2 n3 f0 f1 f2 f3 i0 x0) k =
  L27v3 u x0.1 x0.2 (Int.ofNat x0.1) n0 f0 n1 f1 n2 f2 n3 f3 i0 u 0 (k .ret (s27v4 n0 n1 n2 n3 f0 f1 f2 f3 i0)) (k (.exit 0) (s27v5 n0 n1 n2 n3 f0 f1 f2 f3 i0)) :=
 Eq.trans (loopN_at (by kernel_rfl)) (q27v3 ..)
theorem g27v5 :
  (kBlk 0 (kSeq (C47 u) u (6 :: 9 :: 11 :: (rl 45 20 [])) A23v7 (finish A23))) .ret (s27v4 n0 n1 n2 n3 f0 f1 f2 f3 i0) =
  (some [.v (.b false)]) := by kernel_rfl
theorem g27v6 :
  (kBlk 0 (kSeq (C47 u) u (6 :: 9 :: 11 :: (rl 45 20 [])) A23v7 (finish A23))) (.exit 0) (s27v5 n0 n1 n2 n3 f0 f1 f2 f3 i0) =
  (some [.v (.b true)]) := by kernel_rfl
theorem e27 : evalF (C47 u) u A23 [.agg [(ro kP n0 f0),(ro (.pr (.sl kP) .nil) n1 f1)],.agg [(ro kP n2 f2),(ro (.pr (.sl kP) .nil) n3 f3)],.v (vi i0)] = ob (F27 u n0 f0 n1 f1 n2 f2 n3 f3 i0) fun t => some [.v (.b t)] := Eq.trans (b := (bif ((decide (i0 < 0)) == false) then (bif ((decide (i0 > 1000)) == false) then (ob (F13 u n0 f0 n1 f1) fun x0 => (bif ((x0 != 0) == false) then (ob (F13 u n2 f2 n3 f3) fun x1 => (bif (x1 != 0) then (some [.v (.b false)]) else (bif (inb 0 n2) then (ob (F47 u n0 f0 n1 f1 (f2 0 0).int (f2 0 1).int) fun x2 => (bif ((decide (x2 ≥ 0)) == false) then (bif (inb 0 n0) then (ob (F47 u n2 f2 n3 f3 (f0 0 0).int (f0 0 1).int) fun x3 => (bif (decide (x3 ≥ 0)) then (some [.v (.b false)]) else (ob (F42 u n0 f0 n1 f1) fun x4 => (loopN (eB A23v6 (C47 u) u) N27v3 u (s27v7 n0 n1 n2 n3 f0 f1 f2 f3 i0 x4) (kBlk 0 (kSeq (C47 u) u (6 :: 9 :: 11 :: (rl 45 20 [])) A23v7 (finish A23))))))) else none) else (some [.v (.b false)]))) else none))) else (some [.v (.b false)]))) else (some [.v (.b false)])) else (some [.v (.b false)]))) (by kernel_rfl) (by
 simp only [F27,ob_bif,ob_ob,ob_none,ob_some,nl27v3,t27v4,g27v5,g27v6])
def O27 : Ora := mkO (qc (ag (tc (cL kP) (t1 (cL (.pr (.sl kP) .nil))))) (qc (ag (tc (cL kP) (t1 (cL (.pr (.sl kP) .nil))))) (q1 (av ci)))) (fun x => F27 u x.1.1.1 x.1.1.2 x.1.2.1 x.1.2.2 x.2.1.1.1 x.2.1.1.2 x.2.1.2.1 x.2.1.2.2 x.2.2) fun t => [.v (.b t)]
theorem d27 : DO (O27 u) (C47 u) 23 A23 := dO u (fun x => by exact e27 u x.1.1.1 x.1.2.1 x.2.1.1.1 x.2.1.2.1 x.1.1.2 x.1.2.2 x.2.1.1.2 x.2.1.2.2 x.2.2)
def C48 : Oracle := (C47 u).add 23 (fun _ => true) (O27 u)
def A11v1 : AC := (.region 19 [o1 67 (bk .add 3 58 1),mv 58 67] 0 none)
def A11v2 : AC := (.seq (.block 4
 (.seq (.region 16 [o1 60 (.indexAddr 22 43 5 (tm 56) (tm 58)),o1 61 (ln 43 5 60),o1 13 (.alloc 0 43 [vcs ByteArray.empty,vci 0,vci 0,vci 0,vcb false]),o0 (.store 43 5 (tm 13) (tm 61))] 1 none) []
  (.seq (.region 17 [o1 62 (fa 43 13 0 0),o1 63 (lo 9 62),o1 64 (fa 43 9 0 0),o1 65 (lo 9 64),o1 66 (bt .eql 9 63 65)] 0 none) []
  (.cond (tm 66)
  (.seq (.region 18 [o1 6 (sk 7)] 0 none) []
   (.ghost (rl 0 6 []) (.exit 1 (rl 0 6 (rl 7 120 [])))))
  .skip)))) (13 :: (rl 60 7 []))
 A11v1)
def A11v3 : AC := (.seq (.region 15 [o1 59 (bt .lss 3 58 57)] 0 none) []
 (.seq (.cond (tm 59)
 .skip
 (.exit 3 (0 :: 1 :: 5 :: 8 :: (rl 11 26 (rl 40 87 []))))) []
 A11v2))
def A11v4 : AC := (.region 36 [o1 120 (bk .add 3 110 1),mv 110 120] 0 none)
def A11v5 : AC := (.seq (.block 7
 (.seq (.region 33 [o1 112 (.indexAddr 34 50 2 (tm 108) (tm 110)),o1 113 (ln 50 2 112),o1 16 (.alloc 0 50 [vcn,vcn]),o0 (.store 50 2 (tm 16) (tm 113))] 1 none) []
  (.seq (.region 34 [o1 114 (ln 50 2 14),o1 115 (ln 50 2 16),o1 116 (fa 24 3 1 1),o1 117 (lo 3 116),o1 118 (cs 23 [114,115,117] [50,50,3]),o1 119 (.unOp .not 4 (tm 118))] 0 none) []
  (.cond (tm 119)
  (.seq (.region 35 [o1 6 (sk 19)] 0 none) []
   (.ghost (rl 0 7 []) (.exit 1 (rl 0 6 (rl 7 120 [])))))
  .skip)))) (16 :: (rl 112 8 []))
 A11v4)
def A11v6 : AC := (.seq (.region 32 [o1 111 (bt .lss 3 110 109)] 0 none) []
 (.seq (.cond (tm 111)
 .skip
 (.ghost [3,4] (.exit 6 (0 :: 1 :: 5 :: (rl 8 6 (rl 15 22 (rl 40 87 []))))))) []
 A11v5))
def A11v7 : AC := (.region 37 [mv 121 7,o1 122 (ln 50 2 14),o1 123 (.buildSlice 0 34 50 kF 1 [vcn,vcn] [(0,(tm 122))]),o1 124 (.append 1 34 50 kF 48 (tm 121) (tm 123)),o1 7 (sg 124)] 2 none)
def A11v8 : AC := (.seq (.seq (.region 31 [mv 108 7,o1 109 (.len 34 false (tm 108)),o1 110 (.move (ic 0))] 0 none) []
 (.block 6
 (.ghost [3,4] (.loop [] (0 :: 1 :: 5 :: (rl 8 6 (rl 15 22 (rl 40 68 (rl 111 16 [])))))
  A11v6)))) (16 :: (rl 108 13 []))
 A11v7)
def A11v9 : AC := (.seq (.region 20 [o1 68 (fa 56 10 6 6),o1 69 (ln 50 2 68),o1 70 (ln 43 5 9),o1 71 (cf 31 [69,70] [50,43]),o1 14 (.alloc 0 50 [vcn,vcn]),o0 (.store 50 2 (tm 14) (tm 71))] 1 none) []
 (.seq (.block 5
 (.seq (.region 21 [o1 73 (fa 56 10 2 2),o1 74 (lo 3 73),o1 75 (bk .neq 3 74 1),o1 72 (sg 75)] 0 none) []
  (.cond (tm 72)
  (.seq (.region 22 [o1 6 (sk 10)] 0 none) []
   (.ghost (rl 0 6 []) (.ret (rl 0 6 (rl 7 120 [])))))
  (.seq (.region 23 [o1 77 (fa 56 10 4 4),o1 78 (lo 9 77),o1 79 (fa 26 4 1 1),o1 80 (lo 9 79),o1 81 (bt .neq 9 78 80),mv 82 81,og 83 (fa 56 10 5 5) 82 false,og 84 (lo 3 83) 82 false,og 85 (fa 26 4 2 2) 82 false,og 86 (lo 3 85) 82 false,og 87 (bt .neq 3 84 86) 82 false,o1 88 (pa 82 87),o1 76 (sg 88)] 0 none) []
   (.cond (tm 76)
   (.seq (.region 24 [o1 6 (sk 23)] 0 none) []
    (.ghost (rl 0 6 []) (.ret (rl 0 6 (rl 7 120 [])))))
   (.seq (.region 25 [o1 90 (fa 56 10 6 6),o1 91 (ln 50 2 90),o1 92 (cs 24 [91] [50]),o1 93 (bk .neq 31 92 0),o1 89 (sg 93)] 0 none) []
    (.cond (tm 89)
    (.seq (.region 26 [o1 6 (sk 17)] 0 none) []
     (.ghost (rl 0 6 []) (.ret (rl 0 6 (rl 7 120 [])))))
    (.seq (.region 27 [o1 95 (ln 43 5 9),o1 96 (cs 32 [95] [43]),o1 97 (.unOp .not 4 (tm 96)),o1 94 (sg 97)] 0 none) []
     (.cond (tm 94)
     (.seq (.region 28 [o1 6 (sk 9)] 0 none) []
      (.ghost (rl 0 6 []) (.ret (rl 0 6 (rl 7 120 [])))))
     (.seq (.region 29 [o1 99 (ln 50 2 14),o1 100 (fa 26 4 3 3),o1 101 (lo 3 100),o1 102 (fa 26 4 4 4),o1 103 (lo 3 102),o1 104 (fa 24 3 1 1),o1 105 (lo 3 104),o1 106 (cs 25 [99,101,103,105] [50,3,3,3]),o1 107 (.unOp .not 4 (tm 106)),o1 98 (sg 107)] 0 none) []
      (.cond (tm 98)
      (.seq (.region 30 [o1 6 (sk 18)] 0 none) []
       (.ghost (rl 0 6 []) (.ret (rl 0 6 (rl 7 120 [])))))
      .skip))))))))))) (rl 72 36 [])
 A11v8))
def A11v10 : AC := (.seq (.seq (.region 14 [o1 53 (fa 24 3 2 2),o1 54 (lo 22 53),mv 55 8,o1 56 (.slice 22 43 5 (tm 54) none (some (tm 55)) none),o1 57 (.len 22 false (tm 56)),o1 58 (.move (ic 0))] 0 none) []
 (.block 3
 (.loop [] (0 :: 1 :: 5 :: 8 :: (rl 11 26 (rl 40 16 (rl 59 68 []))))
  A11v3))) (13 :: (rl 53 15 []))
 A11v9)
def A11v11 : AC := (.region 38 [o1 125 (bk .add 3 39 1),mv 39 125] 0 none)
def A11v12 : AC := (.seq (.block 2
 (.seq (.region 10 [mv 41 39,o1 42 (.indexAddr 22 43 5 (tm 37) (tm 39)),o1 43 (ln 43 5 42),o1 9 (.alloc 0 43 [vcs ByteArray.empty,vci 0,vci 0,vci 0,vcb false]),o1 8 (sg 41),o0 (.store 43 5 (tm 9) (tm 43))] 1 none) []
  (.seq (.region 11 [mv 45 2,o1 46 (fa 43 9 0 0),o1 47 (lo 9 46),o1 48 (cf 30 [45,47] [27,9]),mv 44 48,o1 49 (.extract (tm 44) 0),o1 50 (.extract (tm 44) 1),o1 10 (.alloc 0 56 [vcs ByteArray.empty,vci 0,vci 0,vcs ByteArray.empty,vcs ByteArray.empty,vci 0,vcn,vcn,vcs ByteArray.empty,vci 0,vci 0,vci 0,vci 0,vci 0,vci 0,vci 0,vci 0,vci 0]),o0 (.store 56 18 (tm 10) (tm 49)),o1 11 (sg 50)] 1 none) []
  (.seq (.seq (.region 12 [mv 51 11,o1 52 (.unOp .not 4 (tm 51))] 0 none) []
  (.cond (tm 52)
  (.seq (.region 13 [o1 6 (sk 8)] 0 none) []
   (.ghost (rl 0 5 []) (.ret (rl 0 6 (rl 7 120 [])))))
  .skip)) [51,52]
  A11v10)))) (rl 8 4 (13 :: 14 :: 16 :: (rl 41 84 [])))
 A11v11)
def A11v13 : AC := (.seq (.region 9 [o1 40 (bt .lss 3 39 38)] 0 none) []
 (.seq (.cond (tm 40)
 .skip
 (.ghost [0,1,2] (.exit 1 (rl 0 6 (rl 7 120 []))))) []
 A11v12))
def A11v14 : AC := (.seq (.region 39 [mv 126 6,o1 6 (sg 126)] 0 none) []
 (.ghost (rl 0 7 []) (.ret (rl 0 6 (rl 7 120 [])))))
def A11v15 : AC := (.seq (.region 7 [o1 7 (.assign (.const (.slice none 0 0)))] 0 none) []
 (.seq (.label 0) []
 (.seq (.seq (.region 8 [o1 36 (fa 24 3 2 2),o1 37 (lo 22 36),o1 38 (.len 22 false (tm 37)),o1 39 (.move (ic 0))] 0 none) []
 (.block 1
 (.loop [.slot 7 kF] (0 :: 1 :: 5 :: (rl 8 29 (rl 40 87 [])))
  A11v13))) (rl 7 5 (13 :: 14 :: 16 :: (rl 36 90 [])))
 A11v14)))
def A11 : AF := ⟨127,[.tmp 6],
 (.seq (.region 0 [o1 3 (bx 0 24 0),o1 4 (bx 1 26 1),o1 6 (sk 0)] 2 none) []
 (.scope
 (.seq (.block 0
  (.seq (.region 1 [o1 18 (fa 24 3 1 1),o1 19 (lo 3 18),o1 20 (bk .lss 3 19 0),mv 21 20,og 22 (fa 24 3 1 1) 21 false,og 23 (lo 3 22) 21 false,og 24 (bk .gtr 3 23 500) 21 false,o1 25 (pa 21 24),o1 17 (sg 25)] 0 none) []
   (.cond (tm 17)
   (.seq (.region 2 [o1 6 (sk 9)] 0 none) []
    (.ghost [0,1] (.ret (rl 0 6 (rl 7 120 [])))))
   (.seq (.region 3 [o1 27 (fa 24 3 2 2),o1 28 (lo 22 27),o1 29 (.len 22 false (tm 28)),o1 30 (bk .eql 3 29 0),o1 26 (sg 30)] 0 none) []
    (.cond (tm 26)
    (.seq (.region 4 [o1 6 (sk 3)] 0 none) []
     (.ghost [0,1] (.ret (rl 0 6 (rl 7 120 [])))))
    (.seq (.region 5 [o1 32 (fa 24 3 2 2),o1 33 (lo 22 32),o1 34 (.len 22 false (tm 33)),o1 35 (bk .gtr 3 34 32),o1 31 (sg 35)] 0 none) []
     (.cond (tm 31)
     (.seq (.region 6 [o1 6 (sk 4)] 0 none) []
      (.ghost [0,1] (.ret (rl 0 6 (rl 7 120 [])))))
     .skip))))))) (rl 17 19 [])
  A11v15)))⟩
def N182v3 : St → Option St := nN 5 (0 :: 1 :: 5 :: 8 :: (rl 11 26 (rl 40 16 (rl 59 68 []))))
def s182v0 : St := ⟨(.u :: .u :: .x (.c (ro kA n0 f0)) :: .x (.ptr 0 0) :: .x (.ptr 1 0) :: .u :: vxi 0 :: .x (.own 2 0 n1) :: .u :: .x (.ptr 3 0) :: .x (.ptr 4 0) :: (us 26 (.x (.c (ro kE n2 f1)) :: vxi i0 :: vxi i1 :: (us 16 (.x (.c (ro kE n3 f1)) :: vxi i2 :: vxi i3 :: (us 68 [])))))),[.box [(vcs w0),(vci i4),(.c (ro kE n2 f1))],.box [(vcs w1),(vcs w2),(vci i5),(vci i6),(vci i7),(vcs w3)],.arr kF n1 f2,.box [(vcs w4),(vci i8),(vci i9),(vci iA),(vcb b0)],.box [(vcs w5),(vci iB),(vci iC),(vcs w6),(vcs w7),(vci iD),(.c (ro kP n4 f3)),(.c (ro (.pr (.sl kP) .nil) n5 f4)),(vcs w8),(vci iE),(vci iF),(vci iG),(vci iH),(vci iI),(vci iJ),(vci iK),(vci iL),(vci iM)]]⟩
def s182v1 : St := ⟨(us 6 (vxi 7 :: (us 120 []))),[.dead,.dead,.dead,.dead,.dead,.dead]⟩
def s182v2 : St := ⟨(.u :: .u :: .x (.c (ro kA n0 f0)) :: .x (.ptr 0 0) :: .x (.ptr 1 0) :: .u :: vxi 0 :: .x (.own 2 0 n1) :: .u :: .x (.ptr 3 0) :: .x (.ptr 4 0) :: (us 26 (.x (.c (ro kE n2 f1)) :: vxi i0 :: vxi i1 :: (us 87 [])))),[.box [(vcs w0),(vci i2),(.c (ro kE n2 f1))],.box [(vcs w1),(vcs w2),(vci i3),(vci i4),(vci i5),(vcs w3)],.arr kF n1 f2,.box [(vcs w4),(vci i6),(vci i7),(vci i8),(vcb b0)],.box [(vcs w5),(vci i9),(vci iA),(vcs w6),(vcs w7),(vci iB),(.c (ro kP n3 f3)),(.c (ro (.pr (.sl kP) .nil) n4 f4)),(vcs w8),(vci iC),(vci iD),(vci iE),(vci iF),(vci iG),(vci iH),(vci iI),(vci iJ),(vci iK)]]⟩
def L182v3 {ρ : Type} (u : Nat) (x0 : Nat) (x1 : FF) (x2 x3 : Nat) (x4 : FF) (x5 x6 : Int) (x7 : Nat) (x8 : Int) (x9 : ByteArray) (xA : Int) (xB xC : ByteArray) (xD xE xF : Int) (xG : ByteArray) (xH : FF) (xI : ByteArray) (xJ xK xL : Int) (xM : Bool) (xN : ByteArray) (xO xP : Int) (xQ xR : ByteArray) (xS : Int) (xT : Nat) (xU : FF) (xV : Nat) (xW : FF) (xX : ByteArray) (xY xZ xa xb xc xd xe xf xg : Int) : Nat → Int → (Option ρ) → (Option ρ) → Option ρ
 | 0,_,_,_ => none
 | m + 1,xh,k0,k1 =>
  (bif (decide (xh < x8)) then (bif (inb xh x7) then (bif (ByteArray.toList (x4 xh.toNat 0).str == ByteArray.toList xI) then k0 else (L182v3 u x0 x1 x2 x3 x4 x5 x6 x7 x8 x9 xA xB xC xD xE xF xG xH xI xJ xK xL xM xN xO xP xQ xR xS xT xU xV xW xX xY xZ xa xb xc xd xe xf xg m (w64 (xh + 1)) k0 k1)) else none) else k1)
theorem nl182v3 : ∀ (m : Nat) (x0 : Int) (k0 : Option ρ) (k1 : Option ρ),ob (L182v3 u n0 f0 n1 n2 f1 i0 i1 n3 i2 w0 i3 w1 w2 i4 i5 i6 w3 f2 w4 i7 i8 i9 b0 w5 iA iB w6 w7 iC n4 f3 n5 f4 w8 iD iE iF iG iH iI iJ iK iL m x0 k0 k1) ng = L182v3 u n0 f0 n1 n2 f1 i0 i1 n3 i2 w0 i3 w1 w2 i4 i5 i6 w3 f2 w4 i7 i8 i9 b0 w5 iA iB w6 w7 iC n4 f3 n5 f4 w8 iD iE iF iG iH iI iJ iK iL m x0 (ob k0 ng) (ob k1 ng)
 | 0,_,_,_ => rfl
 | m + 1,x0,k0,k1 => by
  simp only [L182v3,ob_bif,ob_ob,ob_none,nl182v3 m]
theorem r182v3 :
  loopH (eB A11v3 (C48 u) u) N182v3 (m + 1) (s182v0 n0 n1 n2 n3 n4 n5 f0 f1 f2 f3 f4 i0 i1 i2 iM i3 i4 i5 i6 i7 i8 i9 iA iB iC iD iE iF iG iH iI iJ iK iL b0 w0 w1 w2 w3 w4 w5 w6 w7 w8) k =
  (bif (decide (iM < i2)) then (bif (inb iM n3) then (bif (ByteArray.toList (f1 iM.toNat 0).str == ByteArray.toList w4) then (k (.exit 1) s182v1) else (loopH (eB A11v3 (C48 u) u) N182v3 m (s182v0 n0 n1 n2 n3 n4 n5 f0 f1 f2 f3 f4 i0 i1 i2 (w64 (iM + 1)) i3 i4 i5 i6 i7 i8 i9 iA iB iC iD iE iF iG iH iI iJ iK iL b0 w0 w1 w2 w3 w4 w5 w6 w7 w8) k)) else none) else (k (.exit 3) (s182v2 n0 n1 n2 n4 n5 f0 f1 f2 f3 f4 i0 i1 i3 i4 i5 i6 i7 i8 i9 iA iB iC iD iE iF iG iH iI iJ iK iL b0 w0 w1 w2 w3 w4 w5 w6 w7 w8))) := by kernel_rfl
theorem q182v3 : ∀ (m : Nat) (x0 : Int),
  loopH (eB A11v3 (C48 u) u) N182v3 m (s182v0 n0 n1 n2 n3 n4 n5 f0 f1 f2 f3 f4 i0 i1 i2 x0 i3 i4 i5 i6 i7 i8 i9 iA iB iC iD iE iF iG iH iI iJ iK iL b0 w0 w1 w2 w3 w4 w5 w6 w7 w8) k = L182v3 u n0 f0 n1 n2 f1 i0 i1 n3 i2 w0 i3 w1 w2 i4 i5 i6 w3 f2 w4 i7 i8 i9 b0 w5 iA iB w6 w7 iC n4 f3 n5 f4 w8 iD iE iF iG iH iI iJ iK iL m x0 (k (.exit 1) s182v1) (k (.exit 3) (s182v2 n0 n1 n2 n4 n5 f0 f1 f2 f3 f4 i0 i1 i3 i4 i5 i6 i7 i8 i9 iA iB iC iD iE iF iG iH iI iJ iK iL b0 w0 w1 w2 w3 w4 w5 w6 w7 w8))
 | 0,_ => rfl
 | m + 1,x0 => by
  rw [r182v3]
  simp only [L182v3,q182v3 m]
def N182v4 : St → Option St := nN 6 (0 :: 1 :: 5 :: (rl 8 6 (rl 15 22 (rl 40 68 (rl 111 16 [])))))
def s182v3 : St := ⟨(.u :: .u :: .x (.c (ro kA n0 f0)) :: .x (.ptr 0 0) :: .x (.ptr 1 0) :: .u :: vxi 0 :: .x (.own 2 0 n1) :: (us 6 (.x (.ptr 5 0) :: (us 22 (.x (.c (ro kE n2 f1)) :: vxi i0 :: vxi i1 :: (us 68 (.x (.own 2 0 n1) :: vxi i2 :: vxi i3 :: (us 16 [])))))))),[.box [(vcs w0),(vci i4),(.c (ro kE n2 f1))],.box [(vcs w1),(vcs w2),(vci i5),(vci i6),(vci i7),(vcs w3)],.arr kF n1 f2,.dead,.dead,.box [(.c (ro kP n3 f3)),(.c (ro (.pr (.sl kP) .nil) n4 f4))]]⟩
def s182v4 : St := ⟨(us 6 (vxi 19 :: (us 120 []))),[.dead,.dead,.dead,.dead,.dead,.dead,.dead]⟩
def s182v5 : St := ⟨(.u :: .u :: .x (.c (ro kA n0 f0)) :: .x (.ptr 0 0) :: .x (.ptr 1 0) :: .u :: vxi 0 :: .x (.own 2 0 n1) :: (us 6 (.x (.ptr 5 0) :: (us 22 (.x (.c (ro kE n2 f1)) :: vxi i0 :: vxi i1 :: (us 87 [])))))),[.box [(vcs w0),(vci i2),(.c (ro kE n2 f1))],.box [(vcs w1),(vcs w2),(vci i3),(vci i4),(vci i5),(vcs w3)],.arr kF n1 f2,.dead,.dead,.box [(.c (ro kP n3 f3)),(.c (ro (.pr (.sl kP) .nil) n4 f4))]]⟩
def L182v4 {ρ : Type} (u : Nat) (x0 : Nat) (x1 : FF) (x2 x3 : Nat) (x4 : FF) (x5 x6 x7 : Int) (x8 : ByteArray) (x9 : Int) (xA xB : ByteArray) (xC xD xE : Int) (xF : ByteArray) (xG : FF) (xH : Nat) (xI : FF) (xJ : Nat) (xK : FF) : Nat → Int → (Option ρ) → (Option ρ) → Option ρ
 | 0,_,_,_ => none
 | m + 1,xL,k0,k1 =>
  (bif (decide (xL < x7)) then (bif (inb xL x2) then (ob (F27 u xH xI xJ xK (xG (0 + xL.toNat) 0).len (xG (0 + xL.toNat) 0).el (xG (0 + xL.toNat) 1).len (xG (0 + xL.toNat) 1).el x9) fun xM => (bif (!xM) then k0 else (L182v4 u x0 x1 x2 x3 x4 x5 x6 x7 x8 x9 xA xB xC xD xE xF xG xH xI xJ xK m (w64 (xL + 1)) k0 k1))) else none) else k1)
theorem nl182v4 : ∀ (m : Nat) (x0 : Int) (k0 : Option ρ) (k1 : Option ρ),ob (L182v4 u n0 f0 n1 n2 f1 i0 i1 i2 w0 i3 w1 w2 i4 i5 i6 w3 f2 n3 f3 n4 f4 m x0 k0 k1) ng = L182v4 u n0 f0 n1 n2 f1 i0 i1 i2 w0 i3 w1 w2 i4 i5 i6 w3 f2 n3 f3 n4 f4 m x0 (ob k0 ng) (ob k1 ng)
 | 0,_,_,_ => rfl
 | m + 1,x0,k0,k1 => by
  simp only [L182v4,ob_bif,ob_ob,ob_none,nl182v4 m]
theorem r182v4 :
  loopH (eB A11v6 (C48 u) u) N182v4 (m + 1) (s182v3 n0 n1 n2 n3 n4 f0 f1 f2 f3 f4 i0 i1 i2 i7 i3 i4 i5 i6 w0 w1 w2 w3) k =
  (bif (decide (i7 < i2)) then (bif (inb i7 n1) then (ob (F27 u n3 f3 n4 f4 (f2 (0 + i7.toNat) 0).len (f2 (0 + i7.toNat) 0).el (f2 (0 + i7.toNat) 1).len (f2 (0 + i7.toNat) 1).el i3) fun x0 => (bif (!x0) then (k (.exit 1) s182v4) else (loopH (eB A11v6 (C48 u) u) N182v4 m (s182v3 n0 n1 n2 n3 n4 f0 f1 f2 f3 f4 i0 i1 i2 (w64 (i7 + 1)) i3 i4 i5 i6 w0 w1 w2 w3) k))) else none) else (k (.exit 6) (s182v5 n0 n1 n2 n3 n4 f0 f1 f2 f3 f4 i0 i1 i3 i4 i5 i6 w0 w1 w2 w3))) := by kernel_rfl
theorem q182v4 : ∀ (m : Nat) (x0 : Int),
  loopH (eB A11v6 (C48 u) u) N182v4 m (s182v3 n0 n1 n2 n3 n4 f0 f1 f2 f3 f4 i0 i1 i2 x0 i3 i4 i5 i6 w0 w1 w2 w3) k = L182v4 u n0 f0 n1 n2 f1 i0 i1 i2 w0 i3 w1 w2 i4 i5 i6 w3 f2 n3 f3 n4 f4 m x0 (k (.exit 1) s182v4) (k (.exit 6) (s182v5 n0 n1 n2 n3 n4 f0 f1 f2 f3 f4 i0 i1 i3 i4 i5 i6 w0 w1 w2 w3))
 | 0,_ => rfl
 | m + 1,x0 => by
  rw [r182v4]
  simp only [L182v4,q182v4 m]
def N182v5 : St → Option St := nN 3 (0 :: 1 :: 5 :: (rl 8 29 (rl 40 87 [])))
def s182v6 : St := ⟨(.u :: .u :: .x (.c (ro kA n0 f0)) :: .x (.ptr 0 0) :: .x (.ptr 1 0) :: .u :: vxi 0 :: .x (.own 2 0 n1) :: (us 29 (.x (.c (ro kE n2 f1)) :: vxi i0 :: vxi i1 :: (us 87 [])))),[.box [(vcs w0),(vci i2),(.c (ro kE n2 f1))],.box [(vcs w1),(vcs w2),(vci i3),(vci i4),(vci i5),(vcs w3)],.arr kF n1 f2]⟩
def s182v7 : St := ⟨(us 6 (vxi 8 :: (us 120 []))),[.dead,.dead,.dead,.dead,.dead]⟩
def s182v8 : St := ⟨(us 6 (vxi i0 :: (us 120 []))),[.dead,.dead,.dead,.dead,.dead,.dead]⟩
def s182v9 : St := ⟨(us 6 (vxi 0 :: (us 120 []))),[.dead,.dead,.dead]⟩
def L182v5 {ρ : Type} (u : Nat) (x0 : Nat) (x1 : FF) (x2 : Nat) (x3 : FF) (x4 : Int) (x5 : ByteArray) (x6 : Int) (x7 x8 : ByteArray) (x9 xA xB : Int) (xC : ByteArray) : Nat → Nat → Int → FF → (Option ρ) → (Option ρ) → (Int → Option ρ) → (Option ρ) → (Option ρ) → Option ρ
 | 0,_,_,_,_,_,_,_,_ => none
 | m + 1,xD,xE,xF,k0,k1,k2,k3,k4 =>
  (bif (decide (xE < x4)) then (bif (inb xE x2) then (ob (F172 u x0 x1 (x3 xE.toNat 0).str) fun xG => (bif (!xG.2.2.2.2.2.2.2.2.2.2.2.2.2.2.2.2.2.2.2.2) then k0 else (bif (inbe xE x2) then (L182v3 u x0 x1 xD x2 x3 x4 xE (xE.toNat - 0) (Int.ofNat (xE.toNat - 0)) x5 x6 x7 x8 x9 xA xB xC xF (x3 xE.toNat 0).str (x3 xE.toNat 1).int (x3 xE.toNat 2).int (x3 xE.toNat 3).int (x3 xE.toNat 4).bool xG.1 xG.2.1 xG.2.2.1 xG.2.2.2.1 xG.2.2.2.2.1 xG.2.2.2.2.2.1 xG.2.2.2.2.2.2.1 xG.2.2.2.2.2.2.2.1 xG.2.2.2.2.2.2.2.2.1 xG.2.2.2.2.2.2.2.2.2.1 xG.2.2.2.2.2.2.2.2.2.2.1 xG.2.2.2.2.2.2.2.2.2.2.2.1 xG.2.2.2.2.2.2.2.2.2.2.2.2.1 xG.2.2.2.2.2.2.2.2.2.2.2.2.2.1 xG.2.2.2.2.2.2.2.2.2.2.2.2.2.2.1 xG.2.2.2.2.2.2.2.2.2.2.2.2.2.2.2.1 xG.2.2.2.2.2.2.2.2.2.2.2.2.2.2.2.2.1 xG.2.2.2.2.2.2.2.2.2.2.2.2.2.2.2.2.2.1 xG.2.2.2.2.2.2.2.2.2.2.2.2.2.2.2.2.2.2.1 xG.2.2.2.2.2.2.2.2.2.2.2.2.2.2.2.2.2.2.2.1 u 0
  k1
  (ob (F25 u xG.2.2.2.2.2.2.1 xG.2.2.2.2.2.2.2.1 xG.2.2.2.2.2.2.2.2.1 xG.2.2.2.2.2.2.2.2.2.1 (x3 xE.toNat 0).str (x3 xE.toNat 1).int (x3 xE.toNat 2).int (x3 xE.toNat 3).int (x3 xE.toNat 4).bool) fun xH => (bif (xG.2.2.1 != 1) then (k2 10) else (bif ((!(ByteArray.toList xG.2.2.2.2.1 == ByteArray.toList x8)) == false) then (bif (xG.2.2.2.2.2.1 != x9) then (k2 23) else (ob (F13 u xG.2.2.2.2.2.2.1 xG.2.2.2.2.2.2.2.1 xG.2.2.2.2.2.2.2.2.1 xG.2.2.2.2.2.2.2.2.2.1) fun xI => (bif (xI != 0) then (k2 17) else (ob (F174 u (x3 xE.toNat 0).str (x3 xE.toNat 1).int (x3 xE.toNat 2).int (x3 xE.toNat 3).int (x3 xE.toNat 4).bool) fun xJ => (bif (!xJ) then (k2 9) else (ob (F29 u xH.1 xH.2.1 xH.2.2.1 xH.2.2.2 xA xB x6) fun xK => (bif (!xK) then (k2 18) else (L182v4 u x0 x1 xD x2 x3 x4 xE (Int.ofNat xD) x5 x6 x7 x8 x9 xA xB xC xF xH.1 xH.2.1 xH.2.2.1 xH.2.2.2 u 0
  k3
  (bif (Nat.ble (xD + 1) 1073741824) then (L182v5 u x0 x1 x2 x3 x4 x5 x6 x7 x8 x9 xA xB xC m (xD + 1) (w64 (xE + 1)) (joinF xD xF (rowsF 2 [(.ro false (.pr (.int .i64) (.pr (.int .i64) .nil)) xH.1 xH.2.1),(.ro false (.pr (.sl (.pr (.int .i64) (.pr (.int .i64) .nil))) .nil) xH.2.2.1 xH.2.2.2)])) k0 k1 k2 k3 k4) else none))))))))) else (k2 23))))) else none))) else none) else k4)
theorem nl182v5 : ∀ (m : Nat) (x0 : Nat) (x1 : Int) (x2 : FF) (k0 : Option ρ) (k1 : Option ρ) (k2 : Int → Option ρ) (k3 : Option ρ) (k4 : Option ρ),ob (L182v5 u n0 f0 n1 f1 i0 w0 i1 w1 w2 i2 i3 i4 w3 m x0 x1 x2 k0 k1 k2 k3 k4) ng = L182v5 u n0 f0 n1 f1 i0 w0 i1 w1 w2 i2 i3 i4 w3 m x0 x1 x2 (ob k0 ng) (ob k1 ng) (fun x3 => ob (k2 x3) ng) (ob k3 ng) (ob k4 ng)
 | 0,_,_,_,_,_,_,_,_ => rfl
 | m + 1,x0,x1,x2,k0,k1,k2,k3,k4 => by
  simp only [L182v5,ob_bif,ob_ob,ob_none,nl182v5 m,nl182v3,nl182v4]
def s182v10 (x0 : ByteArray × Int × Int × ByteArray × ByteArray × Int × Nat × FF × Nat × FF × ByteArray × Int × Int × Int × Int × Int × Int × Int × Int × Int × Bool) : St := ⟨(.u :: .u :: .x (.c (ro kA n0 f0)) :: .x (.ptr 0 0) :: .x (.ptr 1 0) :: .u :: vxi 0 :: .x (.own 2 0 n1) :: vxi i0 :: .x (.ptr 3 0) :: .x (.ptr 4 0) :: vxb x0.2.2.2.2.2.2.2.2.2.2.2.2.2.2.2.2.2.2.2.2 :: (us 25 (.x (.c (ro kE n2 f1)) :: vxi i1 :: vxi i0 :: vxb true :: vxi i0 :: .x (.c (.rp kE (f1 i0.toNat))) :: .agg [(vcs (f1 i0.toNat 0).str),(vci (f1 i0.toNat 1).int),(vci (f1 i0.toNat 2).int),(vci (f1 i0.toNat 3).int),(vcb (f1 i0.toNat 4).bool)] :: .tup [.agg [(.s x0.1),(vi x0.2.1),(vi x0.2.2.1),(.s x0.2.2.2.1),(.s x0.2.2.2.2.1),(vi x0.2.2.2.2.2.1),(ro kP x0.2.2.2.2.2.2.1 x0.2.2.2.2.2.2.2.1),(ro (.pr (.sl kP) .nil) x0.2.2.2.2.2.2.2.2.1 x0.2.2.2.2.2.2.2.2.2.1),(.s x0.2.2.2.2.2.2.2.2.2.2.1),(vi x0.2.2.2.2.2.2.2.2.2.2.2.1),(vi x0.2.2.2.2.2.2.2.2.2.2.2.2.1),(vi x0.2.2.2.2.2.2.2.2.2.2.2.2.2.1),(vi x0.2.2.2.2.2.2.2.2.2.2.2.2.2.2.1),(vi x0.2.2.2.2.2.2.2.2.2.2.2.2.2.2.2.1),(vi x0.2.2.2.2.2.2.2.2.2.2.2.2.2.2.2.2.1),(vi x0.2.2.2.2.2.2.2.2.2.2.2.2.2.2.2.2.2.1),(vi x0.2.2.2.2.2.2.2.2.2.2.2.2.2.2.2.2.2.2.1),(vi x0.2.2.2.2.2.2.2.2.2.2.2.2.2.2.2.2.2.2.2.1)],.v (.b x0.2.2.2.2.2.2.2.2.2.2.2.2.2.2.2.2.2.2.2.2)] :: .x (.c (ro kA n0 f0)) :: .x (.ptr 3 0) :: vxs (f1 i0.toNat 0).str :: .tup [.agg [(.s x0.1),(vi x0.2.1),(vi x0.2.2.1),(.s x0.2.2.2.1),(.s x0.2.2.2.2.1),(vi x0.2.2.2.2.2.1),(ro kP x0.2.2.2.2.2.2.1 x0.2.2.2.2.2.2.2.1),(ro (.pr (.sl kP) .nil) x0.2.2.2.2.2.2.2.2.1 x0.2.2.2.2.2.2.2.2.2.1),(.s x0.2.2.2.2.2.2.2.2.2.2.1),(vi x0.2.2.2.2.2.2.2.2.2.2.2.1),(vi x0.2.2.2.2.2.2.2.2.2.2.2.2.1),(vi x0.2.2.2.2.2.2.2.2.2.2.2.2.2.1),(vi x0.2.2.2.2.2.2.2.2.2.2.2.2.2.2.1),(vi x0.2.2.2.2.2.2.2.2.2.2.2.2.2.2.2.1),(vi x0.2.2.2.2.2.2.2.2.2.2.2.2.2.2.2.2.1),(vi x0.2.2.2.2.2.2.2.2.2.2.2.2.2.2.2.2.2.1),(vi x0.2.2.2.2.2.2.2.2.2.2.2.2.2.2.2.2.2.2.1),(vi x0.2.2.2.2.2.2.2.2.2.2.2.2.2.2.2.2.2.2.2.1)],.v (.b x0.2.2.2.2.2.2.2.2.2.2.2.2.2.2.2.2.2.2.2.2)] :: .agg [(vcs x0.1),(vci x0.2.1),(vci x0.2.2.1),(vcs x0.2.2.2.1),(vcs x0.2.2.2.2.1),(vci x0.2.2.2.2.2.1),(.c (ro kP x0.2.2.2.2.2.2.1 x0.2.2.2.2.2.2.2.1)),(.c (ro (.pr (.sl kP) .nil) x0.2.2.2.2.2.2.2.2.1 x0.2.2.2.2.2.2.2.2.2.1)),(vcs x0.2.2.2.2.2.2.2.2.2.2.1),(vci x0.2.2.2.2.2.2.2.2.2.2.2.1),(vci x0.2.2.2.2.2.2.2.2.2.2.2.2.1),(vci x0.2.2.2.2.2.2.2.2.2.2.2.2.2.1),(vci x0.2.2.2.2.2.2.2.2.2.2.2.2.2.2.1),(vci x0.2.2.2.2.2.2.2.2.2.2.2.2.2.2.2.1),(vci x0.2.2.2.2.2.2.2.2.2.2.2.2.2.2.2.2.1),(vci x0.2.2.2.2.2.2.2.2.2.2.2.2.2.2.2.2.2.1),(vci x0.2.2.2.2.2.2.2.2.2.2.2.2.2.2.2.2.2.2.1),(vci x0.2.2.2.2.2.2.2.2.2.2.2.2.2.2.2.2.2.2.2.1)] :: vxb x0.2.2.2.2.2.2.2.2.2.2.2.2.2.2.2.2.2.2.2.2 :: .u :: .u :: .x (.ptr 0 2) :: .x (.c (ro kE n2 f1)) :: vxi i0 :: .x (.c (ro kE (i0.toNat - 0) f1)) :: vxi (Int.ofNat (i0.toNat - 0)) :: vxi 0 :: (us 68 [])))),[.box [(vcs w0),(vci i2),(.c (ro kE n2 f1))],.box [(vcs w1),(vcs w2),(vci i3),(vci i4),(vci i5),(vcs w3)],.arr kF n1 f2,.box [(vcs (f1 i0.toNat 0).str),(vci (f1 i0.toNat 1).int),(vci (f1 i0.toNat 2).int),(vci (f1 i0.toNat 3).int),(vcb (f1 i0.toNat 4).bool)],.box [(vcs x0.1),(vci x0.2.1),(vci x0.2.2.1),(vcs x0.2.2.2.1),(vcs x0.2.2.2.2.1),(vci x0.2.2.2.2.2.1),(.c (ro kP x0.2.2.2.2.2.2.1 x0.2.2.2.2.2.2.2.1)),(.c (ro (.pr (.sl kP) .nil) x0.2.2.2.2.2.2.2.2.1 x0.2.2.2.2.2.2.2.2.2.1)),(vcs x0.2.2.2.2.2.2.2.2.2.2.1),(vci x0.2.2.2.2.2.2.2.2.2.2.2.1),(vci x0.2.2.2.2.2.2.2.2.2.2.2.2.1),(vci x0.2.2.2.2.2.2.2.2.2.2.2.2.2.1),(vci x0.2.2.2.2.2.2.2.2.2.2.2.2.2.2.1),(vci x0.2.2.2.2.2.2.2.2.2.2.2.2.2.2.2.1),(vci x0.2.2.2.2.2.2.2.2.2.2.2.2.2.2.2.2.1),(vci x0.2.2.2.2.2.2.2.2.2.2.2.2.2.2.2.2.2.1),(vci x0.2.2.2.2.2.2.2.2.2.2.2.2.2.2.2.2.2.2.1),(vci x0.2.2.2.2.2.2.2.2.2.2.2.2.2.2.2.2.2.2.2.1)]]⟩
theorem r182v5 :
  loopH (eB A11v13 (C48 u) u) N182v5 (m + 1) (s182v6 n0 n2 n1 f0 f1 f2 i0 i5 i1 i2 i3 i4 w0 w1 w2 w3) k =
  (bif (decide (i5 < i0)) then (bif (inb i5 n1) then (ob (F172 u n0 f0 (f1 i5.toNat 0).str) fun x0 => (bif (!x0.2.2.2.2.2.2.2.2.2.2.2.2.2.2.2.2.2.2.2.2) then (k .ret s182v7) else (bif (inbe i5 n1) then (loopN (eB A11v3 (C48 u) u) N182v3 u (s182v10 n0 n2 n1 f0 f1 f2 i5 i0 i1 i2 i3 i4 w0 w1 w2 w3 x0) (kBlk 3 (kSeq (C48 u) u (13 :: (rl 53 15 [])) A11v9 (kBlk 2 (kSeq (C48 u) u (rl 8 4 (13 :: 14 :: 16 :: (rl 41 84 []))) A11v11 (kLoop (eB A11v13 (C48 u) u) N182v5 m k)))))) else none))) else none) else (k (.exit 1) s182v9)) := by kernel_rfl
theorem t182v1 (x0 : ByteArray × Int × Int × ByteArray × ByteArray × Int × Nat × FF × Nat × FF × ByteArray × Int × Int × Int × Int × Int × Int × Int × Int × Int × Bool) :
  loopN (eB A11v3 (C48 u) u) N182v3 u (s182v10 n0 n1 n2 f0 f1 f2 i0 i1 i2 i3 i4 i5 w0 w1 w2 w3 x0) k =
  L182v3 u n0 f0 n1 n2 f1 i1 i0 (i0.toNat - 0) (Int.ofNat (i0.toNat - 0)) w0 i2 w1 w2 i3 i4 i5 w3 f2 (f1 i0.toNat 0).str (f1 i0.toNat 1).int (f1 i0.toNat 2).int (f1 i0.toNat 3).int (f1 i0.toNat 4).bool x0.1 x0.2.1 x0.2.2.1 x0.2.2.2.1 x0.2.2.2.2.1 x0.2.2.2.2.2.1 x0.2.2.2.2.2.2.1 x0.2.2.2.2.2.2.2.1 x0.2.2.2.2.2.2.2.2.1 x0.2.2.2.2.2.2.2.2.2.1 x0.2.2.2.2.2.2.2.2.2.2.1 x0.2.2.2.2.2.2.2.2.2.2.2.1 x0.2.2.2.2.2.2.2.2.2.2.2.2.1 x0.2.2.2.2.2.2.2.2.2.2.2.2.2.1 x0.2.2.2.2.2.2.2.2.2.2.2.2.2.2.1 x0.2.2.2.2.2.2.2.2.2.2.2.2.2.2.2.1 x0.2.2.2.2.2.2.2.2.2.2.2.2.2.2.2.2.1 x0.2.2.2.2.2.2.2.2.2.2.2.2.2.2.2.2.2.1 x0.2.2.2.2.2.2.2.2.2.2.2.2.2.2.2.2.2.2.1 x0.2.2.2.2.2.2.2.2.2.2.2.2.2.2.2.2.2.2.2.1 u 0 (k (.exit 1) s182v1) (k (.exit 3) (s182v2 n0 n1 n2 x0.2.2.2.2.2.2.1 x0.2.2.2.2.2.2.2.2.1 f0 f1 f2 x0.2.2.2.2.2.2.2.1 x0.2.2.2.2.2.2.2.2.2.1 i1 i0 i2 i3 i4 i5 (f1 i0.toNat 1).int (f1 i0.toNat 2).int (f1 i0.toNat 3).int x0.2.1 x0.2.2.1 x0.2.2.2.2.2.1 x0.2.2.2.2.2.2.2.2.2.2.2.1 x0.2.2.2.2.2.2.2.2.2.2.2.2.1 x0.2.2.2.2.2.2.2.2.2.2.2.2.2.1 x0.2.2.2.2.2.2.2.2.2.2.2.2.2.2.1 x0.2.2.2.2.2.2.2.2.2.2.2.2.2.2.2.1 x0.2.2.2.2.2.2.2.2.2.2.2.2.2.2.2.2.1 x0.2.2.2.2.2.2.2.2.2.2.2.2.2.2.2.2.2.1 x0.2.2.2.2.2.2.2.2.2.2.2.2.2.2.2.2.2.2.1 x0.2.2.2.2.2.2.2.2.2.2.2.2.2.2.2.2.2.2.2.1 (f1 i0.toNat 4).bool w0 w1 w2 w3 (f1 i0.toNat 0).str x0.1 x0.2.2.2.1 x0.2.2.2.2.1 x0.2.2.2.2.2.2.2.2.2.2.1)) :=
 Eq.trans (loopN_at (by kernel_rfl)) (q182v3 ..)
theorem g182v2 :
  (kBlk 3 (kSeq (C48 u) u (13 :: (rl 53 15 [])) A11v9 (kBlk 2 (kSeq (C48 u) u (rl 8 4 (13 :: 14 :: 16 :: (rl 41 84 []))) A11v11 (kLoop (eB A11v13 (C48 u) u) N182v5 m k))))) (.exit 1) s182v1 =
  (k (.exit 1) s182v1) := by kernel_rfl
def s182v11 (x0 : ByteArray × Int × Int × ByteArray × ByteArray × Int × Nat × FF × Nat × FF × ByteArray × Int × Int × Int × Int × Int × Int × Int × Int × Int × Bool) (x1 : Nat × FF × Nat × FF) : St := ⟨(.u :: .u :: .x (.c (ro kA n0 f0)) :: .x (.ptr 0 0) :: .x (.ptr 1 0) :: .u :: vxi 0 :: .x (.own 2 0 n1) :: .u :: .x (.c (.rp kE (listF [(.s (f1 i0.toNat 0).str),(vi (f1 i0.toNat 1).int),(vi (f1 i0.toNat 2).int),(vi (f1 i0.toNat 3).int),(.b (f1 i0.toNat 4).bool)]))) :: .x (.c (.rp kA (listF [(.s x0.1),(vi x0.2.1),(vi x0.2.2.1),(.s x0.2.2.2.1),(.s x0.2.2.2.2.1),(vi x0.2.2.2.2.2.1),(ro kP x0.2.2.2.2.2.2.1 x0.2.2.2.2.2.2.2.1),(ro (.pr (.sl kP) .nil) x0.2.2.2.2.2.2.2.2.1 x0.2.2.2.2.2.2.2.2.2.1),(.s x0.2.2.2.2.2.2.2.2.2.2.1),(vi x0.2.2.2.2.2.2.2.2.2.2.2.1),(vi x0.2.2.2.2.2.2.2.2.2.2.2.2.1),(vi x0.2.2.2.2.2.2.2.2.2.2.2.2.2.1),(vi x0.2.2.2.2.2.2.2.2.2.2.2.2.2.2.1),(vi x0.2.2.2.2.2.2.2.2.2.2.2.2.2.2.2.1),(vi x0.2.2.2.2.2.2.2.2.2.2.2.2.2.2.2.2.1),(vi x0.2.2.2.2.2.2.2.2.2.2.2.2.2.2.2.2.2.1),(vi x0.2.2.2.2.2.2.2.2.2.2.2.2.2.2.2.2.2.2.1),(vi x0.2.2.2.2.2.2.2.2.2.2.2.2.2.2.2.2.2.2.2.1)]))) :: (us 3 (.x (.ptr 5 0) :: (us 22 (.x (.c (ro kE n2 f1)) :: vxi i1 :: vxi i0 :: (us 28 (.x (.c (.rp kB (listF [(ro kP x0.2.2.2.2.2.2.1 x0.2.2.2.2.2.2.2.1),(ro (.pr (.sl kP) .nil) x0.2.2.2.2.2.2.2.2.1 x0.2.2.2.2.2.2.2.2.2.1),(.s x0.2.2.2.2.2.2.2.2.2.2.1),(vi x0.2.2.2.2.2.2.2.2.2.2.2.1),(vi x0.2.2.2.2.2.2.2.2.2.2.2.2.1),(vi x0.2.2.2.2.2.2.2.2.2.2.2.2.2.1),(vi x0.2.2.2.2.2.2.2.2.2.2.2.2.2.2.1),(vi x0.2.2.2.2.2.2.2.2.2.2.2.2.2.2.2.1),(vi x0.2.2.2.2.2.2.2.2.2.2.2.2.2.2.2.2.1),(vi x0.2.2.2.2.2.2.2.2.2.2.2.2.2.2.2.2.2.1),(vi x0.2.2.2.2.2.2.2.2.2.2.2.2.2.2.2.2.2.2.1),(vi x0.2.2.2.2.2.2.2.2.2.2.2.2.2.2.2.2.2.2.2.1)]))) :: .agg [(.c (ro kP x0.2.2.2.2.2.2.1 x0.2.2.2.2.2.2.2.1)),(.c (ro (.pr (.sl kP) .nil) x0.2.2.2.2.2.2.2.2.1 x0.2.2.2.2.2.2.2.2.2.1))] :: .agg [(vcs (f1 i0.toNat 0).str),(vci (f1 i0.toNat 1).int),(vci (f1 i0.toNat 2).int),(vci (f1 i0.toNat 3).int),(vcb (f1 i0.toNat 4).bool)] :: .agg [(.c (ro kP x1.1 x1.2.1)),(.c (ro (.pr (.sl kP) .nil) x1.2.2.1 x1.2.2.2))] :: (us 36 (.x (.own 2 0 n1) :: vxi (Int.ofNat n1) :: vxi 0 :: (us 16 [])))))))))),[.box [(vcs w0),(vci i2),(.c (ro kE n2 f1))],.box [(vcs w1),(vcs w2),(vci i3),(vci i4),(vci i5),(vcs w3)],.arr kF n1 f2,.dead,.dead,.box [(.c (ro kP x1.1 x1.2.1)),(.c (ro (.pr (.sl kP) .nil) x1.2.2.1 x1.2.2.2))]]⟩
theorem g182v3 (x0 : ByteArray × Int × Int × ByteArray × ByteArray × Int × Nat × FF × Nat × FF × ByteArray × Int × Int × Int × Int × Int × Int × Int × Int × Int × Bool) :
  (kBlk 3 (kSeq (C48 u) u (13 :: (rl 53 15 [])) A11v9 (kBlk 2 (kSeq (C48 u) u (rl 8 4 (13 :: 14 :: 16 :: (rl 41 84 []))) A11v11 (kLoop (eB A11v13 (C48 u) u) N182v5 m k))))) (.exit 3) (s182v2 n0 n1 n2 x0.2.2.2.2.2.2.1 x0.2.2.2.2.2.2.2.2.1 f0 f1 f2 x0.2.2.2.2.2.2.2.1 x0.2.2.2.2.2.2.2.2.2.1 i0 i1 i2 i3 i4 i5 (f1 i1.toNat 1).int (f1 i1.toNat 2).int (f1 i1.toNat 3).int x0.2.1 x0.2.2.1 x0.2.2.2.2.2.1 x0.2.2.2.2.2.2.2.2.2.2.2.1 x0.2.2.2.2.2.2.2.2.2.2.2.2.1 x0.2.2.2.2.2.2.2.2.2.2.2.2.2.1 x0.2.2.2.2.2.2.2.2.2.2.2.2.2.2.1 x0.2.2.2.2.2.2.2.2.2.2.2.2.2.2.2.1 x0.2.2.2.2.2.2.2.2.2.2.2.2.2.2.2.2.1 x0.2.2.2.2.2.2.2.2.2.2.2.2.2.2.2.2.2.1 x0.2.2.2.2.2.2.2.2.2.2.2.2.2.2.2.2.2.2.1 x0.2.2.2.2.2.2.2.2.2.2.2.2.2.2.2.2.2.2.2.1 (f1 i1.toNat 4).bool w0 w1 w2 w3 (f1 i1.toNat 0).str x0.1 x0.2.2.2.1 x0.2.2.2.2.1 x0.2.2.2.2.2.2.2.2.2.2.1) =
  (ob (F25 u x0.2.2.2.2.2.2.1 x0.2.2.2.2.2.2.2.1 x0.2.2.2.2.2.2.2.2.1 x0.2.2.2.2.2.2.2.2.2.1 (f1 i1.toNat 0).str (f1 i1.toNat 1).int (f1 i1.toNat 2).int (f1 i1.toNat 3).int (f1 i1.toNat 4).bool) fun x1 => (bif (x0.2.2.1 != 1) then (k .ret (s182v8 10)) else (bif ((!(ByteArray.toList x0.2.2.2.2.1 == ByteArray.toList w2)) == false) then (bif (x0.2.2.2.2.2.1 != i3) then (k .ret (s182v8 23)) else (ob (F13 u x0.2.2.2.2.2.2.1 x0.2.2.2.2.2.2.2.1 x0.2.2.2.2.2.2.2.2.1 x0.2.2.2.2.2.2.2.2.2.1) fun x2 => (bif (x2 != 0) then (k .ret (s182v8 17)) else (ob (F174 u (f1 i1.toNat 0).str (f1 i1.toNat 1).int (f1 i1.toNat 2).int (f1 i1.toNat 3).int (f1 i1.toNat 4).bool) fun x3 => (bif (!x3) then (k .ret (s182v8 9)) else (ob (F29 u x1.1 x1.2.1 x1.2.2.1 x1.2.2.2 i4 i5 i2) fun x4 => (bif (!x4) then (k .ret (s182v8 18)) else (loopN (eB A11v6 (C48 u) u) N182v4 u (s182v11 n0 n1 n2 f0 f1 f2 i1 i0 i2 i3 i4 i5 w0 w1 w2 w3 x0 x1) (kBlk 6 (kSeq (C48 u) u (16 :: (rl 108 13 [])) A11v7 (kBlk 2 (kSeq (C48 u) u (rl 8 4 (13 :: 14 :: 16 :: (rl 41 84 []))) A11v11 (kLoop (eB A11v13 (C48 u) u) N182v5 m k))))))))))))) else (k .ret (s182v8 23))))) := by kernel_rfl
theorem t182v4 (x0 : ByteArray × Int × Int × ByteArray × ByteArray × Int × Nat × FF × Nat × FF × ByteArray × Int × Int × Int × Int × Int × Int × Int × Int × Int × Bool) (x1 : Nat × FF × Nat × FF) :
  loopN (eB A11v6 (C48 u) u) N182v4 u (s182v11 n0 n1 n2 f0 f1 f2 i0 i1 i2 i3 i4 i5 w0 w1 w2 w3 x0 x1) k =
  L182v4 u n0 f0 n1 n2 f1 i1 i0 (Int.ofNat n1) w0 i2 w1 w2 i3 i4 i5 w3 f2 x1.1 x1.2.1 x1.2.2.1 x1.2.2.2 u 0 (k (.exit 1) s182v4) (k (.exit 6) (s182v5 n0 n1 n2 x1.1 x1.2.2.1 f0 f1 f2 x1.2.1 x1.2.2.2 i1 i0 i2 i3 i4 i5 w0 w1 w2 w3)) :=
 Eq.trans (loopN_at (by kernel_rfl)) (q182v4 ..)
theorem g182v5 :
  (kBlk 6 (kSeq (C48 u) u (16 :: (rl 108 13 [])) A11v7 (kBlk 2 (kSeq (C48 u) u (rl 8 4 (13 :: 14 :: 16 :: (rl 41 84 []))) A11v11 (kLoop (eB A11v13 (C48 u) u) N182v5 m k))))) (.exit 1) s182v4 =
  (k (.exit 1) s182v4) := by kernel_rfl
theorem g182v6 (x0 : Nat × FF × Nat × FF) :
  (kBlk 6 (kSeq (C48 u) u (16 :: (rl 108 13 [])) A11v7 (kBlk 2 (kSeq (C48 u) u (rl 8 4 (13 :: 14 :: 16 :: (rl 41 84 []))) A11v11 (kLoop (eB A11v13 (C48 u) u) N182v5 m k))))) (.exit 6) (s182v5 n0 n1 n2 x0.1 x0.2.2.1 f0 f1 f2 x0.2.1 x0.2.2.2 i0 i1 i2 i3 i4 i5 w0 w1 w2 w3) =
  (bif (Nat.ble (n1 + 1) 1073741824) then (loopH (eB A11v13 (C48 u) u) N182v5 m (s182v6 n0 (n1 + 1) n2 f0 f1 (joinF n1 f2 (rowsF 2 [(ro kP x0.1 x0.2.1),(ro (.pr (.sl kP) .nil) x0.2.2.1 x0.2.2.2)])) i0 (w64 (i1 + 1)) i2 i3 i4 i5 w0 w1 w2 w3) k) else none) := by kernel_rfl
theorem q182v5 : ∀ (m : Nat) (x0 : Nat) (x1 : Int) (x2 : FF),
  loopH (eB A11v13 (C48 u) u) N182v5 m (s182v6 n0 x0 n1 f0 f1 x2 i0 x1 i1 i2 i3 i4 w0 w1 w2 w3) k = L182v5 u n0 f0 n1 f1 i0 w0 i1 w1 w2 i2 i3 i4 w3 m x0 x1 x2 (k .ret s182v7) (k (.exit 1) s182v1) (fun x3 => k .ret (s182v8 x3)) (k (.exit 1) s182v4) (k (.exit 1) s182v9)
 | 0,_,_,_ => rfl
 | m + 1,x0,x1,x2 => by
  rw [r182v5]
  simp only [L182v5,q182v5 m,t182v1,g182v2,g182v3,t182v4,g182v5,g182v6]
def F182 (x0 : ByteArray) (x1 : Int) (x2 : Nat) (x3 : FF) (x4 x5 : ByteArray) (x6 x7 x8 : Int) (x9 : ByteArray) (xA : Nat) (xB : FF) : Option (Int) :=
 (bif ((decide (x1 < 0)) == false) then (bif (decide (x1 > 500)) then (some 9) else (bif ((Int.ofNat x2) == 0) then (some 3) else (bif (decide ((Int.ofNat x2) > 32)) then (some 4) else (L182v5 u xA xB x2 x3 (Int.ofNat x2) x0 x1 x4 x5 x6 x7 x8 x9 u 0 0 (fun _ _ => .any)
  (some 8)
  (some 7)
  (fun xC => (some xC))
  (some 19)
  (some 0))))) else (some 9))
def s182v12 : St := ⟨(.agg [(vcs w0),(vci i0),(.c (ro kE n0 f0))] :: .agg [(vcs w1),(vcs w2),(vci i1),(vci i2),(vci i3),(vcs w3)] :: .x (.c (ro kA n1 f1)) :: .x (.ptr 0 0) :: .x (.ptr 1 0) :: uu :: vxi 0 :: .x (.own 2 0 0) :: uu :: uu :: uu :: uu :: uu :: uu :: uu :: uu :: uu :: (us 19 [.x (.ptr 0 2),.x (.c (ro kE n0 f0)),vxi (Int.ofNat n0),vxi 0,uu,uu,uu,uu,uu,uu,uu,uu,uu,uu,uu,uu,uu,uu,uu,uu,uu,uu,uu,uu,uu,uu,uu,uu,uu,uu,uu,uu,uu,uu,uu,uu,uu,uu,uu,uu,uu,uu,uu,uu,uu,uu,uu,uu,uu,uu,uu,uu,uu,uu,uu,uu,uu,uu,uu,uu,uu,uu,uu,uu,uu,uu,uu,uu,uu,uu,uu,uu,uu,uu,uu,uu,uu,uu,uu,uu,uu,uu,uu,uu,uu,uu,uu,uu,uu,uu,uu])),[.box [(vcs w0),(vci i0),(.c (ro kE n0 f0))],.box [(vcs w1),(vcs w2),(vci i1),(vci i2),(vci i3),(vcs w3)],.arr kF 0 nilF]⟩
theorem t182v7 :
  loopN (eB A11v13 (C48 u) u) N182v5 u (s182v12 n0 n1 f0 f1 i0 i1 i2 i3 w0 w1 w2 w3) k =
  L182v5 u n1 f1 n0 f0 (Int.ofNat n0) w0 i0 w1 w2 i1 i2 i3 w3 u 0 0 nilF (k .ret s182v7) (k (.exit 1) s182v1) (fun x0 => k .ret (s182v8 x0)) (k (.exit 1) s182v4) (k (.exit 1) s182v9) :=
 Eq.trans (loopN_at (by kernel_rfl)) (q182v5 ..)
theorem g182v8 :
  (kBlk 1 (kSeq (C48 u) u (rl 7 5 (13 :: 14 :: 16 :: (rl 36 90 []))) A11v14 (finish A11))) .ret s182v7 =
  (some [.v (vi 8)]) := by kernel_rfl
theorem g182v9 :
  (kBlk 1 (kSeq (C48 u) u (rl 7 5 (13 :: 14 :: 16 :: (rl 36 90 []))) A11v14 (finish A11))) (.exit 1) s182v1 =
  (some [.v (vi 7)]) := by kernel_rfl
theorem g182v10 :
  (kBlk 1 (kSeq (C48 u) u (rl 7 5 (13 :: 14 :: 16 :: (rl 36 90 []))) A11v14 (finish A11))) .ret (s182v8 i0) =
  (some [.v (vi i0)]) := by kernel_rfl
theorem g182v11 :
  (kBlk 1 (kSeq (C48 u) u (rl 7 5 (13 :: 14 :: 16 :: (rl 36 90 []))) A11v14 (finish A11))) (.exit 1) s182v4 =
  (some [.v (vi 19)]) := by kernel_rfl
theorem g182v12 :
  (kBlk 1 (kSeq (C48 u) u (rl 7 5 (13 :: 14 :: 16 :: (rl 36 90 []))) A11v14 (finish A11))) (.exit 1) s182v9 =
  (some [.v (vi 0)]) := by kernel_rfl
theorem e182 : evalF (C48 u) u A11 [.agg [(.s w0),(vi i0),(ro kE n0 f0)],.agg [(.s w1),(.s w2),(vi i1),(vi i2),(vi i3),(.s w3)],.v (ro kA n1 f1)] = ob (F182 u w0 i0 n0 f0 w1 w2 i1 i2 i3 w3 n1 f1) fun t => some [.v (vi t)] := Eq.trans (b := (bif ((decide (i0 < 0)) == false) then (bif (decide (i0 > 500)) then (some [.v (vi 9)]) else (bif ((Int.ofNat n0) == 0) then (some [.v (vi 3)]) else (bif (decide ((Int.ofNat n0) > 32)) then (some [.v (vi 4)]) else (loopN (eB A11v13 (C48 u) u) N182v5 u (s182v12 n0 n1 f0 f1 i0 i1 i2 i3 w0 w1 w2 w3) (kBlk 1 (kSeq (C48 u) u (rl 7 5 (13 :: 14 :: 16 :: (rl 36 90 []))) A11v14 (finish A11))))))) else (some [.v (vi 9)]))) (by kernel_rfl) (by
 simp only [F182,ob_bif,ob_ob,ob_none,ob_some,nl182v5,t182v7,g182v8,g182v9,g182v10,g182v11,g182v12])
def O182 : Ora := mkO (qc (ag (tc cS (tc ci (t1 (cL kE))))) (qc (ag (tc cS (tc cS (tc ci (tc ci (tc ci (t1 cS))))))) (q1 (av (cL kA))))) (fun x => F182 u x.1.1 x.1.2.1 x.1.2.2.1 x.1.2.2.2 x.2.1.1 x.2.1.2.1 x.2.1.2.2.1 x.2.1.2.2.2.1 x.2.1.2.2.2.2.1 x.2.1.2.2.2.2.2 x.2.2.1 x.2.2.2) fun t => [.v (vi t)]
theorem d182 : DO (O182 u) (C48 u) 11 A11 := dO u (fun x => by exact e182 u x.1.2.2.1 x.2.2.1 x.1.2.2.2 x.2.2.2 x.1.2.1 x.2.1.2.2.1 x.2.1.2.2.2.1 x.2.1.2.2.2.2.1 x.1.1 x.2.1.1 x.2.1.2.1 x.2.1.2.2.2.2.2)
def C49 : Oracle := (C48 u).add 11 (fun _ => true) (O182 u)
def A22v1 : AC := (.region 3 [mv 10 5,o1 11 (bk .add 3 10 1),o1 5 (sg 11)] 0 none)
def A22v2 : AC := (.seq (.block 1
 (.seq (.region 4 [mv 12 0,mv 13 5,o1 14 (.indexAddr 27 56 18 (tm 12) (tm 13)),o1 15 (fa 56 14 0 0),o1 16 (lo 9 15),mv 17 1,o1 18 (bt .eql 9 16 17)] 0 none) []
  (.cond (tm 18)
  (.seq (.region 5 [mv 19 5,o1 4 (sg 19)] 0 none) []
   (.ret (rl 0 4 (rl 5 15 []))))
  .skip))) (4 :: (rl 12 8 []))
 A22v1)
def A22v3 : AC := (.seq (.seq (.region 2 [mv 6 5,mv 7 0,o1 8 (.len 27 false (tm 7)),o1 9 (bt .lss 3 6 8)] 0 none) []
 (.cond (tm 9)
 .skip
 (.exit 0 (rl 0 20 [])))) (rl 6 4 [])
 A22v2)
def A22v4 : AC := (.seq (.region 6 [o1 4 (sk (-1))] 0 none) []
 (.ret (rl 0 4 (rl 5 15 []))))
def A22 : AF := ⟨20,[.tmp 4],
 (.seq (.region 0 [o1 4 (sk 0)] 0 none) []
 (.seq (.seq (.region 1 [o1 5 (sk 0)] 0 none) []
 (.block 0
 (.loop [] (2 :: 3 :: 4 :: (rl 6 14 []))
  A22v3))) (rl 4 16 [])
 A22v4))⟩
def N176v1 : St → Option St := nN 0 (2 :: 3 :: 4 :: (rl 6 14 []))
def s176v0 : St := ⟨(.x (.c (ro kA n0 f0)) :: vxs w0 :: (us 3 (vxi i0 :: (us 14 [])))),[]⟩
def s176v1 : St := ⟨(us 4 (vxi i0 :: (us 15 []))),[]⟩
def s176v2 : St := ⟨(us 20 []),[]⟩
def L176v1 {ρ : Type} (u : Nat) (x0 : Nat) (x1 : FF) (x2 : ByteArray) : Nat → Int → (Int → Option ρ) → (Option ρ) → Option ρ
 | 0,_,_,_ => none
 | m + 1,x3,k0,k1 =>
  (bif (decide (x3 < (Int.ofNat x0))) then (bif (inb x3 x0) then (bif (ByteArray.toList (x1 x3.toNat 0).str == ByteArray.toList x2) then (k0 x3) else (L176v1 u x0 x1 x2 m (w64 (x3 + 1)) k0 k1)) else none) else k1)
theorem nl176v1 : ∀ (m : Nat) (x0 : Int) (k0 : Int → Option ρ) (k1 : Option ρ),ob (L176v1 u n0 f0 w0 m x0 k0 k1) ng = L176v1 u n0 f0 w0 m x0 (fun x1 => ob (k0 x1) ng) (ob k1 ng)
 | 0,_,_,_ => rfl
 | m + 1,x0,k0,k1 => by
  simp only [L176v1,ob_bif,ob_ob,ob_none,nl176v1 m]
theorem r176v1 :
  loopH (eB A22v3 (C49 u) u) N176v1 (m + 1) (s176v0 n0 f0 i0 w0) k =
  (bif (decide (i0 < (Int.ofNat n0))) then (bif (inb i0 n0) then (bif (ByteArray.toList (f0 i0.toNat 0).str == ByteArray.toList w0) then (k .ret (s176v1 i0)) else (loopH (eB A22v3 (C49 u) u) N176v1 m (s176v0 n0 f0 (w64 (i0 + 1)) w0) k)) else none) else (k (.exit 0) s176v2)) := by kernel_rfl
theorem q176v1 : ∀ (m : Nat) (x0 : Int),
  loopH (eB A22v3 (C49 u) u) N176v1 m (s176v0 n0 f0 x0 w0) k = L176v1 u n0 f0 w0 m x0 (fun x1 => k .ret (s176v1 x1)) (k (.exit 0) s176v2)
 | 0,_ => rfl
 | m + 1,x0 => by
  rw [r176v1]
  simp only [L176v1,q176v1 m]
def F176 (x0 : Nat) (x1 : FF) (x2 : ByteArray) : Option (Int) :=
 (L176v1 u x0 x1 x2 u 0
  (fun x3 => (some x3))
  (some (-1)))
def s176v3 : St := ⟨[.x (.c (ro kA n0 f0)),vxs w0,uu,uu,vxi 0,vxi 0,uu,uu,uu,uu,uu,uu,uu,uu,uu,uu,uu,uu,uu,uu],[]⟩
theorem t176v1 :
  loopN (eB A22v3 (C49 u) u) N176v1 u (s176v3 n0 f0 w0) k =
  L176v1 u n0 f0 w0 u 0 (fun x0 => k .ret (s176v1 x0)) (k (.exit 0) s176v2) :=
 Eq.trans (loopN_at (by kernel_rfl)) (q176v1 ..)
theorem g176v2 :
  (kBlk 0 (kSeq (C49 u) u (rl 4 16 []) A22v4 (finish A22))) .ret (s176v1 i0) =
  (some [.v (vi i0)]) := by kernel_rfl
theorem g176v3 :
  (kBlk 0 (kSeq (C49 u) u (rl 4 16 []) A22v4 (finish A22))) (.exit 0) s176v2 =
  (some [.v (vi (-1))]) := by kernel_rfl
theorem e176 : evalF (C49 u) u A22 [.v (ro kA n0 f0),.v (.s w0)] = ob (F176 u n0 f0 w0) fun t => some [.v (vi t)] := Eq.trans (b := (loopN (eB A22v3 (C49 u) u) N176v1 u (s176v3 n0 f0 w0) (kBlk 0 (kSeq (C49 u) u (rl 4 16 []) A22v4 (finish A22))))) (by kernel_rfl) (by
 simp only [F176,ob_bif,ob_ob,ob_none,ob_some,nl176v1,t176v1,g176v2,g176v3])
def O176 : Ora := mkO (qc (av (cL kA)) (q1 (av cS))) (fun x => F176 u x.1.1 x.1.2 x.2) fun t => [.v (vi t)]
theorem d176 : DO (O176 u) (C49 u) 22 A22 := dO u (fun x => by exact e176 u x.1.1 x.1.2 x.2)
def C50 : Oracle := (C49 u).add 22 (fun _ => true) (O176 u)
def A90 : AF := ⟨21,[.tmp 2],
 (.seq (.region 0 [o1 1 (bx 0 41 0),o1 2 (sb false)] 1 none) []
 (.seq (.region 1 [o1 3 (fa 41 1 0 0),o1 4 (lo 3 3),o1 5 (bk .geq 3 4 (-32768)),mv 6 5,og 7 (fa 41 1 0 0) 6 true,og 8 (lo 3 7) 6 true,og 9 (bk .leq 3 8 32768) 6 true,o1 10 (po 6 9),mv 11 10,og 12 (fa 41 1 1 1) 11 true,og 13 (lo 3 12) 11 true,og 14 (bk .geq 3 13 (-32768)) 11 true,o1 15 (po 11 14),mv 16 15,og 17 (fa 41 1 1 1) 16 true,og 18 (lo 3 17) 16 true,og 19 (bk .leq 3 18 32768) 16 true,o1 20 (po 16 19),o1 2 (sg 20)] 0 none) []
 (.ret (0 :: 1 :: (rl 3 18 [])))))⟩
def F69 (u : Nat) (x0 x1 : Int) : Option (Bool) :=
 (bif ((decide (x0 ≥ (-32768))) == true) then (bif ((decide (x0 ≤ 32768)) == true) then (bif ((decide (x1 ≥ (-32768))) == true) then (some (decide (x1 ≤ 32768))) else (some false)) else (some false)) else (some false))
theorem e69 : evalF (C50 u) u A90 [.agg [(vi i0),(vi i1)]] = ob (F69 u i0 i1) fun t => some [.v (.b t)] := Eq.trans (b := (bif ((decide (i0 ≥ (-32768))) == true) then (bif ((decide (i0 ≤ 32768)) == true) then (bif ((decide (i1 ≥ (-32768))) == true) then (some [.v (.b (decide (i1 ≤ 32768)))]) else (some [.v (.b false)])) else (some [.v (.b false)])) else (some [.v (.b false)]))) (by kernel_rfl) (by
 simp only [F69,ob_bif,ob_ob,ob_none,ob_some])
def O69 : Ora := mkO (q1 (ag (tc ci (t1 ci)))) (fun x => F69 u x.1 x.2) fun t => [.v (.b t)]
theorem d69 : DO (O69 u) (C50 u) 90 A90 := dO u (fun x => by exact e69 u x.1 x.2)
def C51 : Oracle := (C50 u).add 90 (fun _ => true) (O69 u)
def A87v1 : AC := (.region 3 [mv 8 3,o1 9 (bk .add 3 8 1),o1 3 (sg 9)] 0 none)
def A87v2 : AC := (.seq (.block 1
 (.seq (.region 4 [mv 10 0,mv 11 3,o1 12 (.indexAddr 47 41 2 (tm 10) (tm 11)),o1 13 (ln 41 2 12),o1 14 (cs 90 [13] [41]),o1 15 (.unOp .not 4 (tm 14))] 0 none) []
  (.cond (tm 15)
  (.seq (.region 5 [o1 2 (sb false)] 0 none) []
   (.ret (0 :: 1 :: (rl 3 13 []))))
  .skip))) (2 :: (rl 10 6 []))
 A87v1)
def A87v3 : AC := (.seq (.seq (.region 2 [mv 4 3,mv 5 0,o1 6 (.len 47 false (tm 5)),o1 7 (bt .lss 3 4 6)] 0 none) []
 (.cond (tm 7)
 .skip
 (.exit 0 (rl 0 16 [])))) (rl 4 4 [])
 A87v2)
def A87v4 : AC := (.seq (.region 6 [o1 2 (sb true)] 0 none) []
 (.ret (0 :: 1 :: (rl 3 13 []))))
def A87 : AF := ⟨16,[.tmp 2],
 (.seq (.region 0 [o1 2 (sb false)] 0 none) []
 (.seq (.seq (.region 1 [o1 3 (sk 0)] 0 none) []
 (.block 0
 (.loop [] (1 :: 2 :: (rl 4 12 []))
  A87v3))) (rl 2 14 [])
 A87v4))⟩
def N66v1 : St → Option St := nN 0 (1 :: 2 :: (rl 4 12 []))
def s66v0 : St := ⟨(.x (.c (ro kP n0 f0)) :: .u :: .u :: vxi i0 :: (us 12 [])),[]⟩
def s66v1 : St := ⟨(.u :: .u :: vxb false :: (us 13 [])),[]⟩
def s66v2 : St := ⟨(us 16 []),[]⟩
def L66v1 {ρ : Type} (u : Nat) (x0 : Nat) (x1 : FF) : Nat → Int → (Option ρ) → (Option ρ) → Option ρ
 | 0,_,_,_ => none
 | m + 1,x2,k0,k1 =>
  (bif (decide (x2 < (Int.ofNat x0))) then (bif (inb x2 x0) then (ob (F69 u (x1 x2.toNat 0).int (x1 x2.toNat 1).int) fun x3 => (bif (!x3) then k0 else (L66v1 u x0 x1 m (w64 (x2 + 1)) k0 k1))) else none) else k1)
theorem nl66v1 : ∀ (m : Nat) (x0 : Int) (k0 : Option ρ) (k1 : Option ρ),ob (L66v1 u n0 f0 m x0 k0 k1) ng = L66v1 u n0 f0 m x0 (ob k0 ng) (ob k1 ng)
 | 0,_,_,_ => rfl
 | m + 1,x0,k0,k1 => by
  simp only [L66v1,ob_bif,ob_ob,ob_none,nl66v1 m]
theorem r66v1 :
  loopH (eB A87v3 (C51 u) u) N66v1 (m + 1) (s66v0 n0 f0 i0) k =
  (bif (decide (i0 < (Int.ofNat n0))) then (bif (inb i0 n0) then (ob (F69 u (f0 i0.toNat 0).int (f0 i0.toNat 1).int) fun x0 => (bif (!x0) then (k .ret s66v1) else (loopH (eB A87v3 (C51 u) u) N66v1 m (s66v0 n0 f0 (w64 (i0 + 1))) k))) else none) else (k (.exit 0) s66v2)) := by kernel_rfl
theorem q66v1 : ∀ (m : Nat) (x0 : Int),
  loopH (eB A87v3 (C51 u) u) N66v1 m (s66v0 n0 f0 x0) k = L66v1 u n0 f0 m x0 (k .ret s66v1) (k (.exit 0) s66v2)
 | 0,_ => rfl
 | m + 1,x0 => by
  rw [r66v1]
  simp only [L66v1,q66v1 m]
def F66 (x0 : Nat) (x1 : FF) : Option (Bool) :=
 (L66v1 u x0 x1 u 0
  (some false)
  (some true))
def s66v3 : St := ⟨[.x (.c (ro kP n0 f0)),uu,vxb false,vxi 0,uu,uu,uu,uu,uu,uu,uu,uu,uu,uu,uu,uu],[]⟩
theorem t66v1 :
  loopN (eB A87v3 (C51 u) u) N66v1 u (s66v3 n0 f0) k =
  L66v1 u n0 f0 u 0 (k .ret s66v1) (k (.exit 0) s66v2) :=
 Eq.trans (loopN_at (by kernel_rfl)) (q66v1 ..)
theorem g66v2 :
  (kBlk 0 (kSeq (C51 u) u (rl 2 14 []) A87v4 (finish A87))) .ret s66v1 =
  (some [.v (.b false)]) := by kernel_rfl
theorem g66v3 :
  (kBlk 0 (kSeq (C51 u) u (rl 2 14 []) A87v4 (finish A87))) (.exit 0) s66v2 =
  (some [.v (.b true)]) := by kernel_rfl
theorem e66 : evalF (C51 u) u A87 [.v (ro kP n0 f0)] = ob (F66 u n0 f0) fun t => some [.v (.b t)] := Eq.trans (b := (loopN (eB A87v3 (C51 u) u) N66v1 u (s66v3 n0 f0) (kBlk 0 (kSeq (C51 u) u (rl 2 14 []) A87v4 (finish A87))))) (by kernel_rfl) (by
 simp only [F66,ob_bif,ob_ob,ob_none,ob_some,nl66v1,t66v1,g66v2,g66v3])
def O66 : Ora := mkO (q1 (av (cL kP))) (fun x => F66 u x.1 x.2) fun t => [.v (.b t)]
theorem d66 : DO (O66 u) (C51 u) 87 A87 := dO u (fun x => by exact e66 u x.1 x.2)
def C52 : Oracle := (C51 u).add 87 (fun _ => true) (O66 u)
def A92 : AF := ⟨30,[.tmp 6],
 (.seq (.region 0 [o1 3 (bx 0 41 0),o1 4 (bx 1 41 1),o1 5 (bx 2 41 2),o1 6 (sk 0)] 3 none) []
 (.seq (.region 1 [o1 7 (fa 41 4 0 0),o1 8 (lo 3 7),o1 9 (fa 41 3 0 0),o1 10 (lo 3 9),o1 11 (bt .sub 3 8 10),o1 12 (fa 41 5 1 1),o1 13 (lo 3 12),o1 14 (fa 41 3 1 1),o1 15 (lo 3 14),o1 16 (bt .sub 3 13 15),o1 17 (bt .mul 3 11 16),o1 18 (fa 41 4 1 1),o1 19 (lo 3 18),o1 20 (fa 41 3 1 1),o1 21 (lo 3 20),o1 22 (bt .sub 3 19 21),o1 23 (fa 41 5 0 0),o1 24 (lo 3 23),o1 25 (fa 41 3 0 0),o1 26 (lo 3 25),o1 27 (bt .sub 3 24 26),o1 28 (bt .mul 3 22 27),o1 29 (bt .sub 3 17 28),o1 6 (sg 29)] 0 none) []
 (.ret (rl 0 6 (rl 7 23 [])))))⟩
def F71 (u : Nat) (x0 x1 x2 x3 x4 x5 : Int) : Option (Int) :=
 (some (w64 ((w64 ((w64 (x2 - x0)) * (w64 (x5 - x1)))) - (w64 ((w64 (x3 - x1)) * (w64 (x4 - x0)))))))
theorem e71 : evalF (C52 u) u A92 [.agg [(vi i0),(vi i1)],.agg [(vi i2),(vi i3)],.agg [(vi i4),(vi i5)]] = ob (F71 u i0 i1 i2 i3 i4 i5) fun t => some [.v (vi t)] := Eq.trans (b := (some [.v (vi (w64 ((w64 ((w64 (i2 - i0)) * (w64 (i5 - i1)))) - (w64 ((w64 (i3 - i1)) * (w64 (i4 - i0)))))))])) (by kernel_rfl) (by
 simp only [F71,ob_bif,ob_ob,ob_none,ob_some])
def O71 : Ora := mkO (qc (ag (tc ci (t1 ci))) (qc (ag (tc ci (t1 ci))) (q1 (ag (tc ci (t1 ci)))))) (fun x => F71 u x.1.1 x.1.2 x.2.1.1 x.2.1.2 x.2.2.1 x.2.2.2) fun t => [.v (vi t)]
theorem d71 : DO (O71 u) (C52 u) 92 A92 := dO u (fun x => by exact e71 u x.1.1 x.1.2 x.2.1.1 x.2.1.2 x.2.2.1 x.2.2.2)
def C53 : Oracle := (C52 u).add 92 (fun _ => true) (O71 u)
def A91 : AF := ⟨52,[.tmp 6],
 (.seq (.region 0 [o1 3 (bx 0 41 0),o1 4 (bx 1 41 1),o1 5 (bx 2 41 2),o1 6 (sb false)] 3 none) []
 (.seq (.region 1 [o1 7 (ln 41 2 4),o1 8 (ln 41 2 5),o1 9 (ln 41 2 3),o1 10 (cs 92 [7,8,9] [41,41,41]),o1 11 (bk .eql 3 10 0),mv 12 11,og 13 (fa 41 4 0 0) 12 true,og 14 (lo 3 13) 12 true,og 15 (fa 41 5 0 0) 12 true,og 16 (lo 3 15) 12 true,og 17 (.mm false [(tm 14),(tm 16)] [3,3]) 12 true,og 18 (fa 41 3 0 0) 12 true,og 19 (lo 3 18) 12 true,og 20 (bt .leq 3 17 19) 12 true,o1 21 (po 12 20),mv 22 21,og 23 (fa 41 3 0 0) 22 true,og 24 (lo 3 23) 22 true,og 25 (fa 41 4 0 0) 22 true,og 26 (lo 3 25) 22 true,og 27 (fa 41 5 0 0) 22 true,og 28 (lo 3 27) 22 true,og 29 (.mm true [(tm 26),(tm 28)] [3,3]) 22 true,og 30 (bt .leq 3 24 29) 22 true,o1 31 (po 22 30),mv 32 31,og 33 (fa 41 4 1 1) 32 true,og 34 (lo 3 33) 32 true,og 35 (fa 41 5 1 1) 32 true,og 36 (lo 3 35) 32 true,og 37 (.mm false [(tm 34),(tm 36)] [3,3]) 32 true,og 38 (fa 41 3 1 1) 32 true,og 39 (lo 3 38) 32 true,og 40 (bt .leq 3 37 39) 32 true,o1 41 (po 32 40),mv 42 41,og 43 (fa 41 3 1 1) 42 true,og 44 (lo 3 43) 42 true,og 45 (fa 41 4 1 1) 42 true,og 46 (lo 3 45) 42 true,og 47 (fa 41 5 1 1) 42 true,og 48 (lo 3 47) 42 true,og 49 (.mm true [(tm 46),(tm 48)] [3,3]) 42 true,og 50 (bt .leq 3 44 49) 42 true,o1 51 (po 42 50),o1 6 (sg 51)] 0 none) []
 (.ret (rl 0 6 (rl 7 45 [])))))⟩
def F70 (x0 x1 x2 x3 x4 x5 : Int) : Option (Bool) :=
 (ob (F71 u x2 x3 x4 x5 x0 x1) fun x6 => (bif ((x6 == 0) == true) then (bif ((decide ((if x4 < x2 then x4 else x2) ≤ x0)) == true) then (bif ((decide (x0 ≤ (if x4 > x2 then x4 else x2))) == true) then (bif ((decide ((if x5 < x3 then x5 else x3) ≤ x1)) == true) then (some (decide (x1 ≤ (if x5 > x3 then x5 else x3)))) else (some false)) else (some false)) else (some false)) else (some false)))
theorem e70 : evalF (C53 u) u A91 [.agg [(vi i0),(vi i1)],.agg [(vi i2),(vi i3)],.agg [(vi i4),(vi i5)]] = ob (F70 u i0 i1 i2 i3 i4 i5) fun t => some [.v (.b t)] := Eq.trans (b := (ob (F71 u i2 i3 i4 i5 i0 i1) fun x0 => (bif ((x0 == 0) == true) then (bif ((decide ((if i4 < i2 then i4 else i2) ≤ i0)) == true) then (bif ((decide (i0 ≤ (if i4 > i2 then i4 else i2))) == true) then (bif ((decide ((if i5 < i3 then i5 else i3) ≤ i1)) == true) then (some [.v (.b (decide (i1 ≤ (if i5 > i3 then i5 else i3))))]) else (some [.v (.b false)])) else (some [.v (.b false)])) else (some [.v (.b false)])) else (some [.v (.b false)])))) (by kernel_rfl) (by
 simp only [F70,ob_bif,ob_ob,ob_none,ob_some])
def O70 : Ora := mkO (qc (ag (tc ci (t1 ci))) (qc (ag (tc ci (t1 ci))) (q1 (ag (tc ci (t1 ci)))))) (fun x => F70 u x.1.1 x.1.2 x.2.1.1 x.2.1.2 x.2.2.1 x.2.2.2) fun t => [.v (.b t)]
theorem d70 : DO (O70 u) (C53 u) 91 A91 := dO u (fun x => by exact e70 u x.1.1 x.1.2 x.2.1.1 x.2.1.2 x.2.2.1 x.2.2.2)
def C54 : Oracle := (C53 u).add 91 (fun _ => true) (O70 u)
def A100v1 : AC := (.seq (.region 5 [o1 2 (sk 0)] 0 none) []
 (.ret (0 :: 1 :: (rl 3 6 []))))
def A100 : AF := ⟨9,[.tmp 2],
 (.seq (.region 0 [o1 2 (sk 0)] 0 none) []
 (.seq (.block 0
 (.seq (.region 1 [mv 4 0,o1 5 (bk .lss 3 4 0),o1 3 (sg 5)] 0 none) []
  (.cond (tm 3)
  (.seq (.region 2 [o1 2 (sk (-1))] 0 none) []
   (.ret (0 :: 1 :: (rl 3 6 []))))
  (.seq (.region 3 [mv 7 0,o1 8 (bk .gtr 3 7 0),o1 6 (sg 8)] 0 none) []
   (.cond (tm 6)
   (.seq (.region 4 [o1 2 (sk 1)] 0 none) []
    (.ret (0 :: 1 :: (rl 3 6 []))))
   .skip))))) (rl 2 7 [])
 A100v1))⟩
def F88 (u : Nat) (x0 : Int) : Option (Int) :=
 (bif (decide (x0 < 0)) then (some (-1)) else (bif (decide (x0 > 0)) then (some 1) else (some 0)))
theorem e88 : evalF (C54 u) u A100 [.v (vi i0)] = ob (F88 u i0) fun t => some [.v (vi t)] := Eq.trans (b := (bif (decide (i0 < 0)) then (some [.v (vi (-1))]) else (bif (decide (i0 > 0)) then (some [.v (vi 1)]) else (some [.v (vi 0)])))) (by kernel_rfl) (by
 simp only [F88,ob_bif,ob_ob,ob_none,ob_some])
def O88 : Ora := mkO (q1 (av ci)) (fun x => F88 u x) fun t => [.v (vi t)]
theorem d88 : DO (O88 u) (C54 u) 100 A100 := dO u (fun x => by exact e88 u x)
def C55 : Oracle := (C54 u).add 100 (fun _ => true) (O88 u)
def A96v1 : AC := (.seq (.region 3 [o1 31 (ln 41 2 4),o1 32 (ln 41 2 5),o1 33 (ln 41 2 6),o1 34 (cs 92 [31,32,33] [41,41,41]),o1 35 (cs 100 [34] [3]),o1 36 (ln 41 2 4),o1 37 (ln 41 2 5),o1 38 (ln 41 2 7),o1 39 (cs 92 [36,37,38] [41,41,41]),o1 40 (cs 100 [39] [3]),o1 41 (bt .mul 3 35 40),o1 42 (bk .lss 3 41 0),mv 43 42,og 44 (ln 41 2 6) 43 true,og 45 (ln 41 2 7) 43 true,og 46 (ln 41 2 4) 43 true,og 47 (cs 92 [44,45,46] [41,41,41]) 43 true,og 48 (cs 100 [47] [3]) 43 true,og 49 (ln 41 2 6) 43 true,og 50 (ln 41 2 7) 43 true,og 51 (ln 41 2 5) 43 true,og 52 (cs 92 [49,50,51] [41,41,41]) 43 true,og 53 (cs 100 [52] [3]) 43 true,og 54 (bt .mul 3 48 53) 43 true,og 55 (bk .lss 3 54 0) 43 true,o1 56 (po 43 55),o1 8 (sg 56)] 0 (some [[],[],[],[0,1,2],(rl 0 4 []),[],[],[],(rl 0 8 []),(rl 0 9 []),(rl 0 10 []),(rl 0 11 []),(rl 0 12 []),(rl 0 13 []),(rl 0 13 []),(rl 0 13 []),(rl 0 16 []),(rl 0 17 []),(rl 0 13 []),(rl 0 13 []),(rl 0 13 []),(rl 0 21 []),(rl 0 22 []),(rl 0 23 []),(rl 0 24 []),(rl 0 25 []),(rl 0 26 [])])) []
 (.ret (rl 0 8 (rl 9 48 []))))
def A96 : AF := ⟨57,[.tmp 8],
 (.seq (.region 0 [o1 4 (bx 0 41 0),o1 5 (bx 1 41 1),o1 6 (bx 2 41 2),o1 7 (bx 3 41 3),o1 8 (sb false)] 4 none) []
 (.seq (.seq (.region 1 [o1 9 (ln 41 2 4),o1 10 (ln 41 2 6),o1 11 (ln 41 2 7),o1 12 (cs 91 [9,10,11] [41,41,41]),mv 13 12,og 14 (ln 41 2 5) 13 false,og 15 (ln 41 2 6) 13 false,og 16 (ln 41 2 7) 13 false,og 17 (cs 91 [14,15,16] [41,41,41]) 13 false,o1 18 (pa 13 17),mv 19 18,og 20 (ln 41 2 6) 19 false,og 21 (ln 41 2 4) 19 false,og 22 (ln 41 2 5) 19 false,og 23 (cs 91 [20,21,22] [41,41,41]) 19 false,o1 24 (pa 19 23),mv 25 24,og 26 (ln 41 2 7) 25 false,og 27 (ln 41 2 4) 25 false,og 28 (ln 41 2 5) 25 false,og 29 (cs 91 [26,27,28] [41,41,41]) 25 false,o1 30 (pa 25 29)] 0 none) []
 (.cond (tm 30)
 (.seq (.region 2 [o1 8 (sb true)] 0 none) []
  (.ret (rl 0 8 (rl 9 48 []))))
 .skip)) (rl 8 23 [])
 A96v1))⟩
def F82 (x0 x1 x2 x3 x4 x5 x6 x7 : Int) : Option (Bool) :=
 (ob (F70 u x0 x1 x4 x5 x6 x7) fun x8 => (bif (x8 == false) then (ob (F70 u x2 x3 x4 x5 x6 x7) fun x9 => (bif (x9 == false) then (ob (F70 u x4 x5 x0 x1 x2 x3) fun xA => (bif (xA == false) then (ob (F70 u x6 x7 x0 x1 x2 x3) fun xB => (bif xB then (some true) else (ob (F71 u x0 x1 x2 x3 x4 x5) fun xC => (ob (F88 u xC) fun xD => (ob (F71 u x0 x1 x2 x3 x6 x7) fun xE => (ob (F88 u xE) fun xF => (bif ((decide ((w64 (xD * xF)) < 0)) == true) then (ob (F71 u x4 x5 x6 x7 x0 x1) fun xG => (ob (F88 u xG) fun xH => (ob (F71 u x4 x5 x6 x7 x2 x3) fun xI => (ob (F88 u xI) fun xJ => (some (decide ((w64 (xH * xJ)) < 0))))))) else (some false)))))))) else (some true))) else (some true))) else (some true)))
theorem e82 : evalF (C55 u) u A96 [.agg [(vi i0),(vi i1)],.agg [(vi i2),(vi i3)],.agg [(vi i4),(vi i5)],.agg [(vi i6),(vi i7)]] = ob (F82 u i0 i1 i2 i3 i4 i5 i6 i7) fun t => some [.v (.b t)] := Eq.trans (b := (ob (F70 u i0 i1 i4 i5 i6 i7) fun x0 => (bif (x0 == false) then (ob (F70 u i2 i3 i4 i5 i6 i7) fun x1 => (bif (x1 == false) then (ob (F70 u i4 i5 i0 i1 i2 i3) fun x2 => (bif (x2 == false) then (ob (F70 u i6 i7 i0 i1 i2 i3) fun x3 => (bif x3 then (some [.v (.b true)]) else (ob (F71 u i0 i1 i2 i3 i4 i5) fun x4 => (ob (F88 u x4) fun x5 => (ob (F71 u i0 i1 i2 i3 i6 i7) fun x6 => (ob (F88 u x6) fun x7 => (bif ((decide ((w64 (x5 * x7)) < 0)) == true) then (ob (F71 u i4 i5 i6 i7 i0 i1) fun x8 => (ob (F88 u x8) fun x9 => (ob (F71 u i4 i5 i6 i7 i2 i3) fun xA => (ob (F88 u xA) fun xB => (some [.v (.b (decide ((w64 (x9 * xB)) < 0)))]))))) else (some [.v (.b false)])))))))) else (some [.v (.b true)]))) else (some [.v (.b true)]))) else (some [.v (.b true)])))) (by kernel_rfl) (by
 simp only [F82,ob_bif,ob_ob,ob_none,ob_some])
def O82 : Ora := mkO (qc (ag (tc ci (t1 ci))) (qc (ag (tc ci (t1 ci))) (qc (ag (tc ci (t1 ci))) (q1 (ag (tc ci (t1 ci))))))) (fun x => F82 u x.1.1 x.1.2 x.2.1.1 x.2.1.2 x.2.2.1.1 x.2.2.1.2 x.2.2.2.1 x.2.2.2.2) fun t => [.v (.b t)]
theorem d82 : DO (O82 u) (C55 u) 96 A96 := dO u (fun x => by exact e82 u x.1.1 x.1.2 x.2.1.1 x.2.1.2 x.2.2.1.1 x.2.2.1.2 x.2.2.2.1 x.2.2.2.2)
def C56 : Oracle := (C55 u).add 96 (fun _ => true) (O82 u)
def A88v1 : AC := (.region 7 [mv 21 5,o1 22 (bk .add 3 21 1),o1 5 (sg 22)] 0 none)
def A88v2 : AC := (.seq (.block 3
 (.seq (.region 8 [mv 23 0,mv 24 4,o1 25 (.indexAddr 47 41 2 (tm 23) (tm 24)),o1 26 (ln 41 2 25),mv 27 0,mv 28 5,o1 29 (.indexAddr 47 41 2 (tm 27) (tm 28)),o1 30 (ln 41 2 29),o1 31 (.eqA false kP 41 (tm 26) (tm 30) 41)] 0 (some [[],[],[0,1],[0,1,2],[],[],[4,5],[4,5,6],(rl 0 8 [])])) []
  (.cond (tm 31)
  (.seq (.region 9 [o1 2 (sb false)] 0 none) []
   (.ret (0 :: 1 :: (rl 3 91 []))))
  .skip))) (2 :: (rl 23 9 []))
 A88v1)
def A88v3 : AC := (.seq (.seq (.region 6 [mv 18 5,mv 19 4,o1 20 (bt .lss 3 18 19)] 0 none) []
 (.cond (tm 20)
 .skip
 (.exit 2 (1 :: 2 :: (rl 5 89 []))))) [18,19,20]
 A88v2)
def A88v4 : AC := (.region 4 [mv 16 4,o1 17 (bk .add 3 16 1),o1 4 (sg 17)] 0 none)
def A88v5 : AC := (.seq (.block 1
 (.seq (.region 5 [o1 5 (sk 0)] 0 none) []
  (.block 2
  (.loop [] (1 :: 2 :: (rl 6 88 []))
   A88v3)))) (2 :: 5 :: (rl 18 14 []))
 A88v4)
def A88v6 : AC := (.seq (.seq (.region 3 [mv 13 4,mv 14 3,o1 15 (bt .lss 3 13 14)] 0 none) []
 (.cond (tm 15)
 .skip
 (.exit 0 (1 :: 2 :: (rl 4 90 []))))) [13,14,15]
 A88v5)
def A88v7 : AC := (.region 18 [mv 70 10,o1 71 (bk .add 3 70 1),o1 10 (sg 71)] 0 none)
def A88v8 : AC := (.seq (.block 7
 (.seq (.region 19 [mv 72 10,o1 73 (bk .add 3 72 1),mv 74 3,o1 75 (bt .rem 3 73 74),mv 76 6,o1 77 (bt .neq 3 75 76),mv 78 77,og 79 (ln 41 2 7) 78 true,og 80 (ln 41 2 8) 78 true,og 81 (.move (tm 0)) 78 true,og 82 (.move (tm 10)) 78 true,og 83 (.indexAddr 47 41 2 (tm 81) (tm 82)) 78 true,og 84 (ln 41 2 83) 78 true,og 85 (.move (tm 0)) 78 true,og 86 (.move (tm 10)) 78 true,og 87 (bk .add 3 86 1) 78 true,og 88 (.move (tm 3)) 78 true,og 89 (bt .rem 3 87 88) 78 true,og 90 (.indexAddr 47 41 2 (tm 85) (tm 89)) 78 true,og 91 (ln 41 2 90) 78 true,og 92 (cs 96 [79,80,84,91] [41,41,41,41]) 78 true,o1 93 (po 78 92)] 0 (some [[],[0],[],[0,1,2],[],(rl 0 5 []),(rl 0 6 []),(rl 0 7 []),(rl 0 7 []),(rl 0 7 []),(rl 0 7 []),(rl 0 7 [9,10]),(rl 0 7 [9,10,11]),(rl 0 7 []),(rl 0 7 []),(rl 0 7 [14]),(rl 0 7 []),(rl 0 7 [14,15,16]),(rl 0 7 (rl 13 5 [])),(rl 0 7 (rl 13 6 [])),(rl 0 20 []),(rl 0 21 [])])) []
  (.cond (tm 93)
  (.seq (.region 20 [o1 2 (sb false)] 0 none) []
   (.ret (0 :: 1 :: (rl 3 91 []))))
  .skip))) (2 :: (rl 72 22 []))
 A88v7)
def A88v9 : AC := (.seq (.seq (.region 17 [mv 67 10,mv 68 3,o1 69 (bt .lss 3 67 68)] 0 none) []
 (.cond (tm 69)
 .skip
 (.exit 6 (1 :: 2 :: 4 :: 5 :: (rl 7 87 []))))) [67,68,69]
 A88v8)
def A88v10 : AC := (.seq (.region 16 [mv 65 6,o1 66 (bk .add 3 65 2),o1 10 (sg 66)] 0 none) []
 (.block 6
 (.loop [] (1 :: 2 :: 4 :: 5 :: 9 :: (rl 11 83 []))
  A88v9)))
def A88v11 : AC := (.region 12 [mv 35 6,o1 36 (bk .add 3 35 1),o1 6 (sg 36)] 0 none)
def A88v12 : AC := (.seq (.block 5
 (.seq (.region 13 [mv 37 0,mv 38 6,o1 39 (.indexAddr 47 41 2 (tm 37) (tm 38)),o1 40 (ln 41 2 39),mv 41 0,mv 42 6,o1 43 (bk .add 3 42 1),mv 44 3,o1 45 (bt .rem 3 43 44),o1 46 (.indexAddr 47 41 2 (tm 41) (tm 45)),o1 47 (ln 41 2 46),mv 48 0,mv 49 6,o1 50 (bk .add 3 49 2),mv 51 3,o1 52 (bt .rem 3 50 51),o1 53 (.indexAddr 47 41 2 (tm 48) (tm 52)),o1 54 (ln 41 2 53),o1 7 (.alloc 0 41 [vci 0,vci 0]),o1 8 (.alloc 1 41 [vci 0,vci 0]),o1 9 (.alloc 2 41 [vci 0,vci 0]),o0 (.store 41 2 (tm 7) (tm 40)),o0 (.store 41 2 (tm 8) (tm 47)),o0 (.store 41 2 (tm 9) (tm 54))] 3 (some [[],[],[0,1],[0,1,2],[],[],[5],[],[5,6,7],(rl 4 5 []),(rl 4 6 []),[],[],[12],[],[12,13,14],(rl 11 5 []),(rl 11 6 []),[],[],[],(rl 0 4 [18,19,20]),(rl 0 11 (rl 18 4 [])),(rl 0 23 [])])) []
  (.seq (.seq (.region 14 [o1 55 (ln 41 2 7),o1 56 (ln 41 2 8),o1 57 (ln 41 2 9),o1 58 (cs 91 [55,56,57] [41,41,41]),mv 59 58,og 60 (ln 41 2 9) 59 false,og 61 (ln 41 2 7) 59 false,og 62 (ln 41 2 8) 59 false,og 63 (cs 91 [60,61,62] [41,41,41]) 59 false,o1 64 (pa 59 63)] 0 none) []
  (.cond (tm 64)
  (.seq (.region 15 [o1 2 (sb false)] 0 none) []
   (.ret (0 :: 1 :: (rl 3 91 []))))
  .skip)) (2 :: (rl 55 10 []))
  A88v10))) (2 :: (rl 7 4 (rl 37 57 [])))
 A88v11)
def A88v13 : AC := (.seq (.seq (.region 11 [mv 32 6,mv 33 3,o1 34 (bt .lss 3 32 33)] 0 none) []
 (.cond (tm 34)
 .skip
 (.exit 4 (rl 0 94 [])))) [32,33,34]
 A88v12)
def A88v14 : AC := (.seq (.region 21 [o1 2 (sb true)] 0 none) []
 (.ret (0 :: 1 :: (rl 3 91 []))))
def A88v15 : AC := (.seq (.seq (.region 10 [o1 6 (sk 0)] 0 none) []
 (.block 4
 (.loop [] (1 :: 2 :: 4 :: 5 :: (rl 7 87 []))
  A88v13))) (2 :: (rl 6 5 (rl 32 62 [])))
 A88v14)
def A88 : AF := ⟨94,[.tmp 2],
 (.seq (.region 0 [o1 2 (sb false)] 0 none) []
 (.seq (.region 1 [mv 11 0,o1 12 (.len 47 false (tm 11)),o1 3 (sg 12)] 0 none) []
 (.seq (.seq (.region 2 [o1 4 (sk 0)] 0 none) []
 (.block 0
 (.loop [] (1 :: 2 :: (rl 5 89 []))
  A88v6))) (2 :: 4 :: 5 :: (rl 13 19 []))
 A88v15)))⟩
def N67v2 : St → Option St := nN 0 (1 :: 2 :: (rl 6 88 []))
def s67v0 : St := ⟨(.x (.c (ro kP n0 f0)) :: .u :: .u :: vxi i0 :: vxi i1 :: vxi i2 :: (us 88 [])),[]⟩
def s67v1 : St := ⟨(.u :: .u :: vxb false :: (us 91 [])),[]⟩
def s67v2 : St := ⟨(.x (.c (ro kP n0 f0)) :: .u :: .u :: vxi i0 :: vxi i1 :: (us 89 [])),[]⟩
def L67v2 {ρ : Type} (u : Nat) (x0 : Nat) (x1 : FF) (x2 x3 : Int) : Nat → Int → (Option ρ) → (Option ρ) → Option ρ
 | 0,_,_,_ => none
 | m + 1,x4,k0,k1 =>
  (bif (decide (x4 < x3)) then (bif (inb x3 x0) then (bif (inb x4 x0) then (bif (((x1 x3.toNat 0).int == (x1 x4.toNat 0).int) && (((x1 x3.toNat 1).int == (x1 x4.toNat 1).int) && true)) then k0 else (L67v2 u x0 x1 x2 x3 m (w64 (x4 + 1)) k0 k1)) else none) else none) else k1)
theorem nl67v2 : ∀ (m : Nat) (x0 : Int) (k0 : Option ρ) (k1 : Option ρ),ob (L67v2 u n0 f0 i0 i1 m x0 k0 k1) ng = L67v2 u n0 f0 i0 i1 m x0 (ob k0 ng) (ob k1 ng)
 | 0,_,_,_ => rfl
 | m + 1,x0,k0,k1 => by
  simp only [L67v2,ob_bif,ob_ob,ob_none,nl67v2 m]
theorem r67v2 :
  loopH (eB A88v3 (C56 u) u) N67v2 (m + 1) (s67v0 n0 f0 i0 i1 i2) k =
  (bif (decide (i2 < i1)) then (bif (inb i1 n0) then (bif (inb i2 n0) then (bif (((f0 i1.toNat 0).int == (f0 i2.toNat 0).int) && (((f0 i1.toNat 1).int == (f0 i2.toNat 1).int) && true)) then (k .ret s67v1) else (loopH (eB A88v3 (C56 u) u) N67v2 m (s67v0 n0 f0 i0 i1 (w64 (i2 + 1))) k)) else none) else none) else (k (.exit 2) (s67v2 n0 f0 i0 i1))) := by kernel_rfl
theorem q67v2 : ∀ (m : Nat) (x0 : Int),
  loopH (eB A88v3 (C56 u) u) N67v2 m (s67v0 n0 f0 i0 i1 x0) k = L67v2 u n0 f0 i0 i1 m x0 (k .ret s67v1) (k (.exit 2) (s67v2 n0 f0 i0 i1))
 | 0,_ => rfl
 | m + 1,x0 => by
  rw [r67v2]
  simp only [L67v2,q67v2 m]
def N67v3 : St → Option St := nN 0 (1 :: 2 :: (rl 5 89 []))
def s67v3 : St := ⟨(.x (.c (ro kP n0 f0)) :: .u :: .u :: vxi i0 :: vxi i1 :: (us 89 [])),[]⟩
def s67v4 : St := ⟨(.x (.c (ro kP n0 f0)) :: .u :: .u :: vxi i0 :: (us 90 [])),[]⟩
def L67v3 {ρ : Type} (u : Nat) (x0 : Nat) (x1 : FF) (x2 : Int) : Nat → Int → (Option ρ) → (Option ρ) → Option ρ
 | 0,_,_,_ => none
 | m + 1,x3,k0,k1 =>
  (bif (decide (x3 < x2)) then (L67v2 u x0 x1 x2 x3 u 0
  k0
  (L67v3 u x0 x1 x2 m (w64 (x3 + 1)) k0 k1)) else k1)
theorem nl67v3 : ∀ (m : Nat) (x0 : Int) (k0 : Option ρ) (k1 : Option ρ),ob (L67v3 u n0 f0 i0 m x0 k0 k1) ng = L67v3 u n0 f0 i0 m x0 (ob k0 ng) (ob k1 ng)
 | 0,_,_,_ => rfl
 | m + 1,x0,k0,k1 => by
  simp only [L67v3,ob_bif,ob_ob,ob_none,nl67v3 m,nl67v2]
def s67v5 : St := ⟨(.x (.c (ro kP n0 f0)) :: .u :: .u :: vxi i0 :: vxi i1 :: vxi 0 :: (us 88 [])),[]⟩
theorem r67v3 :
  loopH (eB A88v6 (C56 u) u) N67v3 (m + 1) (s67v3 n0 f0 i0 i1) k =
  (bif (decide (i1 < i0)) then (loopN (eB A88v3 (C56 u) u) N67v2 u (s67v5 n0 f0 i0 i1) (kBlk 2 (kBlk 1 (kSeq (C56 u) u (2 :: 5 :: (rl 18 14 [])) A88v4 (kLoop (eB A88v6 (C56 u) u) N67v3 m k))))) else (k (.exit 0) (s67v4 n0 f0 i0))) := by kernel_rfl
theorem t67v1 :
  loopN (eB A88v3 (C56 u) u) N67v2 u (s67v5 n0 f0 i0 i1) k =
  L67v2 u n0 f0 i0 i1 u 0 (k .ret s67v1) (k (.exit 2) (s67v2 n0 f0 i0 i1)) :=
 Eq.trans (loopN_at (by kernel_rfl)) (q67v2 ..)
theorem g67v2 :
  (kBlk 2 (kBlk 1 (kSeq (C56 u) u (2 :: 5 :: (rl 18 14 [])) A88v4 (kLoop (eB A88v6 (C56 u) u) N67v3 m k)))) .ret s67v1 =
  (k .ret s67v1) := by kernel_rfl
theorem g67v3 :
  (kBlk 2 (kBlk 1 (kSeq (C56 u) u (2 :: 5 :: (rl 18 14 [])) A88v4 (kLoop (eB A88v6 (C56 u) u) N67v3 m k)))) (.exit 2) (s67v2 n0 f0 i0 i1) =
  (loopH (eB A88v6 (C56 u) u) N67v3 m (s67v3 n0 f0 i0 (w64 (i1 + 1))) k) := by kernel_rfl
theorem q67v3 : ∀ (m : Nat) (x0 : Int),
  loopH (eB A88v6 (C56 u) u) N67v3 m (s67v3 n0 f0 i0 x0) k = L67v3 u n0 f0 i0 m x0 (k .ret s67v1) (k (.exit 0) (s67v4 n0 f0 i0))
 | 0,_ => rfl
 | m + 1,x0 => by
  rw [r67v3]
  simp only [L67v3,q67v3 m,t67v1,g67v2,g67v3]
def N67v5 : St → Option St := nN 3 (1 :: 2 :: 4 :: 5 :: 9 :: (rl 11 83 []))
def s67v6 : St := ⟨(.x (.c (ro kP n0 f0)) :: .u :: .u :: vxi i0 :: .u :: .u :: vxi i1 :: .x (.ptr 0 0) :: .x (.ptr 1 0) :: .u :: vxi i2 :: (us 83 [])),[.box [(vci i3),(vci i4)],.box [(vci i5),(vci i6)],.box [(vci i7),(vci i8)]]⟩
def s67v7 : St := ⟨(.u :: .u :: vxb false :: (us 91 [])),[.box [(vci i0),(vci i1)],.box [(vci i2),(vci i3)],.box [(vci i4),(vci i5)]]⟩
def s67v8 : St := ⟨(.x (.c (ro kP n0 f0)) :: .u :: .u :: vxi i0 :: .u :: .u :: vxi i1 :: (us 87 [])),[.box [(vci i2),(vci i3)],.box [(vci i4),(vci i5)],.box [(vci i6),(vci i7)]]⟩
def L67v5 {ρ : Type} (u : Nat) (x0 : Nat) (x1 : FF) (x2 x3 x4 x5 x6 x7 x8 x9 : Int) : Nat → Int → (Option ρ) → (Option ρ) → Option ρ
 | 0,_,_,_ => none
 | m + 1,xA,k0,k1 =>
  (bif (decide (xA < x2)) then (bif (x2 == 0) then none else (bif (((Int.tmod (w64 (xA + 1)) x2) != x3) == true) then (bif (inb xA x0) then (bif (x2 == 0) then none else (bif (inb (Int.tmod (w64 (xA + 1)) x2) x0) then (ob (F82 u x4 x5 x6 x7 (x1 xA.toNat 0).int (x1 xA.toNat 1).int (CV.int (x1 (Int.toNat (Int.tmod (w64 (xA + 1)) x2)) 0)) (CV.int (x1 (Int.toNat (Int.tmod (w64 (xA + 1)) x2)) 1))) fun xB => (bif xB then k0 else (L67v5 u x0 x1 x2 x3 x4 x5 x6 x7 x8 x9 m (w64 (xA + 1)) k0 k1))) else none)) else none) else (L67v5 u x0 x1 x2 x3 x4 x5 x6 x7 x8 x9 m (w64 (xA + 1)) k0 k1))) else k1)
theorem nl67v5 : ∀ (m : Nat) (x0 : Int) (k0 : Option ρ) (k1 : Option ρ),ob (L67v5 u n0 f0 i0 i1 i2 i3 i4 i5 i6 i7 m x0 k0 k1) ng = L67v5 u n0 f0 i0 i1 i2 i3 i4 i5 i6 i7 m x0 (ob k0 ng) (ob k1 ng)
 | 0,_,_,_ => rfl
 | m + 1,x0,k0,k1 => by
  simp only [L67v5,ob_bif,ob_ob,ob_none,nl67v5 m]
theorem r67v5 :
  loopH (eB A88v9 (C56 u) u) N67v5 (m + 1) (s67v6 n0 f0 i0 i1 i8 i2 i3 i4 i5 i6 i7) k =
  (bif (decide (i8 < i0)) then (bif (i0 == 0) then none else (bif (((Int.tmod (w64 (i8 + 1)) i0) != i1) == true) then (bif (inb i8 n0) then (bif (i0 == 0) then none else (bif (inb (Int.tmod (w64 (i8 + 1)) i0) n0) then (ob (F82 u i2 i3 i4 i5 (f0 i8.toNat 0).int (f0 i8.toNat 1).int (CV.int (f0 (Int.toNat (Int.tmod (w64 (i8 + 1)) i0)) 0)) (CV.int (f0 (Int.toNat (Int.tmod (w64 (i8 + 1)) i0)) 1))) fun x0 => (bif x0 then (k .ret (s67v7 i2 i3 i4 i5 i6 i7)) else (loopH (eB A88v9 (C56 u) u) N67v5 m (s67v6 n0 f0 i0 i1 (w64 (i8 + 1)) i2 i3 i4 i5 i6 i7) k))) else none)) else none) else (loopH (eB A88v9 (C56 u) u) N67v5 m (s67v6 n0 f0 i0 i1 (w64 (i8 + 1)) i2 i3 i4 i5 i6 i7) k))) else (k (.exit 6) (s67v8 n0 f0 i0 i1 i2 i3 i4 i5 i6 i7))) := by kernel_rfl
theorem q67v5 : ∀ (m : Nat) (x0 : Int),
  loopH (eB A88v9 (C56 u) u) N67v5 m (s67v6 n0 f0 i0 i1 x0 i2 i3 i4 i5 i6 i7) k = L67v5 u n0 f0 i0 i1 i2 i3 i4 i5 i6 i7 m x0 (k .ret (s67v7 i2 i3 i4 i5 i6 i7)) (k (.exit 6) (s67v8 n0 f0 i0 i1 i2 i3 i4 i5 i6 i7))
 | 0,_ => rfl
 | m + 1,x0 => by
  rw [r67v5]
  simp only [L67v5,q67v5 m]
def N67v6 : St → Option St := nN 0 (1 :: 2 :: 4 :: 5 :: (rl 7 87 []))
def s67v9 : St := ⟨(.x (.c (ro kP n0 f0)) :: .u :: .u :: vxi i0 :: .u :: .u :: vxi i1 :: (us 87 [])),[]⟩
def s67v10 : St := ⟨(.u :: .u :: vxb false :: (us 91 [])),[.box [(vci i0),(vci i1)],.box [(vci i2),(vci i3)],.box [(vci i4),(vci i5)]]⟩
def s67v11 : St := ⟨(us 94 []),[]⟩
def L67v6 {ρ : Type} (u : Nat) (x0 : Nat) (x1 : FF) (x2 : Int) : Nat → Int → (Int → Int → Int → Int → Int → Int → Option ρ) → (Option ρ) → Option ρ
 | 0,_,_,_ => none
 | m + 1,x3,k0,k1 =>
  (bif (decide (x3 < x2)) then (bif (inb x3 x0) then (bif (x2 == 0) then none else (bif (inb (Int.tmod (w64 (x3 + 1)) x2) x0) then (bif (x2 == 0) then none else (bif (inb (Int.tmod (w64 (x3 + 2)) x2) x0) then (ob (F70 u (x1 x3.toNat 0).int (x1 x3.toNat 1).int (CV.int (x1 (Int.toNat (Int.tmod (w64 (x3 + 1)) x2)) 0)) (CV.int (x1 (Int.toNat (Int.tmod (w64 (x3 + 1)) x2)) 1)) (CV.int (x1 (Int.toNat (Int.tmod (w64 (x3 + 2)) x2)) 0)) (CV.int (x1 (Int.toNat (Int.tmod (w64 (x3 + 2)) x2)) 1))) fun x4 => (bif (x4 == false) then (ob (F70 u (CV.int (x1 (Int.toNat (Int.tmod (w64 (x3 + 2)) x2)) 0)) (CV.int (x1 (Int.toNat (Int.tmod (w64 (x3 + 2)) x2)) 1)) (x1 x3.toNat 0).int (x1 x3.toNat 1).int (CV.int (x1 (Int.toNat (Int.tmod (w64 (x3 + 1)) x2)) 0)) (CV.int (x1 (Int.toNat (Int.tmod (w64 (x3 + 1)) x2)) 1))) fun x5 => (bif x5 then (k0 (x1 x3.toNat 0).int (x1 x3.toNat 1).int (CV.int (x1 (Int.toNat (Int.tmod (w64 (x3 + 1)) x2)) 0)) (CV.int (x1 (Int.toNat (Int.tmod (w64 (x3 + 1)) x2)) 1)) (CV.int (x1 (Int.toNat (Int.tmod (w64 (x3 + 2)) x2)) 0)) (CV.int (x1 (Int.toNat (Int.tmod (w64 (x3 + 2)) x2)) 1))) else (L67v5 u x0 x1 x2 x3 (x1 x3.toNat 0).int (x1 x3.toNat 1).int (CV.int (x1 (Int.toNat (Int.tmod (w64 (x3 + 1)) x2)) 0)) (CV.int (x1 (Int.toNat (Int.tmod (w64 (x3 + 1)) x2)) 1)) (CV.int (x1 (Int.toNat (Int.tmod (w64 (x3 + 2)) x2)) 0)) (CV.int (x1 (Int.toNat (Int.tmod (w64 (x3 + 2)) x2)) 1)) u (w64 (x3 + 2))
  (k0 (x1 x3.toNat 0).int (x1 x3.toNat 1).int (CV.int (x1 (Int.toNat (Int.tmod (w64 (x3 + 1)) x2)) 0)) (CV.int (x1 (Int.toNat (Int.tmod (w64 (x3 + 1)) x2)) 1)) (CV.int (x1 (Int.toNat (Int.tmod (w64 (x3 + 2)) x2)) 0)) (CV.int (x1 (Int.toNat (Int.tmod (w64 (x3 + 2)) x2)) 1)))
  (L67v6 u x0 x1 x2 m (w64 (x3 + 1)) k0 k1)))) else (k0 (x1 x3.toNat 0).int (x1 x3.toNat 1).int (CV.int (x1 (Int.toNat (Int.tmod (w64 (x3 + 1)) x2)) 0)) (CV.int (x1 (Int.toNat (Int.tmod (w64 (x3 + 1)) x2)) 1)) (CV.int (x1 (Int.toNat (Int.tmod (w64 (x3 + 2)) x2)) 0)) (CV.int (x1 (Int.toNat (Int.tmod (w64 (x3 + 2)) x2)) 1))))) else none)) else none)) else none) else k1)
theorem nl67v6 : ∀ (m : Nat) (x0 : Int) (k0 : Int → Int → Int → Int → Int → Int → Option ρ) (k1 : Option ρ),ob (L67v6 u n0 f0 i0 m x0 k0 k1) ng = L67v6 u n0 f0 i0 m x0 (fun x1 x2 x3 x4 x5 x6 => ob (k0 x1 x2 x3 x4 x5 x6) ng) (ob k1 ng)
 | 0,_,_,_ => rfl
 | m + 1,x0,k0,k1 => by
  simp only [L67v6,ob_bif,ob_ob,ob_none,nl67v6 m,nl67v5]
def s67v12 : St := ⟨(.x (.c (ro kP n0 f0)) :: .u :: .u :: vxi i0 :: .u :: .u :: vxi i1 :: .x (.ptr 0 0) :: .x (.ptr 1 0) :: .x (.ptr 2 0) :: vxi (w64 (i1 + 2)) :: (us 26 (.x (.c (ro kP n0 f0)) :: vxi i1 :: .x (.c (.rp kP (f0 i1.toNat))) :: .agg [(vci (f0 i1.toNat 0).int),(vci (f0 i1.toNat 1).int)] :: .x (.c (ro kP n0 f0)) :: vxi i1 :: vxi (w64 (i1 + 1)) :: vxi i0 :: vxi (Int.tmod (w64 (i1 + 1)) i0) :: .x (.c (.rp kP (f0 (Int.toNat (Int.tmod (w64 (i1 + 1)) i0))))) :: .agg [(vci (CV.int (f0 (Int.toNat (Int.tmod (w64 (i1 + 1)) i0)) 0))),(vci (CV.int (f0 (Int.toNat (Int.tmod (w64 (i1 + 1)) i0)) 1)))] :: .x (.c (ro kP n0 f0)) :: vxi i1 :: vxi (w64 (i1 + 2)) :: vxi i0 :: vxi (Int.tmod (w64 (i1 + 2)) i0) :: .x (.c (.rp kP (f0 (Int.toNat (Int.tmod (w64 (i1 + 2)) i0))))) :: .agg [(vci (CV.int (f0 (Int.toNat (Int.tmod (w64 (i1 + 2)) i0)) 0))),(vci (CV.int (f0 (Int.toNat (Int.tmod (w64 (i1 + 2)) i0)) 1)))] :: (us 10 (vxi i1 :: vxi (w64 (i1 + 2)) :: (us 27 [])))))),[.box [(vci (f0 i1.toNat 0).int),(vci (f0 i1.toNat 1).int)],.box [(vci (CV.int (f0 (Int.toNat (Int.tmod (w64 (i1 + 1)) i0)) 0))),(vci (CV.int (f0 (Int.toNat (Int.tmod (w64 (i1 + 1)) i0)) 1)))],.box [(vci (CV.int (f0 (Int.toNat (Int.tmod (w64 (i1 + 2)) i0)) 0))),(vci (CV.int (f0 (Int.toNat (Int.tmod (w64 (i1 + 2)) i0)) 1)))]]⟩
theorem r67v6 :
  loopH (eB A88v13 (C56 u) u) N67v6 (m + 1) (s67v9 n0 f0 i0 i1) k =
  (bif (decide (i1 < i0)) then (bif (inb i1 n0) then (bif (i0 == 0) then none else (bif (inb (Int.tmod (w64 (i1 + 1)) i0) n0) then (bif (i0 == 0) then none else (bif (inb (Int.tmod (w64 (i1 + 2)) i0) n0) then (ob (F70 u (f0 i1.toNat 0).int (f0 i1.toNat 1).int (CV.int (f0 (Int.toNat (Int.tmod (w64 (i1 + 1)) i0)) 0)) (CV.int (f0 (Int.toNat (Int.tmod (w64 (i1 + 1)) i0)) 1)) (CV.int (f0 (Int.toNat (Int.tmod (w64 (i1 + 2)) i0)) 0)) (CV.int (f0 (Int.toNat (Int.tmod (w64 (i1 + 2)) i0)) 1))) fun x0 => (bif (x0 == false) then (ob (F70 u (CV.int (f0 (Int.toNat (Int.tmod (w64 (i1 + 2)) i0)) 0)) (CV.int (f0 (Int.toNat (Int.tmod (w64 (i1 + 2)) i0)) 1)) (f0 i1.toNat 0).int (f0 i1.toNat 1).int (CV.int (f0 (Int.toNat (Int.tmod (w64 (i1 + 1)) i0)) 0)) (CV.int (f0 (Int.toNat (Int.tmod (w64 (i1 + 1)) i0)) 1))) fun x1 => (bif x1 then (k .ret (s67v10 (f0 i1.toNat 0).int (f0 i1.toNat 1).int (CV.int (f0 (Int.toNat (Int.tmod (w64 (i1 + 1)) i0)) 0)) (CV.int (f0 (Int.toNat (Int.tmod (w64 (i1 + 1)) i0)) 1)) (CV.int (f0 (Int.toNat (Int.tmod (w64 (i1 + 2)) i0)) 0)) (CV.int (f0 (Int.toNat (Int.tmod (w64 (i1 + 2)) i0)) 1)))) else (loopN (eB A88v9 (C56 u) u) N67v5 u (s67v12 n0 f0 i0 i1) (kBlk 6 (kBlk 5 (kSeq (C56 u) u (2 :: (rl 7 4 (rl 37 57 []))) A88v11 (kLoop (eB A88v13 (C56 u) u) N67v6 m k))))))) else (k .ret (s67v10 (f0 i1.toNat 0).int (f0 i1.toNat 1).int (CV.int (f0 (Int.toNat (Int.tmod (w64 (i1 + 1)) i0)) 0)) (CV.int (f0 (Int.toNat (Int.tmod (w64 (i1 + 1)) i0)) 1)) (CV.int (f0 (Int.toNat (Int.tmod (w64 (i1 + 2)) i0)) 0)) (CV.int (f0 (Int.toNat (Int.tmod (w64 (i1 + 2)) i0)) 1)))))) else none)) else none)) else none) else (k (.exit 4) s67v11)) := by kernel_rfl
theorem t67v4 :
  loopN (eB A88v9 (C56 u) u) N67v5 u (s67v12 n0 f0 i0 i1) k =
  L67v5 u n0 f0 i0 i1 (f0 i1.toNat 0).int (f0 i1.toNat 1).int (CV.int (f0 (Int.toNat (Int.tmod (w64 (i1 + 1)) i0)) 0)) (CV.int (f0 (Int.toNat (Int.tmod (w64 (i1 + 1)) i0)) 1)) (CV.int (f0 (Int.toNat (Int.tmod (w64 (i1 + 2)) i0)) 0)) (CV.int (f0 (Int.toNat (Int.tmod (w64 (i1 + 2)) i0)) 1)) u (w64 (i1 + 2)) (k .ret (s67v7 (f0 i1.toNat 0).int (f0 i1.toNat 1).int (CV.int (f0 (Int.toNat (Int.tmod (w64 (i1 + 1)) i0)) 0)) (CV.int (f0 (Int.toNat (Int.tmod (w64 (i1 + 1)) i0)) 1)) (CV.int (f0 (Int.toNat (Int.tmod (w64 (i1 + 2)) i0)) 0)) (CV.int (f0 (Int.toNat (Int.tmod (w64 (i1 + 2)) i0)) 1)))) (k (.exit 6) (s67v8 n0 f0 i0 i1 (f0 i1.toNat 0).int (f0 i1.toNat 1).int (CV.int (f0 (Int.toNat (Int.tmod (w64 (i1 + 1)) i0)) 0)) (CV.int (f0 (Int.toNat (Int.tmod (w64 (i1 + 1)) i0)) 1)) (CV.int (f0 (Int.toNat (Int.tmod (w64 (i1 + 2)) i0)) 0)) (CV.int (f0 (Int.toNat (Int.tmod (w64 (i1 + 2)) i0)) 1)))) :=
 Eq.trans (loopN_at (by kernel_rfl)) (q67v5 ..)
theorem g67v5 :
  (kBlk 6 (kBlk 5 (kSeq (C56 u) u (2 :: (rl 7 4 (rl 37 57 []))) A88v11 (kLoop (eB A88v13 (C56 u) u) N67v6 m k)))) .ret (s67v7 (f0 i0.toNat 0).int (f0 i0.toNat 1).int (CV.int (f0 (Int.toNat (Int.tmod (w64 (i0 + 1)) i1)) 0)) (CV.int (f0 (Int.toNat (Int.tmod (w64 (i0 + 1)) i1)) 1)) (CV.int (f0 (Int.toNat (Int.tmod (w64 (i0 + 2)) i1)) 0)) (CV.int (f0 (Int.toNat (Int.tmod (w64 (i0 + 2)) i1)) 1))) =
  (k .ret (s67v10 (f0 i0.toNat 0).int (f0 i0.toNat 1).int (CV.int (f0 (Int.toNat (Int.tmod (w64 (i0 + 1)) i1)) 0)) (CV.int (f0 (Int.toNat (Int.tmod (w64 (i0 + 1)) i1)) 1)) (CV.int (f0 (Int.toNat (Int.tmod (w64 (i0 + 2)) i1)) 0)) (CV.int (f0 (Int.toNat (Int.tmod (w64 (i0 + 2)) i1)) 1)))) := by kernel_rfl
theorem g67v6 :
  (kBlk 6 (kBlk 5 (kSeq (C56 u) u (2 :: (rl 7 4 (rl 37 57 []))) A88v11 (kLoop (eB A88v13 (C56 u) u) N67v6 m k)))) (.exit 6) (s67v8 n0 f0 i0 i1 (f0 i1.toNat 0).int (f0 i1.toNat 1).int (CV.int (f0 (Int.toNat (Int.tmod (w64 (i1 + 1)) i0)) 0)) (CV.int (f0 (Int.toNat (Int.tmod (w64 (i1 + 1)) i0)) 1)) (CV.int (f0 (Int.toNat (Int.tmod (w64 (i1 + 2)) i0)) 0)) (CV.int (f0 (Int.toNat (Int.tmod (w64 (i1 + 2)) i0)) 1))) =
  (loopH (eB A88v13 (C56 u) u) N67v6 m (s67v9 n0 f0 i0 (w64 (i1 + 1))) k) := by kernel_rfl
theorem q67v6 : ∀ (m : Nat) (x0 : Int),
  loopH (eB A88v13 (C56 u) u) N67v6 m (s67v9 n0 f0 i0 x0) k = L67v6 u n0 f0 i0 m x0 (fun x1 x2 x3 x4 x5 x6 => k .ret (s67v10 x1 x2 x3 x4 x5 x6)) (k (.exit 4) s67v11)
 | 0,_ => rfl
 | m + 1,x0 => by
  rw [r67v6]
  simp only [L67v6,q67v6 m,t67v4,g67v5,g67v6]
def F67 (x0 : Nat) (x1 : FF) : Option (Bool) :=
 (L67v3 u x0 x1 (Int.ofNat x0) u 0
  (some false)
  (L67v6 u x0 x1 (Int.ofNat x0) u 0
  (fun x2 x3 x4 x5 x6 x7 => (some false))
  (some true)))
def s67v13 : St := ⟨[.x (.c (ro kP n0 f0)),uu,vxb false,vxi (Int.ofNat n0),vxi 0,uu,uu,uu,uu,uu,uu,.x (.c (ro kP n0 f0)),vxi (Int.ofNat n0),uu,uu,uu,uu,uu,uu,uu,uu,uu,uu,uu,uu,uu,uu,uu,uu,uu,uu,uu,uu,uu,uu,uu,uu,uu,uu,uu,uu,uu,uu,uu,uu,uu,uu,uu,uu,uu,uu,uu,uu,uu,uu,uu,uu,uu,uu,uu,uu,uu,uu,uu,uu,uu,uu,uu,uu,uu,uu,uu,uu,uu,uu,uu,uu,uu,uu,uu,uu,uu,uu,uu,uu,uu,uu,uu,uu,uu,uu,uu,uu,uu],[]⟩
theorem t67v7 :
  loopN (eB A88v6 (C56 u) u) N67v3 u (s67v13 n0 f0) k =
  L67v3 u n0 f0 (Int.ofNat n0) u 0 (k .ret s67v1) (k (.exit 0) (s67v4 n0 f0 (Int.ofNat n0))) :=
 Eq.trans (loopN_at (by kernel_rfl)) (q67v3 ..)
theorem g67v8 :
  (kBlk 0 (kSeq (C56 u) u (2 :: 4 :: 5 :: (rl 13 19 [])) A88v15 (finish A88))) .ret s67v1 =
  (some [.v (.b false)]) := by kernel_rfl
def s67v14 : St := ⟨(.x (.c (ro kP n0 f0)) :: .u :: .u :: vxi (Int.ofNat n0) :: .u :: .u :: vxi 0 :: (us 87 [])),[]⟩
theorem g67v9 :
  (kBlk 0 (kSeq (C56 u) u (2 :: 4 :: 5 :: (rl 13 19 [])) A88v15 (finish A88))) (.exit 0) (s67v4 n0 f0 (Int.ofNat n0)) =
  (loopN (eB A88v13 (C56 u) u) N67v6 u (s67v14 n0 f0) (kBlk 4 (kSeq (C56 u) u (2 :: (rl 6 5 (rl 32 62 []))) A88v14 (finish A88)))) := by kernel_rfl
theorem t67v10 :
  loopN (eB A88v13 (C56 u) u) N67v6 u (s67v14 n0 f0) k =
  L67v6 u n0 f0 (Int.ofNat n0) u 0 (fun x0 x1 x2 x3 x4 x5 => k .ret (s67v10 x0 x1 x2 x3 x4 x5)) (k (.exit 4) s67v11) :=
 Eq.trans (loopN_at (by kernel_rfl)) (q67v6 ..)
theorem g67v11 :
  (kBlk 4 (kSeq (C56 u) u (2 :: (rl 6 5 (rl 32 62 []))) A88v14 (finish A88))) .ret (s67v10 i0 i1 i2 i3 i4 i5) =
  (some [.v (.b false)]) := by kernel_rfl
theorem g67v12 :
  (kBlk 4 (kSeq (C56 u) u (2 :: (rl 6 5 (rl 32 62 []))) A88v14 (finish A88))) (.exit 4) s67v11 =
  (some [.v (.b true)]) := by kernel_rfl
theorem e67 : evalF (C56 u) u A88 [.v (ro kP n0 f0)] = ob (F67 u n0 f0) fun t => some [.v (.b t)] := Eq.trans (b := (loopN (eB A88v6 (C56 u) u) N67v3 u (s67v13 n0 f0) (kBlk 0 (kSeq (C56 u) u (2 :: 4 :: 5 :: (rl 13 19 [])) A88v15 (finish A88))))) (by kernel_rfl) (by
 simp only [F67,ob_bif,ob_ob,ob_none,ob_some,nl67v3,nl67v6,t67v7,g67v8,g67v9,t67v10,g67v11,g67v12])
def O67 : Ora := mkO (q1 (av (cL kP))) (fun x => F67 u x.1 x.2) fun t => [.v (.b t)]
theorem d67 : DO (O67 u) (C56 u) 88 A88 := dO u (fun x => by exact e67 u x.1 x.2)
def C57 : Oracle := (C56 u).add 88 (fun _ => true) (O67 u)
def A77v1 : AC := (.seq (.region 9 [o1 2 (sk 0)] 0 none) []
 (.ret (0 :: 1 :: (rl 3 12 []))))
def A77v2 : AC := (.seq (.seq (.region 7 [mv 12 0,o1 13 (cs 88 [12] [47]),o1 14 (.unOp .not 4 (tm 13))] 0 none) []
 (.cond (tm 14)
 (.seq (.region 8 [o1 2 (sk 17)] 0 none) []
  (.ret (0 :: 1 :: (rl 3 12 []))))
 .skip)) [2,12,13,14]
 A77v1)
def A77v3 : AC := (.seq (.seq (.region 5 [mv 9 0,o1 10 (cs 87 [9] [47]),o1 11 (.unOp .not 4 (tm 10))] 0 none) []
 (.cond (tm 11)
 (.seq (.region 6 [o1 2 (sk 9)] 0 none) []
  (.ret (0 :: 1 :: (rl 3 12 []))))
 .skip)) [2,9,10,11]
 A77v2)
def A77v4 : AC := (.seq (.seq (.region 3 [mv 6 0,o1 7 (.len 47 false (tm 6)),o1 8 (bk .gtr 3 7 32)] 0 none) []
 (.cond (tm 8)
 (.seq (.region 4 [o1 2 (sk 4)] 0 none) []
  (.ret (0 :: 1 :: (rl 3 12 []))))
 .skip)) [2,6,7,8]
 A77v3)
def A77 : AF := ⟨15,[.tmp 2],
 (.seq (.region 0 [o1 2 (sk 0)] 0 none) []
 (.seq (.seq (.region 1 [mv 3 0,o1 4 (.len 47 false (tm 3)),o1 5 (bk .lss 3 4 3)] 0 none) []
 (.cond (tm 5)
 (.seq (.region 2 [o1 2 (sk 3)] 0 none) []
  (.ret (0 :: 1 :: (rl 3 12 []))))
 .skip)) (rl 2 4 [])
 A77v4))⟩
def F37 (x0 : Nat) (x1 : FF) : Option (Int) :=
 (bif (decide ((Int.ofNat x0) < 3)) then (some 3) else (bif (decide ((Int.ofNat x0) > 32)) then (some 4) else (ob (F66 u x0 x1) fun x2 => (bif (!x2) then (some 9) else (ob (F67 u x0 x1) fun x3 => (bif (!x3) then (some 17) else (some 0)))))))
theorem e37 : evalF (C57 u) u A77 [.v (ro kP n0 f0)] = ob (F37 u n0 f0) fun t => some [.v (vi t)] := Eq.trans (b := (bif (decide ((Int.ofNat n0) < 3)) then (some [.v (vi 3)]) else (bif (decide ((Int.ofNat n0) > 32)) then (some [.v (vi 4)]) else (ob (F66 u n0 f0) fun x0 => (bif (!x0) then (some [.v (vi 9)]) else (ob (F67 u n0 f0) fun x1 => (bif (!x1) then (some [.v (vi 17)]) else (some [.v (vi 0)])))))))) (by kernel_rfl) (by
 simp only [F37,ob_bif,ob_ob,ob_none,ob_some])
def O37 : Ora := mkO (q1 (av (cL kP))) (fun x => F37 u x.1 x.2) fun t => [.v (vi t)]
theorem d37 : DO (O37 u) (C57 u) 77 A77 := dO u (fun x => by exact e37 u x.1 x.2)
def C58 : Oracle := (C57 u).add 77 (fun _ => true) (O37 u)
def A65v1 : AC := (.seq (.block 1
 (.seq (.region 7 [mv 16 0,mv 17 4,o1 18 (.indexAddr 47 41 2 (tm 16) (tm 17)),o1 19 (ln 41 2 18),mv 20 0,mv 21 4,o1 22 (bk .add 3 21 1),mv 23 0,o1 24 (.len 47 false (tm 23)),o1 25 (bt .rem 3 22 24),o1 26 (.indexAddr 47 41 2 (tm 20) (tm 25)),o1 27 (ln 41 2 26),o1 5 (.alloc 0 41 [vci 0,vci 0]),o1 6 (.alloc 1 41 [vci 0,vci 0]),o0 (.store 41 2 (tm 5) (tm 19)),o0 (.store 41 2 (tm 6) (tm 27))] 2 (some [[],[],[0,1],[0,1,2],[],[],[5],[],[7],(rl 5 4 []),(rl 4 6 []),(rl 4 7 []),[],[],(rl 0 4 [12,13]),(rl 0 15 [])])) []
  (.region 8 [mv 28 3,o1 29 (fa 41 5 0 0),o1 30 (lo 3 29),o1 31 (fa 41 6 1 1),o1 32 (lo 3 31),o1 33 (bt .mul 3 30 32),o1 34 (bt .add 3 28 33),o1 35 (fa 41 5 1 1),o1 36 (lo 3 35),o1 37 (fa 41 6 0 0),o1 38 (lo 3 37),o1 39 (bt .mul 3 36 38),o1 40 (bt .sub 3 34 39),o1 3 (sg 40)] 0 none))) []
 (.region 6 [mv 14 4,o1 15 (bk .add 3 14 1),o1 4 (sg 15)] 0 none))
def A65v2 : AC := (.seq (.seq (.region 5 [mv 10 4,mv 11 0,o1 12 (.len 47 false (tm 11)),o1 13 (bt .lss 3 10 12)] 0 none) []
 (.cond (tm 13)
 .skip
 (.exit 0 (0 :: 1 :: 2 :: (rl 4 38 []))))) (rl 10 4 [])
 A65v1)
def A65v3 : AC := (.seq (.region 9 [mv 41 3,o1 2 (sg 41)] 0 none) []
 (.ret (0 :: 1 :: (rl 3 39 []))))
def A65v4 : AC := (.seq (.region 3 [o1 3 (sk 0)] 0 none) []
 (.seq (.seq (.region 4 [o1 4 (sk 0)] 0 none) []
 (.block 0
 (.loop [] (1 :: 2 :: (rl 5 37 []))
  A65v2))) (4 :: 5 :: 6 :: (rl 10 31 []))
 A65v3))
def A65 : AF := ⟨42,[.tmp 2],
 (.seq (.region 0 [o1 2 (sk 0)] 0 none) []
 (.seq (.seq (.region 1 [mv 7 0,o1 8 (cs 77 [7] [47]),o1 9 (bk .neq 31 8 0)] 0 none) []
 (.cond (tm 9)
 (.seq (.region 2 [o1 2 (sk 0)] 0 none) []
  (.ret (0 :: 1 :: (rl 3 39 []))))
 .skip)) [2,7,8,9]
 A65v4))⟩
def N38v1 : St → Option St := nN 0 (1 :: 2 :: (rl 5 37 []))
def s38v0 : St := ⟨(.x (.c (ro kP n0 f0)) :: .u :: .u :: vxi i0 :: vxi i1 :: (us 37 [])),[]⟩
def s38v1 : St := ⟨(us 3 (vxi i0 :: (us 38 []))),[]⟩
def L38v1 {ρ : Type} (u : Nat) (x0 : Nat) (x1 : FF) : Nat → Int → Int → (Int → Option ρ) → Option ρ
 | 0,_,_,_ => none
 | m + 1,x2,x3,k0 =>
  (bif (decide (x3 < (Int.ofNat x0))) then (bif (inb x3 x0) then (bif ((Int.ofNat x0) == 0) then none else (bif (inb (Int.tmod (w64 (x3 + 1)) (Int.ofNat x0)) x0) then (L38v1 u x0 x1 m (w64 ((w64 (x2 + (w64 ((x1 x3.toNat 0).int * (CV.int (x1 (Int.toNat (Int.tmod (w64 (x3 + 1)) (Int.ofNat x0))) 1)))))) - (w64 ((x1 x3.toNat 1).int * (CV.int (x1 (Int.toNat (Int.tmod (w64 (x3 + 1)) (Int.ofNat x0))) 0)))))) (w64 (x3 + 1)) k0) else none)) else none) else (k0 x2))
theorem nl38v1 : ∀ (m : Nat) (x0 x1 : Int) (k0 : Int → Option ρ),ob (L38v1 u n0 f0 m x0 x1 k0) ng = L38v1 u n0 f0 m x0 x1 (fun x2 => ob (k0 x2) ng)
 | 0,_,_,_ => rfl
 | m + 1,x0,x1,k0 => by
  simp only [L38v1,ob_bif,ob_ob,ob_none,nl38v1 m]
theorem r38v1 :
  loopH (eB A65v2 (C58 u) u) N38v1 (m + 1) (s38v0 n0 f0 i0 i1) k =
  (bif (decide (i1 < (Int.ofNat n0))) then (bif (inb i1 n0) then (bif ((Int.ofNat n0) == 0) then none else (bif (inb (Int.tmod (w64 (i1 + 1)) (Int.ofNat n0)) n0) then (loopH (eB A65v2 (C58 u) u) N38v1 m (s38v0 n0 f0 (w64 ((w64 (i0 + (w64 ((f0 i1.toNat 0).int * (CV.int (f0 (Int.toNat (Int.tmod (w64 (i1 + 1)) (Int.ofNat n0))) 1)))))) - (w64 ((f0 i1.toNat 1).int * (CV.int (f0 (Int.toNat (Int.tmod (w64 (i1 + 1)) (Int.ofNat n0))) 0)))))) (w64 (i1 + 1))) k) else none)) else none) else (k (.exit 0) (s38v1 i0))) := by kernel_rfl
theorem q38v1 : ∀ (m : Nat) (x0 x1 : Int),
  loopH (eB A65v2 (C58 u) u) N38v1 m (s38v0 n0 f0 x0 x1) k = L38v1 u n0 f0 m x0 x1 (fun x2 => k (.exit 0) (s38v1 x2))
 | 0,_,_ => rfl
 | m + 1,x0,x1 => by
  rw [r38v1]
  simp only [L38v1,q38v1 m]
def F38 (x0 : Nat) (x1 : FF) : Option (Int) :=
 (ob (F37 u x0 x1) fun x2 => (bif (x2 != 0) then (some 0) else (L38v1 u x0 x1 u 0 0
  (fun x3 => (some x3)))))
def s38v2 : St := ⟨(.x (.c (ro kP n0 f0)) :: uu :: .u :: vxi 0 :: vxi 0 :: uu :: uu :: (us 3 [uu,uu,uu,uu,uu,uu,uu,uu,uu,uu,uu,uu,uu,uu,uu,uu,uu,uu,uu,uu,uu,uu,uu,uu,uu,uu,uu,uu,uu,uu,uu,uu])),[]⟩
theorem t38v1 :
  loopN (eB A65v2 (C58 u) u) N38v1 u (s38v2 n0 f0) k =
  L38v1 u n0 f0 u 0 0 (fun x0 => k (.exit 0) (s38v1 x0)) :=
 Eq.trans (loopN_at (by kernel_rfl)) (q38v1 ..)
theorem g38v2 :
  (kBlk 0 (kSeq (C58 u) u (4 :: 5 :: 6 :: (rl 10 31 [])) A65v3 (finish A65))) (.exit 0) (s38v1 i0) =
  (some [.v (vi i0)]) := by kernel_rfl
theorem e38 : evalF (C58 u) u A65 [.v (ro kP n0 f0)] = ob (F38 u n0 f0) fun t => some [.v (vi t)] := Eq.trans (b := (ob (F37 u n0 f0) fun x0 => (bif (x0 != 0) then (some [.v (vi 0)]) else (loopN (eB A65v2 (C58 u) u) N38v1 u (s38v2 n0 f0) (kBlk 0 (kSeq (C58 u) u (4 :: 5 :: 6 :: (rl 10 31 [])) A65v3 (finish A65))))))) (by kernel_rfl) (by
 simp only [F38,ob_bif,ob_ob,ob_none,ob_some,nl38v1,t38v1,g38v2])
def O38 : Ora := mkO (q1 (av (cL kP))) (fun x => F38 u x.1 x.2) fun t => [.v (vi t)]
theorem d38 : DO (O38 u) (C58 u) 65 A65 := dO u (fun x => by exact e38 u x.1 x.2)
def C59 : Oracle := (C58 u).add 65 (fun _ => true) (O38 u)
def A98v1 : AC := (.seq (.region 6 [o1 6 (sk 0)] 0 none) []
 (.ret (rl 0 6 (rl 7 28 []))))
def A98v2 : AC := (.seq (.seq (.region 4 [mv 33 7,o1 34 (bk .lss 3 33 0)] 0 none) []
 (.cond (tm 34)
 (.seq (.region 5 [o1 6 (sk (-1))] 0 none) []
  (.ret (rl 0 6 (rl 7 28 []))))
 .skip)) [6,33,34]
 A98v1)
def A98 : AF := ⟨35,[.tmp 6],
 (.seq (.region 0 [o1 3 (bx 0 41 0),o1 4 (bx 1 41 1),o1 5 (bx 2 41 2),o1 6 (sk 0)] 3 none) []
 (.seq (.region 1 [o1 8 (fa 41 4 0 0),o1 9 (lo 3 8),o1 10 (fa 41 3 0 0),o1 11 (lo 3 10),o1 12 (bt .sub 3 9 11),o1 13 (fa 41 5 1 1),o1 14 (lo 3 13),o1 15 (fa 41 3 1 1),o1 16 (lo 3 15),o1 17 (bt .sub 3 14 16),o1 18 (bt .mul 3 12 17),o1 19 (fa 41 4 1 1),o1 20 (lo 3 19),o1 21 (fa 41 3 1 1),o1 22 (lo 3 21),o1 23 (bt .sub 3 20 22),o1 24 (fa 41 5 0 0),o1 25 (lo 3 24),o1 26 (fa 41 3 0 0),o1 27 (lo 3 26),o1 28 (bt .sub 3 25 27),o1 29 (bt .mul 3 23 28),o1 30 (bt .sub 3 18 29),o1 7 (sg 30)] 0 none) []
 (.seq (.seq (.region 2 [mv 31 7,o1 32 (bk .gtr 3 31 0)] 0 none) []
 (.cond (tm 32)
 (.seq (.region 3 [o1 6 (sk 1)] 0 none) []
  (.ret (rl 0 6 (rl 7 28 []))))
 .skip)) [6,31,32]
 A98v2)))⟩
def F84 (u : Nat) (x0 x1 x2 x3 x4 x5 : Int) : Option (Int) :=
 (bif (decide ((w64 ((w64 ((w64 (x2 - x0)) * (w64 (x5 - x1)))) - (w64 ((w64 (x3 - x1)) * (w64 (x4 - x0)))))) > 0)) then (some 1) else (bif (decide ((w64 ((w64 ((w64 (x2 - x0)) * (w64 (x5 - x1)))) - (w64 ((w64 (x3 - x1)) * (w64 (x4 - x0)))))) < 0)) then (some (-1)) else (some 0)))
theorem e84 : evalF (C59 u) u A98 [.agg [(vi i0),(vi i1)],.agg [(vi i2),(vi i3)],.agg [(vi i4),(vi i5)]] = ob (F84 u i0 i1 i2 i3 i4 i5) fun t => some [.v (vi t)] := Eq.trans (b := (bif (decide ((w64 ((w64 ((w64 (i2 - i0)) * (w64 (i5 - i1)))) - (w64 ((w64 (i3 - i1)) * (w64 (i4 - i0)))))) > 0)) then (some [.v (vi 1)]) else (bif (decide ((w64 ((w64 ((w64 (i2 - i0)) * (w64 (i5 - i1)))) - (w64 ((w64 (i3 - i1)) * (w64 (i4 - i0)))))) < 0)) then (some [.v (vi (-1))]) else (some [.v (vi 0)])))) (by kernel_rfl) (by
 simp only [F84,ob_bif,ob_ob,ob_none,ob_some])
def O84 : Ora := mkO (qc (ag (tc ci (t1 ci))) (qc (ag (tc ci (t1 ci))) (q1 (ag (tc ci (t1 ci)))))) (fun x => F84 u x.1.1 x.1.2 x.2.1.1 x.2.1.2 x.2.2.1 x.2.2.2) fun t => [.v (vi t)]
theorem d84 : DO (O84 u) (C59 u) 98 A98 := dO u (fun x => by exact e84 u x.1.1 x.1.2 x.2.1.1 x.2.1.2 x.2.2.1 x.2.2.2)
def C60 : Oracle := (C59 u).add 98 (fun _ => true) (O84 u)
def A97 : AF := ⟨52,[.tmp 6],
 (.seq (.region 0 [o1 3 (bx 0 41 0),o1 4 (bx 1 41 1),o1 5 (bx 2 41 2),o1 6 (sb false)] 3 none) []
 (.seq (.region 1 [o1 7 (ln 41 2 3),o1 8 (ln 41 2 4),o1 9 (ln 41 2 5),o1 10 (cs 98 [7,8,9] [41,41,41]),o1 11 (bk .eql 3 10 0),mv 12 11,og 13 (fa 41 5 0 0) 12 true,og 14 (lo 3 13) 12 true,og 15 (fa 41 3 0 0) 12 true,og 16 (lo 3 15) 12 true,og 17 (fa 41 4 0 0) 12 true,og 18 (lo 3 17) 12 true,og 19 (.mm false [(tm 16),(tm 18)] [3,3]) 12 true,og 20 (bt .geq 3 14 19) 12 true,o1 21 (po 12 20),mv 22 21,og 23 (fa 41 5 0 0) 22 true,og 24 (lo 3 23) 22 true,og 25 (fa 41 3 0 0) 22 true,og 26 (lo 3 25) 22 true,og 27 (fa 41 4 0 0) 22 true,og 28 (lo 3 27) 22 true,og 29 (.mm true [(tm 26),(tm 28)] [3,3]) 22 true,og 30 (bt .leq 3 24 29) 22 true,o1 31 (po 22 30),mv 32 31,og 33 (fa 41 5 1 1) 32 true,og 34 (lo 3 33) 32 true,og 35 (fa 41 3 1 1) 32 true,og 36 (lo 3 35) 32 true,og 37 (fa 41 4 1 1) 32 true,og 38 (lo 3 37) 32 true,og 39 (.mm false [(tm 36),(tm 38)] [3,3]) 32 true,og 40 (bt .geq 3 34 39) 32 true,o1 41 (po 32 40),mv 42 41,og 43 (fa 41 5 1 1) 42 true,og 44 (lo 3 43) 42 true,og 45 (fa 41 3 1 1) 42 true,og 46 (lo 3 45) 42 true,og 47 (fa 41 4 1 1) 42 true,og 48 (lo 3 47) 42 true,og 49 (.mm true [(tm 46),(tm 48)] [3,3]) 42 true,og 50 (bt .leq 3 44 49) 42 true,o1 51 (po 42 50),o1 6 (sg 51)] 0 none) []
 (.ret (rl 0 6 (rl 7 45 [])))))⟩
def F83 (x0 x1 x2 x3 x4 x5 : Int) : Option (Bool) :=
 (ob (F84 u x0 x1 x2 x3 x4 x5) fun x6 => (bif ((x6 == 0) == true) then (bif ((decide (x4 ≥ (if x2 < x0 then x2 else x0))) == true) then (bif ((decide (x4 ≤ (if x2 > x0 then x2 else x0))) == true) then (bif ((decide (x5 ≥ (if x3 < x1 then x3 else x1))) == true) then (some (decide (x5 ≤ (if x3 > x1 then x3 else x1)))) else (some false)) else (some false)) else (some false)) else (some false)))
theorem e83 : evalF (C60 u) u A97 [.agg [(vi i0),(vi i1)],.agg [(vi i2),(vi i3)],.agg [(vi i4),(vi i5)]] = ob (F83 u i0 i1 i2 i3 i4 i5) fun t => some [.v (.b t)] := Eq.trans (b := (ob (F84 u i0 i1 i2 i3 i4 i5) fun x0 => (bif ((x0 == 0) == true) then (bif ((decide (i4 ≥ (if i2 < i0 then i2 else i0))) == true) then (bif ((decide (i4 ≤ (if i2 > i0 then i2 else i0))) == true) then (bif ((decide (i5 ≥ (if i3 < i1 then i3 else i1))) == true) then (some [.v (.b (decide (i5 ≤ (if i3 > i1 then i3 else i1))))]) else (some [.v (.b false)])) else (some [.v (.b false)])) else (some [.v (.b false)])) else (some [.v (.b false)])))) (by kernel_rfl) (by
 simp only [F83,ob_bif,ob_ob,ob_none,ob_some])
def O83 : Ora := mkO (qc (ag (tc ci (t1 ci))) (qc (ag (tc ci (t1 ci))) (q1 (ag (tc ci (t1 ci)))))) (fun x => F83 u x.1.1 x.1.2 x.2.1.1 x.2.1.2 x.2.2.1 x.2.2.2) fun t => [.v (.b t)]
theorem d83 : DO (O83 u) (C60 u) 97 A97 := dO u (fun x => by exact e83 u x.1.1 x.1.2 x.2.1.1 x.2.1.2 x.2.2.1 x.2.2.2)
def C61 : Oracle := (C60 u).add 97 (fun _ => true) (O83 u)
def A89v1 : AC := (.seq (.region 3 [o1 31 (ln 41 2 4),o1 32 (ln 41 2 5),o1 33 (ln 41 2 6),o1 34 (cs 98 [31,32,33] [41,41,41]),o1 35 (ln 41 2 4),o1 36 (ln 41 2 5),o1 37 (ln 41 2 7),o1 38 (cs 98 [35,36,37] [41,41,41]),o1 39 (bt .mul 3 34 38),o1 40 (bk .lss 3 39 0),mv 41 40,og 42 (ln 41 2 6) 41 true,og 43 (ln 41 2 7) 41 true,og 44 (ln 41 2 4) 41 true,og 45 (cs 98 [42,43,44] [41,41,41]) 41 true,og 46 (ln 41 2 6) 41 true,og 47 (ln 41 2 7) 41 true,og 48 (ln 41 2 5) 41 true,og 49 (cs 98 [46,47,48] [41,41,41]) 41 true,og 50 (bt .mul 3 45 49) 41 true,og 51 (bk .lss 3 50 0) 41 true,o1 52 (po 41 51),o1 8 (sg 52)] 0 (some [[],[],[],[0,1,2],[],[],[],(rl 0 7 []),(rl 0 8 []),(rl 0 9 []),(rl 0 10 []),(rl 0 11 []),(rl 0 11 []),(rl 0 11 []),(rl 0 14 []),(rl 0 11 []),(rl 0 11 []),(rl 0 11 []),(rl 0 18 []),(rl 0 19 []),(rl 0 20 []),(rl 0 21 []),(rl 0 22 [])])) []
 (.ret (rl 0 8 (rl 9 44 []))))
def A89 : AF := ⟨53,[.tmp 8],
 (.seq (.region 0 [o1 4 (bx 0 41 0),o1 5 (bx 1 41 1),o1 6 (bx 2 41 2),o1 7 (bx 3 41 3),o1 8 (sb false)] 4 none) []
 (.seq (.seq (.region 1 [o1 9 (ln 41 2 4),o1 10 (ln 41 2 5),o1 11 (ln 41 2 6),o1 12 (cs 97 [9,10,11] [41,41,41]),mv 13 12,og 14 (ln 41 2 4) 13 false,og 15 (ln 41 2 5) 13 false,og 16 (ln 41 2 7) 13 false,og 17 (cs 97 [14,15,16] [41,41,41]) 13 false,o1 18 (pa 13 17),mv 19 18,og 20 (ln 41 2 6) 19 false,og 21 (ln 41 2 7) 19 false,og 22 (ln 41 2 4) 19 false,og 23 (cs 97 [20,21,22] [41,41,41]) 19 false,o1 24 (pa 19 23),mv 25 24,og 26 (ln 41 2 6) 25 false,og 27 (ln 41 2 7) 25 false,og 28 (ln 41 2 5) 25 false,og 29 (cs 97 [26,27,28] [41,41,41]) 25 false,o1 30 (pa 25 29)] 0 none) []
 (.cond (tm 30)
 (.seq (.region 2 [o1 8 (sb true)] 0 none) []
  (.ret (rl 0 8 (rl 9 44 []))))
 .skip)) (rl 8 23 [])
 A89v1))⟩
def F68 (x0 x1 x2 x3 x4 x5 x6 x7 : Int) : Option (Bool) :=
 (ob (F83 u x0 x1 x2 x3 x4 x5) fun x8 => (bif (x8 == false) then (ob (F83 u x0 x1 x2 x3 x6 x7) fun x9 => (bif (x9 == false) then (ob (F83 u x4 x5 x6 x7 x0 x1) fun xA => (bif (xA == false) then (ob (F83 u x4 x5 x6 x7 x2 x3) fun xB => (bif xB then (some true) else (ob (F84 u x0 x1 x2 x3 x4 x5) fun xC => (ob (F84 u x0 x1 x2 x3 x6 x7) fun xD => (bif ((decide ((w64 (xC * xD)) < 0)) == true) then (ob (F84 u x4 x5 x6 x7 x0 x1) fun xE => (ob (F84 u x4 x5 x6 x7 x2 x3) fun xF => (some (decide ((w64 (xE * xF)) < 0))))) else (some false)))))) else (some true))) else (some true))) else (some true)))
theorem e68 : evalF (C61 u) u A89 [.agg [(vi i0),(vi i1)],.agg [(vi i2),(vi i3)],.agg [(vi i4),(vi i5)],.agg [(vi i6),(vi i7)]] = ob (F68 u i0 i1 i2 i3 i4 i5 i6 i7) fun t => some [.v (.b t)] := Eq.trans (b := (ob (F83 u i0 i1 i2 i3 i4 i5) fun x0 => (bif (x0 == false) then (ob (F83 u i0 i1 i2 i3 i6 i7) fun x1 => (bif (x1 == false) then (ob (F83 u i4 i5 i6 i7 i0 i1) fun x2 => (bif (x2 == false) then (ob (F83 u i4 i5 i6 i7 i2 i3) fun x3 => (bif x3 then (some [.v (.b true)]) else (ob (F84 u i0 i1 i2 i3 i4 i5) fun x4 => (ob (F84 u i0 i1 i2 i3 i6 i7) fun x5 => (bif ((decide ((w64 (x4 * x5)) < 0)) == true) then (ob (F84 u i4 i5 i6 i7 i0 i1) fun x6 => (ob (F84 u i4 i5 i6 i7 i2 i3) fun x7 => (some [.v (.b (decide ((w64 (x6 * x7)) < 0)))]))) else (some [.v (.b false)])))))) else (some [.v (.b true)]))) else (some [.v (.b true)]))) else (some [.v (.b true)])))) (by kernel_rfl) (by
 simp only [F68,ob_bif,ob_ob,ob_none,ob_some])
def O68 : Ora := mkO (qc (ag (tc ci (t1 ci))) (qc (ag (tc ci (t1 ci))) (qc (ag (tc ci (t1 ci))) (q1 (ag (tc ci (t1 ci))))))) (fun x => F68 u x.1.1 x.1.2 x.2.1.1 x.2.1.2 x.2.2.1.1 x.2.2.1.2 x.2.2.2.1 x.2.2.2.2) fun t => [.v (.b t)]
theorem d68 : DO (O68 u) (C61 u) 89 A89 := dO u (fun x => by exact e68 u x.1.1 x.1.2 x.2.1.1 x.2.1.2 x.2.2.1.1 x.2.2.1.2 x.2.2.2.1 x.2.2.2.2)
def C62 : Oracle := (C61 u).add 89 (fun _ => true) (O68 u)
def A78v1 : AC := (.region 6 [mv 17 6,o1 18 (bk .add 3 17 1),o1 6 (sg 18)] 0 none)
def A78v2 : AC := (.seq (.block 3
 (.seq (.region 7 [mv 19 0,mv 20 5,o1 21 (.indexAddr 47 41 2 (tm 19) (tm 20)),o1 22 (ln 41 2 21),mv 23 0,mv 24 5,o1 25 (bk .add 3 24 1),mv 26 0,o1 27 (.len 47 false (tm 26)),o1 28 (bt .rem 3 25 27),o1 29 (.indexAddr 47 41 2 (tm 23) (tm 28)),o1 30 (ln 41 2 29),mv 31 1,mv 32 6,o1 33 (.indexAddr 47 41 2 (tm 31) (tm 32)),o1 34 (ln 41 2 33),mv 35 1,mv 36 6,o1 37 (bk .add 3 36 1),mv 38 1,o1 39 (.len 47 false (tm 38)),o1 40 (bt .rem 3 37 39),o1 41 (.indexAddr 47 41 2 (tm 35) (tm 40)),o1 42 (ln 41 2 41),o1 43 (cs 89 [22,30,34,42] [41,41,41,41])] 0 (some [[],[],[0,1],[0,1,2],[],[],[5],[],[7],(rl 5 4 []),(rl 4 6 []),(rl 4 7 []),[],[],[12,13],[12,13,14],[],[],[17],[],[19],(rl 17 4 []),(rl 16 6 []),(rl 16 7 []),(rl 0 24 [])])) []
  (.cond (tm 43)
  (.seq (.region 8 [o1 4 (sb true)] 0 none) []
   (.ret (rl 0 4 (rl 5 39 []))))
  .skip))) (4 :: (rl 19 25 []))
 A78v1)
def A78v3 : AC := (.seq (.seq (.region 5 [mv 13 6,mv 14 1,o1 15 (.len 47 false (tm 14)),o1 16 (bt .lss 3 13 15)] 0 none) []
 (.cond (tm 16)
 .skip
 (.exit 2 (2 :: 3 :: 4 :: (rl 6 38 []))))) (rl 13 4 [])
 A78v2)
def A78v4 : AC := (.region 3 [mv 11 5,o1 12 (bk .add 3 11 1),o1 5 (sg 12)] 0 none)
def A78v5 : AC := (.seq (.block 1
 (.seq (.region 4 [o1 6 (sk 0)] 0 none) []
  (.block 2
  (.loop [] (2 :: 3 :: 4 :: (rl 7 37 []))
   A78v3)))) (4 :: 6 :: (rl 13 31 []))
 A78v4)
def A78v6 : AC := (.seq (.seq (.region 2 [mv 7 5,mv 8 0,o1 9 (.len 47 false (tm 8)),o1 10 (bt .lss 3 7 9)] 0 none) []
 (.cond (tm 10)
 .skip
 (.exit 0 (rl 0 44 [])))) (rl 7 4 [])
 A78v5)
def A78v7 : AC := (.seq (.region 9 [o1 4 (sb false)] 0 none) []
 (.ret (rl 0 4 (rl 5 39 []))))
def A78 : AF := ⟨44,[.tmp 4],
 (.seq (.region 0 [o1 4 (sb false)] 0 none) []
 (.seq (.seq (.region 1 [o1 5 (sk 0)] 0 none) []
 (.block 0
 (.loop [] (2 :: 3 :: 4 :: (rl 6 38 []))
  A78v6))) (rl 4 40 [])
 A78v7))⟩
def N39v2 : St → Option St := nN 0 (2 :: 3 :: 4 :: (rl 7 37 []))
def s39v0 : St := ⟨(.x (.c (ro kP n0 f0)) :: .x (.c (ro kP n1 f1)) :: (us 3 (vxi i0 :: vxi i1 :: (us 37 [])))),[]⟩
def s39v1 : St := ⟨(us 4 (vxb true :: (us 39 []))),[]⟩
def s39v2 : St := ⟨(.x (.c (ro kP n0 f0)) :: .x (.c (ro kP n1 f1)) :: (us 3 (vxi i0 :: (us 38 [])))),[]⟩
def L39v2 {ρ : Type} (u : Nat) (x0 : Nat) (x1 : FF) (x2 : Nat) (x3 : FF) (x4 : Int) : Nat → Int → (Option ρ) → (Option ρ) → Option ρ
 | 0,_,_,_ => none
 | m + 1,x5,k0,k1 =>
  (bif (decide (x5 < (Int.ofNat x2))) then (bif (inb x4 x0) then (bif ((Int.ofNat x0) == 0) then none else (bif (inb (Int.tmod (w64 (x4 + 1)) (Int.ofNat x0)) x0) then (bif (inb x5 x2) then (bif ((Int.ofNat x2) == 0) then none else (bif (inb (Int.tmod (w64 (x5 + 1)) (Int.ofNat x2)) x2) then (ob (F68 u (x1 x4.toNat 0).int (x1 x4.toNat 1).int (CV.int (x1 (Int.toNat (Int.tmod (w64 (x4 + 1)) (Int.ofNat x0))) 0)) (CV.int (x1 (Int.toNat (Int.tmod (w64 (x4 + 1)) (Int.ofNat x0))) 1)) (x3 x5.toNat 0).int (x3 x5.toNat 1).int (CV.int (x3 (Int.toNat (Int.tmod (w64 (x5 + 1)) (Int.ofNat x2))) 0)) (CV.int (x3 (Int.toNat (Int.tmod (w64 (x5 + 1)) (Int.ofNat x2))) 1))) fun x6 => (bif x6 then k0 else (L39v2 u x0 x1 x2 x3 x4 m (w64 (x5 + 1)) k0 k1))) else none)) else none) else none)) else none) else k1)
theorem nl39v2 : ∀ (m : Nat) (x0 : Int) (k0 : Option ρ) (k1 : Option ρ),ob (L39v2 u n0 f0 n1 f1 i0 m x0 k0 k1) ng = L39v2 u n0 f0 n1 f1 i0 m x0 (ob k0 ng) (ob k1 ng)
 | 0,_,_,_ => rfl
 | m + 1,x0,k0,k1 => by
  simp only [L39v2,ob_bif,ob_ob,ob_none,nl39v2 m]
theorem r39v2 :
  loopH (eB A78v3 (C62 u) u) N39v2 (m + 1) (s39v0 n0 n1 f0 f1 i0 i1) k =
  (bif (decide (i1 < (Int.ofNat n1))) then (bif (inb i0 n0) then (bif ((Int.ofNat n0) == 0) then none else (bif (inb (Int.tmod (w64 (i0 + 1)) (Int.ofNat n0)) n0) then (bif (inb i1 n1) then (bif ((Int.ofNat n1) == 0) then none else (bif (inb (Int.tmod (w64 (i1 + 1)) (Int.ofNat n1)) n1) then (ob (F68 u (f0 i0.toNat 0).int (f0 i0.toNat 1).int (CV.int (f0 (Int.toNat (Int.tmod (w64 (i0 + 1)) (Int.ofNat n0))) 0)) (CV.int (f0 (Int.toNat (Int.tmod (w64 (i0 + 1)) (Int.ofNat n0))) 1)) (f1 i1.toNat 0).int (f1 i1.toNat 1).int (CV.int (f1 (Int.toNat (Int.tmod (w64 (i1 + 1)) (Int.ofNat n1))) 0)) (CV.int (f1 (Int.toNat (Int.tmod (w64 (i1 + 1)) (Int.ofNat n1))) 1))) fun x0 => (bif x0 then (k .ret s39v1) else (loopH (eB A78v3 (C62 u) u) N39v2 m (s39v0 n0 n1 f0 f1 i0 (w64 (i1 + 1))) k))) else none)) else none) else none)) else none) else (k (.exit 2) (s39v2 n0 n1 f0 f1 i0))) := by kernel_rfl
theorem q39v2 : ∀ (m : Nat) (x0 : Int),
  loopH (eB A78v3 (C62 u) u) N39v2 m (s39v0 n0 n1 f0 f1 i0 x0) k = L39v2 u n0 f0 n1 f1 i0 m x0 (k .ret s39v1) (k (.exit 2) (s39v2 n0 n1 f0 f1 i0))
 | 0,_ => rfl
 | m + 1,x0 => by
  rw [r39v2]
  simp only [L39v2,q39v2 m]
def N39v3 : St → Option St := nN 0 (2 :: 3 :: 4 :: (rl 6 38 []))
def s39v3 : St := ⟨(.x (.c (ro kP n0 f0)) :: .x (.c (ro kP n1 f1)) :: (us 3 (vxi i0 :: (us 38 [])))),[]⟩
def s39v4 : St := ⟨(us 44 []),[]⟩
def L39v3 {ρ : Type} (u : Nat) (x0 : Nat) (x1 : FF) (x2 : Nat) (x3 : FF) : Nat → Int → (Option ρ) → (Option ρ) → Option ρ
 | 0,_,_,_ => none
 | m + 1,x4,k0,k1 =>
  (bif (decide (x4 < (Int.ofNat x0))) then (L39v2 u x0 x1 x2 x3 x4 u 0
  k0
  (L39v3 u x0 x1 x2 x3 m (w64 (x4 + 1)) k0 k1)) else k1)
theorem nl39v3 : ∀ (m : Nat) (x0 : Int) (k0 : Option ρ) (k1 : Option ρ),ob (L39v3 u n0 f0 n1 f1 m x0 k0 k1) ng = L39v3 u n0 f0 n1 f1 m x0 (ob k0 ng) (ob k1 ng)
 | 0,_,_,_ => rfl
 | m + 1,x0,k0,k1 => by
  simp only [L39v3,ob_bif,ob_ob,ob_none,nl39v3 m,nl39v2]
def s39v5 : St := ⟨(.x (.c (ro kP n0 f0)) :: .x (.c (ro kP n1 f1)) :: (us 3 (vxi i0 :: vxi 0 :: (us 37 [])))),[]⟩
theorem r39v3 :
  loopH (eB A78v6 (C62 u) u) N39v3 (m + 1) (s39v3 n0 n1 f0 f1 i0) k =
  (bif (decide (i0 < (Int.ofNat n0))) then (loopN (eB A78v3 (C62 u) u) N39v2 u (s39v5 n0 n1 f0 f1 i0) (kBlk 2 (kBlk 1 (kSeq (C62 u) u (4 :: 6 :: (rl 13 31 [])) A78v4 (kLoop (eB A78v6 (C62 u) u) N39v3 m k))))) else (k (.exit 0) s39v4)) := by kernel_rfl
theorem t39v1 :
  loopN (eB A78v3 (C62 u) u) N39v2 u (s39v5 n0 n1 f0 f1 i0) k =
  L39v2 u n0 f0 n1 f1 i0 u 0 (k .ret s39v1) (k (.exit 2) (s39v2 n0 n1 f0 f1 i0)) :=
 Eq.trans (loopN_at (by kernel_rfl)) (q39v2 ..)
theorem g39v2 :
  (kBlk 2 (kBlk 1 (kSeq (C62 u) u (4 :: 6 :: (rl 13 31 [])) A78v4 (kLoop (eB A78v6 (C62 u) u) N39v3 m k)))) .ret s39v1 =
  (k .ret s39v1) := by kernel_rfl
theorem g39v3 :
  (kBlk 2 (kBlk 1 (kSeq (C62 u) u (4 :: 6 :: (rl 13 31 [])) A78v4 (kLoop (eB A78v6 (C62 u) u) N39v3 m k)))) (.exit 2) (s39v2 n0 n1 f0 f1 i0) =
  (loopH (eB A78v6 (C62 u) u) N39v3 m (s39v3 n0 n1 f0 f1 (w64 (i0 + 1))) k) := by kernel_rfl
theorem q39v3 : ∀ (m : Nat) (x0 : Int),
  loopH (eB A78v6 (C62 u) u) N39v3 m (s39v3 n0 n1 f0 f1 x0) k = L39v3 u n0 f0 n1 f1 m x0 (k .ret s39v1) (k (.exit 0) s39v4)
 | 0,_ => rfl
 | m + 1,x0 => by
  rw [r39v3]
  simp only [L39v3,q39v3 m,t39v1,g39v2,g39v3]
def F39 (x0 : Nat) (x1 : FF) (x2 : Nat) (x3 : FF) : Option (Bool) :=
 (L39v3 u x0 x1 x2 x3 u 0
  (some true)
  (some false))
def s39v6 : St := ⟨[.x (.c (ro kP n0 f0)),.x (.c (ro kP n1 f1)),uu,uu,vxb false,vxi 0,uu,uu,uu,uu,uu,uu,uu,uu,uu,uu,uu,uu,uu,uu,uu,uu,uu,uu,uu,uu,uu,uu,uu,uu,uu,uu,uu,uu,uu,uu,uu,uu,uu,uu,uu,uu,uu,uu],[]⟩
theorem t39v4 :
  loopN (eB A78v6 (C62 u) u) N39v3 u (s39v6 n0 n1 f0 f1) k =
  L39v3 u n0 f0 n1 f1 u 0 (k .ret s39v1) (k (.exit 0) s39v4) :=
 Eq.trans (loopN_at (by kernel_rfl)) (q39v3 ..)
theorem g39v5 :
  (kBlk 0 (kSeq (C62 u) u (rl 4 40 []) A78v7 (finish A78))) .ret s39v1 =
  (some [.v (.b true)]) := by kernel_rfl
theorem g39v6 :
  (kBlk 0 (kSeq (C62 u) u (rl 4 40 []) A78v7 (finish A78))) (.exit 0) s39v4 =
  (some [.v (.b false)]) := by kernel_rfl
theorem e39 : evalF (C62 u) u A78 [.v (ro kP n0 f0),.v (ro kP n1 f1)] = ob (F39 u n0 f0 n1 f1) fun t => some [.v (.b t)] := Eq.trans (b := (loopN (eB A78v6 (C62 u) u) N39v3 u (s39v6 n0 n1 f0 f1) (kBlk 0 (kSeq (C62 u) u (rl 4 40 []) A78v7 (finish A78))))) (by kernel_rfl) (by
 simp only [F39,ob_bif,ob_ob,ob_none,ob_some,nl39v3,t39v4,g39v5,g39v6])
def O39 : Ora := mkO (qc (av (cL kP)) (q1 (av (cL kP)))) (fun x => F39 u x.1.1 x.1.2 x.2.1 x.2.2) fun t => [.v (.b t)]
theorem d39 : DO (O39 u) (C62 u) 78 A78 := dO u (fun x => by exact e39 u x.1.1 x.2.1 x.1.2 x.2.2)
def C63 : Oracle := (C62 u).add 78 (fun _ => true) (O39 u)
def A79v1 : AC := (.seq (.region 10 [o1 41 (fa 41 7 1 1),o1 42 (lo 3 41),o1 43 (fa 41 3 1 1),o1 44 (lo 3 43),o1 45 (bt .leq 3 42 44),mv 46 45,og 47 (fa 41 3 1 1) 46 true,og 48 (lo 3 47) 46 true,og 49 (fa 41 8 1 1) 46 true,og 50 (lo 3 49) 46 true,og 51 (bt .lss 3 48 50) 46 true,o1 52 (po 46 51),mv 53 52,og 54 (ln 41 2 7) 53 true,og 55 (ln 41 2 8) 53 true,og 56 (ln 41 2 3) 53 true,og 57 (cs 92 [54,55,56] [41,41,41]) 53 true,og 58 (bk .gtr 3 57 0) 53 true,o1 59 (po 53 58),o1 9 (sg 59)] 0 none) []
 (.seq (.region 11 [o1 60 (fa 41 8 1 1),o1 61 (lo 3 60),o1 62 (fa 41 3 1 1),o1 63 (lo 3 62),o1 64 (bt .leq 3 61 63),mv 65 64,og 66 (fa 41 3 1 1) 65 true,og 67 (lo 3 66) 65 true,og 68 (fa 41 7 1 1) 65 true,og 69 (lo 3 68) 65 true,og 70 (bt .lss 3 67 69) 65 true,o1 71 (po 65 70),mv 72 71,og 73 (ln 41 2 7) 72 true,og 74 (ln 41 2 8) 72 true,og 75 (ln 41 2 3) 72 true,og 76 (cs 92 [73,74,75] [41,41,41]) 72 true,og 77 (bk .lss 3 76 0) 72 true,o1 78 (po 72 77),o1 10 (sg 78)] 0 none) []
 (.seq (.region 12 [mv 79 9,mv 80 79,og 81 (.move (tm 10)) 80 false,o1 82 (pa 80 81)] 0 none) []
 (.cond (tm 82)
 (.region 13 [mv 83 5,o1 84 (.unOp .not 4 (tm 83)),o1 5 (sg 84)] 0 none)
 .skip))))
def A79v2 : AC := (.region 6 [mv 23 6,o1 24 (bk .add 3 23 1),o1 6 (sg 24)] 0 none)
def A79v3 : AC := (.seq (.block 1
 (.seq (.region 7 [mv 25 0,mv 26 6,o1 27 (.indexAddr 47 41 2 (tm 25) (tm 26)),o1 28 (ln 41 2 27),mv 29 0,mv 30 6,o1 31 (bk .add 3 30 1),mv 32 0,o1 33 (.len 47 false (tm 32)),o1 34 (bt .rem 3 31 33),o1 35 (.indexAddr 47 41 2 (tm 29) (tm 34)),o1 36 (ln 41 2 35),o1 7 (.alloc 0 41 [vci 0,vci 0]),o1 8 (.alloc 1 41 [vci 0,vci 0]),o0 (.store 41 2 (tm 7) (tm 28)),o0 (.store 41 2 (tm 8) (tm 36))] 2 (some [[],[],[0,1],[0,1,2],[],[],[5],[],[7],(rl 5 4 []),(rl 4 6 []),(rl 4 7 []),[],[],(rl 0 4 [12,13]),(rl 0 15 [])])) []
  (.seq (.seq (.region 8 [o1 37 (ln 41 2 3),o1 38 (ln 41 2 7),o1 39 (ln 41 2 8),o1 40 (cs 91 [37,38,39] [41,41,41])] 0 none) []
  (.cond (tm 40)
  (.seq (.region 9 [o1 4 (sk 0)] 0 none) []
   (.ret (rl 0 4 (rl 5 81 []))))
  .skip)) (4 :: (rl 37 4 []))
  A79v1))) (4 :: (rl 7 4 (rl 25 60 [])))
 A79v2)
def A79v4 : AC := (.seq (.seq (.region 5 [mv 19 6,mv 20 0,o1 21 (.len 47 false (tm 20)),o1 22 (bt .lss 3 19 21)] 0 none) []
 (.cond (tm 22)
 .skip
 (.exit 0 (rl 0 5 (rl 6 80 []))))) (rl 19 4 [])
 A79v3)
def A79v5 : AC := (.seq (.region 16 [o1 4 (sk (-1))] 0 none) []
 (.ret (rl 0 4 (rl 5 81 []))))
def A79v6 : AC := (.seq (.seq (.region 14 [mv 85 5] 0 none) []
 (.cond (tm 85)
 (.seq (.region 15 [o1 4 (sk 1)] 0 none) []
  (.ret (rl 0 4 (rl 5 81 []))))
 .skip)) [4,85]
 A79v5)
def A79v7 : AC := (.seq (.region 3 [o1 5 (sb false)] 0 none) []
 (.seq (.seq (.region 4 [o1 6 (sk 0)] 0 none) []
 (.block 0
 (.loop [] (1 :: 2 :: 4 :: (rl 7 79 []))
  A79v4))) (4 :: (rl 6 5 (rl 19 66 [])))
 A79v6))
def A79 : AF := ⟨86,[.tmp 4],
 (.seq (.region 0 [o1 3 (bx 0 41 1),o1 4 (sk 0)] 1 none) []
 (.seq (.seq (.region 1 [mv 11 0,o1 12 (cs 77 [11] [47]),o1 13 (bk .neq 31 12 0),mv 14 13,og 15 (ln 41 2 3) 14 false,og 16 (cs 90 [15] [41]) 14 false,og 17 (.unOp .not 4 (tm 16)) 14 false,o1 18 (pa 14 17)] 0 none) []
 (.cond (tm 18)
 (.seq (.region 2 [o1 4 (sk (-1))] 0 none) []
  (.ret (rl 0 4 (rl 5 81 []))))
 .skip)) (4 :: (rl 11 8 []))
 A79v7))⟩
def N40v1 : St → Option St := nN 1 (1 :: 2 :: 4 :: (rl 7 79 []))
def s40v0 : St := ⟨(.x (.c (ro kP n0 f0)) :: .u :: .u :: .x (.ptr 0 0) :: .u :: vxb b0 :: vxi i0 :: (us 79 [])),[.box [(vci i1),(vci i2)]]⟩
def s40v1 : St := ⟨(us 4 (vxi 0 :: (us 81 []))),[.box [(vci i0),(vci i1)],.box [(vci i2),(vci i3)],.box [(vci i4),(vci i5)]]⟩
def s40v2 : St := ⟨(us 5 (vxb b0 :: (us 80 []))),[.box [(vci i0),(vci i1)]]⟩
def L40v1 {ρ : Type} (u : Nat) (x0 : Nat) (x1 : FF) (x2 x3 : Int) : Nat → Bool → Int → (Int → Int → Int → Int → Option ρ) → (Bool → Option ρ) → Option ρ
 | 0,_,_,_,_ => none
 | m + 1,x4,x5,k0,k1 =>
  (bif (decide (x5 < (Int.ofNat x0))) then (bif (inb x5 x0) then (bif ((Int.ofNat x0) == 0) then none else (bif (inb (Int.tmod (w64 (x5 + 1)) (Int.ofNat x0)) x0) then (ob (F70 u x2 x3 (x1 x5.toNat 0).int (x1 x5.toNat 1).int (CV.int (x1 (Int.toNat (Int.tmod (w64 (x5 + 1)) (Int.ofNat x0))) 0)) (CV.int (x1 (Int.toNat (Int.tmod (w64 (x5 + 1)) (Int.ofNat x0))) 1))) fun x6 => (bif x6 then (k0 (x1 x5.toNat 0).int (x1 x5.toNat 1).int (CV.int (x1 (Int.toNat (Int.tmod (w64 (x5 + 1)) (Int.ofNat x0))) 0)) (CV.int (x1 (Int.toNat (Int.tmod (w64 (x5 + 1)) (Int.ofNat x0))) 1))) else (bif ((decide ((x1 x5.toNat 1).int ≤ x3)) == true) then (bif ((decide (x3 < (CV.int (x1 (Int.toNat (Int.tmod (w64 (x5 + 1)) (Int.ofNat x0))) 1)))) == true) then (ob (F71 u (x1 x5.toNat 0).int (x1 x5.toNat 1).int (CV.int (x1 (Int.toNat (Int.tmod (w64 (x5 + 1)) (Int.ofNat x0))) 0)) (CV.int (x1 (Int.toNat (Int.tmod (w64 (x5 + 1)) (Int.ofNat x0))) 1)) x2 x3) fun x7 => (bif ((decide ((CV.int (x1 (Int.toNat (Int.tmod (w64 (x5 + 1)) (Int.ofNat x0))) 1)) ≤ x3)) == true) then (bif ((decide (x3 < (x1 x5.toNat 1).int)) == true) then (ob (F71 u (x1 x5.toNat 0).int (x1 x5.toNat 1).int (CV.int (x1 (Int.toNat (Int.tmod (w64 (x5 + 1)) (Int.ofNat x0))) 0)) (CV.int (x1 (Int.toNat (Int.tmod (w64 (x5 + 1)) (Int.ofNat x0))) 1)) x2 x3) fun x8 => (bif ((decide (x7 > 0)) == false) then (bif (decide (x8 < 0)) then (L40v1 u x0 x1 x2 x3 m (!x4) (w64 (x5 + 1)) k0 k1) else (L40v1 u x0 x1 x2 x3 m x4 (w64 (x5 + 1)) k0 k1)) else (L40v1 u x0 x1 x2 x3 m (!x4) (w64 (x5 + 1)) k0 k1))) else (bif ((decide (x7 > 0)) == false) then (L40v1 u x0 x1 x2 x3 m x4 (w64 (x5 + 1)) k0 k1) else (L40v1 u x0 x1 x2 x3 m (!x4) (w64 (x5 + 1)) k0 k1))) else (bif ((decide (x7 > 0)) == false) then (L40v1 u x0 x1 x2 x3 m x4 (w64 (x5 + 1)) k0 k1) else (L40v1 u x0 x1 x2 x3 m (!x4) (w64 (x5 + 1)) k0 k1)))) else (bif ((decide ((CV.int (x1 (Int.toNat (Int.tmod (w64 (x5 + 1)) (Int.ofNat x0))) 1)) ≤ x3)) == true) then (bif ((decide (x3 < (x1 x5.toNat 1).int)) == true) then (ob (F71 u (x1 x5.toNat 0).int (x1 x5.toNat 1).int (CV.int (x1 (Int.toNat (Int.tmod (w64 (x5 + 1)) (Int.ofNat x0))) 0)) (CV.int (x1 (Int.toNat (Int.tmod (w64 (x5 + 1)) (Int.ofNat x0))) 1)) x2 x3) fun x9 => (bif (decide (x9 < 0)) then (L40v1 u x0 x1 x2 x3 m (!x4) (w64 (x5 + 1)) k0 k1) else (L40v1 u x0 x1 x2 x3 m x4 (w64 (x5 + 1)) k0 k1))) else (L40v1 u x0 x1 x2 x3 m x4 (w64 (x5 + 1)) k0 k1)) else (L40v1 u x0 x1 x2 x3 m x4 (w64 (x5 + 1)) k0 k1))) else (bif ((decide ((CV.int (x1 (Int.toNat (Int.tmod (w64 (x5 + 1)) (Int.ofNat x0))) 1)) ≤ x3)) == true) then (bif ((decide (x3 < (x1 x5.toNat 1).int)) == true) then (ob (F71 u (x1 x5.toNat 0).int (x1 x5.toNat 1).int (CV.int (x1 (Int.toNat (Int.tmod (w64 (x5 + 1)) (Int.ofNat x0))) 0)) (CV.int (x1 (Int.toNat (Int.tmod (w64 (x5 + 1)) (Int.ofNat x0))) 1)) x2 x3) fun xA => (bif (decide (xA < 0)) then (L40v1 u x0 x1 x2 x3 m (!x4) (w64 (x5 + 1)) k0 k1) else (L40v1 u x0 x1 x2 x3 m x4 (w64 (x5 + 1)) k0 k1))) else (L40v1 u x0 x1 x2 x3 m x4 (w64 (x5 + 1)) k0 k1)) else (L40v1 u x0 x1 x2 x3 m x4 (w64 (x5 + 1)) k0 k1))))) else none)) else none) else (k1 x4))
theorem nl40v1 : ∀ (m : Nat) (x0 : Bool) (x1 : Int) (k0 : Int → Int → Int → Int → Option ρ) (k1 : Bool → Option ρ),ob (L40v1 u n0 f0 i0 i1 m x0 x1 k0 k1) ng = L40v1 u n0 f0 i0 i1 m x0 x1 (fun x2 x3 x4 x5 => ob (k0 x2 x3 x4 x5) ng) (fun x6 => ob (k1 x6) ng)
 | 0,_,_,_,_ => rfl
 | m + 1,x0,x1,k0,k1 => by
  simp only [L40v1,ob_bif,ob_ob,ob_none,nl40v1 m]
theorem r40v1 :
  loopH (eB A79v4 (C63 u) u) N40v1 (m + 1) (s40v0 n0 f0 i2 i0 i1 b0) k =
  (bif (decide (i2 < (Int.ofNat n0))) then (bif (inb i2 n0) then (bif ((Int.ofNat n0) == 0) then none else (bif (inb (Int.tmod (w64 (i2 + 1)) (Int.ofNat n0)) n0) then (ob (F70 u i0 i1 (f0 i2.toNat 0).int (f0 i2.toNat 1).int (CV.int (f0 (Int.toNat (Int.tmod (w64 (i2 + 1)) (Int.ofNat n0))) 0)) (CV.int (f0 (Int.toNat (Int.tmod (w64 (i2 + 1)) (Int.ofNat n0))) 1))) fun x0 => (bif x0 then (k .ret (s40v1 i0 i1 (f0 i2.toNat 0).int (f0 i2.toNat 1).int (CV.int (f0 (Int.toNat (Int.tmod (w64 (i2 + 1)) (Int.ofNat n0))) 0)) (CV.int (f0 (Int.toNat (Int.tmod (w64 (i2 + 1)) (Int.ofNat n0))) 1)))) else (bif ((decide ((f0 i2.toNat 1).int ≤ i1)) == true) then (bif ((decide (i1 < (CV.int (f0 (Int.toNat (Int.tmod (w64 (i2 + 1)) (Int.ofNat n0))) 1)))) == true) then (ob (F71 u (f0 i2.toNat 0).int (f0 i2.toNat 1).int (CV.int (f0 (Int.toNat (Int.tmod (w64 (i2 + 1)) (Int.ofNat n0))) 0)) (CV.int (f0 (Int.toNat (Int.tmod (w64 (i2 + 1)) (Int.ofNat n0))) 1)) i0 i1) fun x1 => (bif ((decide ((CV.int (f0 (Int.toNat (Int.tmod (w64 (i2 + 1)) (Int.ofNat n0))) 1)) ≤ i1)) == true) then (bif ((decide (i1 < (f0 i2.toNat 1).int)) == true) then (ob (F71 u (f0 i2.toNat 0).int (f0 i2.toNat 1).int (CV.int (f0 (Int.toNat (Int.tmod (w64 (i2 + 1)) (Int.ofNat n0))) 0)) (CV.int (f0 (Int.toNat (Int.tmod (w64 (i2 + 1)) (Int.ofNat n0))) 1)) i0 i1) fun x2 => (bif ((decide (x1 > 0)) == false) then (bif (decide (x2 < 0)) then (loopH (eB A79v4 (C63 u) u) N40v1 m (s40v0 n0 f0 (w64 (i2 + 1)) i0 i1 (!b0)) k) else (loopH (eB A79v4 (C63 u) u) N40v1 m (s40v0 n0 f0 (w64 (i2 + 1)) i0 i1 b0) k)) else (loopH (eB A79v4 (C63 u) u) N40v1 m (s40v0 n0 f0 (w64 (i2 + 1)) i0 i1 (!b0)) k))) else (bif ((decide (x1 > 0)) == false) then (loopH (eB A79v4 (C63 u) u) N40v1 m (s40v0 n0 f0 (w64 (i2 + 1)) i0 i1 b0) k) else (loopH (eB A79v4 (C63 u) u) N40v1 m (s40v0 n0 f0 (w64 (i2 + 1)) i0 i1 (!b0)) k))) else (bif ((decide (x1 > 0)) == false) then (loopH (eB A79v4 (C63 u) u) N40v1 m (s40v0 n0 f0 (w64 (i2 + 1)) i0 i1 b0) k) else (loopH (eB A79v4 (C63 u) u) N40v1 m (s40v0 n0 f0 (w64 (i2 + 1)) i0 i1 (!b0)) k)))) else (bif ((decide ((CV.int (f0 (Int.toNat (Int.tmod (w64 (i2 + 1)) (Int.ofNat n0))) 1)) ≤ i1)) == true) then (bif ((decide (i1 < (f0 i2.toNat 1).int)) == true) then (ob (F71 u (f0 i2.toNat 0).int (f0 i2.toNat 1).int (CV.int (f0 (Int.toNat (Int.tmod (w64 (i2 + 1)) (Int.ofNat n0))) 0)) (CV.int (f0 (Int.toNat (Int.tmod (w64 (i2 + 1)) (Int.ofNat n0))) 1)) i0 i1) fun x3 => (bif (decide (x3 < 0)) then (loopH (eB A79v4 (C63 u) u) N40v1 m (s40v0 n0 f0 (w64 (i2 + 1)) i0 i1 (!b0)) k) else (loopH (eB A79v4 (C63 u) u) N40v1 m (s40v0 n0 f0 (w64 (i2 + 1)) i0 i1 b0) k))) else (loopH (eB A79v4 (C63 u) u) N40v1 m (s40v0 n0 f0 (w64 (i2 + 1)) i0 i1 b0) k)) else (loopH (eB A79v4 (C63 u) u) N40v1 m (s40v0 n0 f0 (w64 (i2 + 1)) i0 i1 b0) k))) else (bif ((decide ((CV.int (f0 (Int.toNat (Int.tmod (w64 (i2 + 1)) (Int.ofNat n0))) 1)) ≤ i1)) == true) then (bif ((decide (i1 < (f0 i2.toNat 1).int)) == true) then (ob (F71 u (f0 i2.toNat 0).int (f0 i2.toNat 1).int (CV.int (f0 (Int.toNat (Int.tmod (w64 (i2 + 1)) (Int.ofNat n0))) 0)) (CV.int (f0 (Int.toNat (Int.tmod (w64 (i2 + 1)) (Int.ofNat n0))) 1)) i0 i1) fun x4 => (bif (decide (x4 < 0)) then (loopH (eB A79v4 (C63 u) u) N40v1 m (s40v0 n0 f0 (w64 (i2 + 1)) i0 i1 (!b0)) k) else (loopH (eB A79v4 (C63 u) u) N40v1 m (s40v0 n0 f0 (w64 (i2 + 1)) i0 i1 b0) k))) else (loopH (eB A79v4 (C63 u) u) N40v1 m (s40v0 n0 f0 (w64 (i2 + 1)) i0 i1 b0) k)) else (loopH (eB A79v4 (C63 u) u) N40v1 m (s40v0 n0 f0 (w64 (i2 + 1)) i0 i1 b0) k))))) else none)) else none) else (k (.exit 0) (s40v2 i0 i1 b0))) := by kernel_rfl
theorem q40v1 : ∀ (m : Nat) (x0 : Bool) (x1 : Int),
  loopH (eB A79v4 (C63 u) u) N40v1 m (s40v0 n0 f0 x1 i0 i1 x0) k = L40v1 u n0 f0 i0 i1 m x0 x1 (fun x2 x3 x4 x5 => k .ret (s40v1 i0 i1 x2 x3 x4 x5)) (fun x6 => k (.exit 0) (s40v2 i0 i1 x6))
 | 0,_,_ => rfl
 | m + 1,x0,x1 => by
  rw [r40v1]
  simp only [L40v1,q40v1 m]
def F40 (x0 : Nat) (x1 : FF) (x2 x3 : Int) : Option (Int) :=
 (ob (F37 u x0 x1) fun x4 => (bif ((x4 != 0) == false) then (ob (F69 u x2 x3) fun x5 => (bif (!x5) then (some (-1)) else (L40v1 u x0 x1 x2 x3 u false 0
  (fun x6 x7 x8 x9 => (some 0))
  (fun xA => (bif xA then (some 1) else (some (-1))))))) else (some (-1))))
def s40v3 : St := ⟨(.x (.c (ro kP n0 f0)) :: .agg [(vci i0),(vci i1)] :: uu :: .x (.ptr 0 0) :: .u :: vxb false :: vxi 0 :: uu :: uu :: uu :: uu :: (us 8 [uu,uu,uu,uu,uu,uu,uu,uu,uu,uu,uu,uu,uu,uu,uu,uu,uu,uu,uu,uu,uu,uu,uu,uu,uu,uu,uu,uu,uu,uu,uu,uu,uu,uu,uu,uu,uu,uu,uu,uu,uu,uu,uu,uu,uu,uu,uu,uu,uu,uu,uu,uu,uu,uu,uu,uu,uu,uu,uu,uu,uu,uu,uu,uu,uu,uu,uu])),[.box [(vci i0),(vci i1)]]⟩
theorem t40v1 :
  loopN (eB A79v4 (C63 u) u) N40v1 u (s40v3 n0 f0 i0 i1) k =
  L40v1 u n0 f0 i0 i1 u false 0 (fun x0 x1 x2 x3 => k .ret (s40v1 i0 i1 x0 x1 x2 x3)) (fun x4 => k (.exit 0) (s40v2 i0 i1 x4)) :=
 Eq.trans (loopN_at (by kernel_rfl)) (q40v1 ..)
theorem g40v2 :
  (kBlk 0 (kSeq (C63 u) u (4 :: (rl 6 5 (rl 19 66 []))) A79v6 (finish A79))) .ret (s40v1 i0 i1 i2 i3 i4 i5) =
  (some [.v (vi 0)]) := by kernel_rfl
theorem g40v3 :
  (kBlk 0 (kSeq (C63 u) u (4 :: (rl 6 5 (rl 19 66 []))) A79v6 (finish A79))) (.exit 0) (s40v2 i0 i1 b0) =
  (bif b0 then (some [.v (vi 1)]) else (some [.v (vi (-1))])) := by kernel_rfl
theorem e40 : evalF (C63 u) u A79 [.v (ro kP n0 f0),.agg [(vi i0),(vi i1)]] = ob (F40 u n0 f0 i0 i1) fun t => some [.v (vi t)] := Eq.trans (b := (ob (F37 u n0 f0) fun x0 => (bif ((x0 != 0) == false) then (ob (F69 u i0 i1) fun x1 => (bif (!x1) then (some [.v (vi (-1))]) else (loopN (eB A79v4 (C63 u) u) N40v1 u (s40v3 n0 f0 i0 i1) (kBlk 0 (kSeq (C63 u) u (4 :: (rl 6 5 (rl 19 66 []))) A79v6 (finish A79)))))) else (some [.v (vi (-1))])))) (by kernel_rfl) (by
 simp only [F40,ob_bif,ob_ob,ob_none,ob_some,nl40v1,t40v1,g40v2,g40v3])
def O40 : Ora := mkO (qc (av (cL kP)) (q1 (ag (tc ci (t1 ci))))) (fun x => F40 u x.1.1 x.1.2 x.2.1 x.2.2) fun t => [.v (vi t)]
theorem d40 : DO (O40 u) (C63 u) 79 A79 := dO u (fun x => by exact e40 u x.1.1 x.1.2 x.2.1 x.2.2)
def C64 : Oracle := (C63 u).add 79 (fun _ => true) (O40 u)
def A58v1 : AC := (.region 19 [mv 60 7,o1 61 (bk .add 3 60 1),o1 7 (sg 61)] 0 none)
def A58v2 : AC := (.seq (.block 3
 (.seq (.region 20 [mv 62 5,o1 63 (fa 50 1 1 1),o1 64 (lo 48 63),mv 65 7,o1 66 (.indexAddr 48 47 1 (tm 64) (tm 65)),o1 67 (lo 47 66),o1 68 (cs 78 [62,67] [47,47]),mv 69 68,og 70 (.move (tm 5)) 69 false,og 71 (fa 50 1 1 1) 69 false,og 72 (lo 48 71) 69 false,og 73 (.move (tm 7)) 69 false,og 74 (.indexAddr 48 47 1 (tm 72) (tm 73)) 69 false,og 75 (lo 47 74) 69 false,og 76 (.indexAddr 47 41 2 (tm 75) (ic 0)) 69 false,og 77 (ln 41 2 76) 69 false,og 78 (cs 79 [70,77] [47,41]) 69 false,og 79 (bk .neq 3 78 (-1)) 69 false,o1 80 (pa 69 79),mv 81 80,og 82 (fa 50 1 1 1) 81 false,og 83 (lo 48 82) 81 false,og 84 (.move (tm 7)) 81 false,og 85 (.indexAddr 48 47 1 (tm 83) (tm 84)) 81 false,og 86 (lo 47 85) 81 false,og 87 (.move (tm 5)) 81 false,og 88 (.indexAddr 47 41 2 (tm 87) (ic 0)) 81 false,og 89 (ln 41 2 88) 81 false,og 90 (cs 79 [86,89] [47,41]) 81 false,og 91 (bk .neq 3 90 (-1)) 81 false,o1 92 (pa 81 91)] 0 (some [[],[],[1],[],[1,2,3],(rl 1 4 []),(rl 0 6 []),(rl 0 7 []),(rl 0 8 []),(rl 0 8 []),(rl 0 8 [9]),(rl 0 8 []),(rl 0 8 [9,10,11]),(rl 0 8 (rl 9 4 [])),(rl 0 8 (rl 9 5 [])),(rl 0 8 (rl 9 6 [])),(rl 0 16 []),(rl 0 17 []),(rl 0 18 []),(rl 0 19 []),(rl 0 20 []),(rl 0 21 []),(rl 0 20 []),(rl 0 23 []),(rl 0 24 []),(rl 0 20 []),(rl 0 20 [25]),(rl 0 20 [25,26]),(rl 0 28 []),(rl 0 29 []),(rl 0 30 [])])) []
  (.cond (tm 92)
  (.seq (.region 21 [o1 2 (sk 17)] 0 none) []
   (.ret (0 :: 1 :: (rl 3 90 []))))
  .skip))) (2 :: (rl 62 31 []))
 A58v1)
def A58v3 : AC := (.seq (.seq (.region 18 [mv 57 7,mv 58 4,o1 59 (bt .lss 3 57 58)] 0 none) []
 (.cond (tm 59)
 .skip
 (.exit 2 (0 :: 2 :: 3 :: (rl 5 88 []))))) [57,58,59]
 A58v2)
def A58v4 : AC := (.seq (.region 17 [o1 7 (sk 0)] 0 none) []
 (.block 2
 (.loop [] (0 :: 2 :: 3 :: 6 :: (rl 8 85 []))
  A58v3)))
def A58v5 : AC := (.seq (.seq (.region 15 [mv 39 5,o1 40 (cs 65 [39] [47]),o1 41 (bk .geq 3 40 0),mv 42 41,og 43 (fa 50 1 0 0) 42 false,og 44 (lo 47 43) 42 false,og 45 (.move (tm 5)) 42 false,og 46 (cs 78 [44,45] [47,47]) 42 false,o1 47 (pa 42 46),mv 48 47,og 49 (fa 50 1 0 0) 48 false,og 50 (lo 47 49) 48 false,og 51 (.move (tm 5)) 48 false,og 52 (.indexAddr 47 41 2 (tm 51) (ic 0)) 48 false,og 53 (ln 41 2 52) 48 false,og 54 (cs 79 [50,53] [47,41]) 48 false,og 55 (bk .neq 3 54 1) 48 false,o1 56 (pa 48 55)] 0 (some [[],[0],[0,1],[0,1,2],(rl 0 4 []),(rl 0 5 []),(rl 0 4 []),(rl 0 7 []),(rl 0 8 []),(rl 0 9 []),(rl 0 10 []),(rl 0 11 []),(rl 0 10 []),(rl 0 10 [12]),(rl 0 10 [12,13]),(rl 0 15 []),(rl 0 16 []),(rl 0 17 [])])) []
 (.cond (tm 56)
 (.seq (.region 16 [o1 2 (sk 17)] 0 none) []
  (.ret (0 :: 1 :: (rl 3 90 []))))
 .skip)) (2 :: (rl 39 18 []))
 A58v4)
def A58v6 : AC := (.region 10 [mv 27 4,o1 28 (bk .add 3 27 1),o1 4 (sg 28)] 0 none)
def A58v7 : AC := (.seq (.block 1
 (.seq (.region 11 [o1 29 (fa 50 1 1 1),o1 30 (lo 48 29),mv 31 4,o1 32 (.indexAddr 48 47 1 (tm 30) (tm 31)),o1 33 (lo 47 32),o1 5 (sg 33)] 0 none) []
  (.seq (.seq (.region 12 [mv 34 5,o1 35 (cs 77 [34] [47]),o1 6 (sg 35)] 0 none) []
  (.seq (.region 13 [mv 36 6,o1 37 (bk .neq 31 36 0)] 0 none) []
  (.cond (tm 37)
  (.seq (.region 14 [mv 38 6,o1 2 (sg 38)] 0 none) []
   (.ret (0 :: 1 :: (rl 3 90 []))))
  .skip))) (2 :: 6 :: (rl 34 5 []))
  A58v5))) (2 :: 5 :: 6 :: 7 :: (rl 29 64 []))
 A58v6)
def A58v8 : AC := (.seq (.seq (.region 9 [mv 22 4,o1 23 (fa 50 1 1 1),o1 24 (lo 48 23),o1 25 (.len 48 false (tm 24)),o1 26 (bt .lss 3 22 25)] 0 none) []
 (.cond (tm 26)
 .skip
 (.exit 0 (rl 0 93 [])))) (rl 22 5 [])
 A58v7)
def A58v9 : AC := (.seq (.region 22 [o1 2 (sk 0)] 0 none) []
 (.ret (0 :: 1 :: (rl 3 90 []))))
def A58v10 : AC := (.seq (.seq (.region 8 [o1 4 (sk 0)] 0 none) []
 (.block 0
 (.loop [] (0 :: 2 :: 3 :: (rl 5 88 []))
  A58v8))) (2 :: (rl 4 4 (rl 22 71 [])))
 A58v9)
def A58v11 : AC := (.seq (.seq (.region 6 [o1 18 (fa 50 1 0 0),o1 19 (lo 47 18),o1 20 (cs 65 [19] [47]),o1 21 (bk .leq 3 20 0)] 0 none) []
 (.cond (tm 21)
 (.seq (.region 7 [o1 2 (sk 17)] 0 none) []
  (.ret (0 :: 1 :: (rl 3 90 []))))
 .skip)) (2 :: (rl 18 4 []))
 A58v10)
def A58v12 : AC := (.seq (.seq (.region 3 [o1 12 (fa 50 1 0 0),o1 13 (lo 47 12),o1 14 (cs 77 [13] [47]),o1 3 (sg 14)] 0 none) []
 (.seq (.region 4 [mv 15 3,o1 16 (bk .neq 31 15 0)] 0 none) []
 (.cond (tm 16)
 (.seq (.region 5 [mv 17 3,o1 2 (sg 17)] 0 none) []
  (.ret (0 :: 1 :: (rl 3 90 []))))
 .skip))) (2 :: 3 :: (rl 12 6 []))
 A58v11)
def A58 : AF := ⟨93,[.tmp 2],
 (.seq (.region 0 [o1 1 (bx 0 50 0),o1 2 (sk 0)] 1 none) []
 (.seq (.seq (.region 1 [o1 8 (fa 50 1 1 1),o1 9 (lo 48 8),o1 10 (.len 48 false (tm 9)),o1 11 (bk .gtr 3 10 8)] 0 none) []
 (.cond (tm 11)
 (.seq (.region 2 [o1 2 (sk 12)] 0 none) []
  (.ret (0 :: 1 :: (rl 3 90 []))))
 .skip)) (2 :: (rl 8 4 []))
 A58v12))⟩
def N14v2 : St → Option St := nN 1 (0 :: 2 :: 3 :: 6 :: (rl 8 85 []))
def s14v0 : St := ⟨(.u :: .x (.ptr 0 0) :: .u :: .u :: vxi i0 :: .x (.c (ro kP n0 f0)) :: .u :: vxi i1 :: (us 85 [])),[.box [(.c (ro kP n1 f1)),(.c (ro (.pr (.sl kP) .nil) n2 f2))]]⟩
def s14v1 : St := ⟨(.u :: .u :: vxi 17 :: (us 90 [])),[.box [(.c (ro kP n0 f0)),(.c (ro (.pr (.sl kP) .nil) n1 f1))]]⟩
def s14v2 : St := ⟨(.u :: .x (.ptr 0 0) :: .u :: .u :: vxi i0 :: (us 88 [])),[.box [(.c (ro kP n0 f0)),(.c (ro (.pr (.sl kP) .nil) n1 f1))]]⟩
def L14v2 {ρ : Type} (u : Nat) (x0 : Int) (x1 : Nat) (x2 : FF) (x3 : Nat) (x4 : FF) (x5 : Nat) (x6 : FF) : Nat → Int → (Option ρ) → (Option ρ) → Option ρ
 | 0,_,_,_ => none
 | m + 1,x7,k0,k1 =>
  (bif (decide (x7 < x0)) then (bif (inb x7 x5) then (ob (F39 u x1 x2 (x6 x7.toNat 0).len (x6 x7.toNat 0).el) fun x8 => (bif (x8 == false) then (bif (inb x7 x5) then (bif (inb 0 (x6 x7.toNat 0).len) then (ob (F40 u x1 x2 ((x6 x7.toNat 0).el 0 0).int ((x6 x7.toNat 0).el 0 1).int) fun x9 => (bif ((x9 != (-1)) == false) then (bif (inb x7 x5) then (bif (inb 0 x1) then (ob (F40 u (x6 x7.toNat 0).len (x6 x7.toNat 0).el (x2 0 0).int (x2 0 1).int) fun xA => (bif (xA != (-1)) then k0 else (L14v2 u x0 x1 x2 x3 x4 x5 x6 m (w64 (x7 + 1)) k0 k1))) else none) else none) else k0)) else none) else none) else k0)) else none) else k1)
theorem nl14v2 : ∀ (m : Nat) (x0 : Int) (k0 : Option ρ) (k1 : Option ρ),ob (L14v2 u i0 n0 f0 n1 f1 n2 f2 m x0 k0 k1) ng = L14v2 u i0 n0 f0 n1 f1 n2 f2 m x0 (ob k0 ng) (ob k1 ng)
 | 0,_,_,_ => rfl
 | m + 1,x0,k0,k1 => by
  simp only [L14v2,ob_bif,ob_ob,ob_none,nl14v2 m]
theorem r14v2 :
  loopH (eB A58v3 (C64 u) u) N14v2 (m + 1) (s14v0 n0 n1 n2 f0 f1 f2 i0 i1) k =
  (bif (decide (i1 < i0)) then (bif (inb i1 n2) then (ob (F39 u n0 f0 (f2 i1.toNat 0).len (f2 i1.toNat 0).el) fun x0 => (bif (x0 == false) then (bif (inb i1 n2) then (bif (inb 0 (f2 i1.toNat 0).len) then (ob (F40 u n0 f0 ((f2 i1.toNat 0).el 0 0).int ((f2 i1.toNat 0).el 0 1).int) fun x1 => (bif ((x1 != (-1)) == false) then (bif (inb i1 n2) then (bif (inb 0 n0) then (ob (F40 u (f2 i1.toNat 0).len (f2 i1.toNat 0).el (f0 0 0).int (f0 0 1).int) fun x2 => (bif (x2 != (-1)) then (k .ret (s14v1 n1 n2 f1 f2)) else (loopH (eB A58v3 (C64 u) u) N14v2 m (s14v0 n0 n1 n2 f0 f1 f2 i0 (w64 (i1 + 1))) k))) else none) else none) else (k .ret (s14v1 n1 n2 f1 f2)))) else none) else none) else (k .ret (s14v1 n1 n2 f1 f2)))) else none) else (k (.exit 2) (s14v2 n1 n2 f1 f2 i0))) := by kernel_rfl
theorem q14v2 : ∀ (m : Nat) (x0 : Int),
  loopH (eB A58v3 (C64 u) u) N14v2 m (s14v0 n0 n1 n2 f0 f1 f2 i0 x0) k = L14v2 u i0 n0 f0 n1 f1 n2 f2 m x0 (k .ret (s14v1 n1 n2 f1 f2)) (k (.exit 2) (s14v2 n1 n2 f1 f2 i0))
 | 0,_ => rfl
 | m + 1,x0 => by
  rw [r14v2]
  simp only [L14v2,q14v2 m]
def N14v3 : St → Option St := nN 1 (0 :: 2 :: 3 :: (rl 5 88 []))
def s14v3 : St := ⟨(.u :: .x (.ptr 0 0) :: .u :: .u :: vxi i0 :: (us 88 [])),[.box [(.c (ro kP n0 f0)),(.c (ro (.pr (.sl kP) .nil) n1 f1))]]⟩
def s14v4 : St := ⟨(.u :: .u :: vxi i0 :: (us 90 [])),[.box [(.c (ro kP n0 f0)),(.c (ro (.pr (.sl kP) .nil) n1 f1))]]⟩
def s14v5 : St := ⟨(us 93 []),[.box [(.c (ro kP n0 f0)),(.c (ro (.pr (.sl kP) .nil) n1 f1))]]⟩
def L14v3 {ρ : Type} (u : Nat) (x0 : Nat) (x1 : FF) (x2 : Nat) (x3 : FF) : Nat → Int → (Int → Option ρ) → (Option ρ) → Option ρ
 | 0,_,_,_ => none
 | m + 1,x4,k0,k1 =>
  (bif (decide (x4 < (Int.ofNat x2))) then (bif (inb x4 x2) then (ob (F37 u (x3 x4.toNat 0).len (x3 x4.toNat 0).el) fun x5 => (bif (x5 != 0) then (k0 x5) else (ob (F38 u (x3 x4.toNat 0).len (x3 x4.toNat 0).el) fun x6 => (bif ((decide (x6 ≥ 0)) == false) then (ob (F39 u x0 x1 (x3 x4.toNat 0).len (x3 x4.toNat 0).el) fun x7 => (bif (x7 == false) then (bif (inb 0 (x3 x4.toNat 0).len) then (ob (F40 u x0 x1 ((x3 x4.toNat 0).el 0 0).int ((x3 x4.toNat 0).el 0 1).int) fun x8 => (bif (x8 != 1) then (k0 17) else (L14v2 u x4 (x3 x4.toNat 0).len (x3 x4.toNat 0).el x0 x1 x2 x3 u 0
  (k0 17)
  (L14v3 u x0 x1 x2 x3 m (w64 (x4 + 1)) k0 k1)))) else none) else (k0 17))) else (k0 17))))) else none) else k1)
theorem nl14v3 : ∀ (m : Nat) (x0 : Int) (k0 : Int → Option ρ) (k1 : Option ρ),ob (L14v3 u n0 f0 n1 f1 m x0 k0 k1) ng = L14v3 u n0 f0 n1 f1 m x0 (fun x1 => ob (k0 x1) ng) (ob k1 ng)
 | 0,_,_,_ => rfl
 | m + 1,x0,k0,k1 => by
  simp only [L14v3,ob_bif,ob_ob,ob_none,nl14v3 m,nl14v2]
def s14v6 : St := ⟨(.u :: .x (.ptr 0 0) :: .u :: .u :: vxi i0 :: .x (.c (ro kP (f0 i0.toNat 0).len (f0 i0.toNat 0).el)) :: .u :: vxi 0 :: (us 21 (.x (.ptr 0 1) :: .x (.c (ro (.pr (.sl kP) .nil) n0 f0)) :: vxi i0 :: .x (.c (.rp (.pr (.sl kP) .nil) (f0 i0.toNat))) :: .x (.c (ro kP (f0 i0.toNat 0).len (f0 i0.toNat 0).el)) :: (us 59 [])))),[.box [(.c (ro kP n1 f1)),(.c (ro (.pr (.sl kP) .nil) n0 f0))]]⟩
theorem r14v3 :
  loopH (eB A58v8 (C64 u) u) N14v3 (m + 1) (s14v3 n0 n1 f0 f1 i0) k =
  (bif (decide (i0 < (Int.ofNat n1))) then (bif (inb i0 n1) then (ob (F37 u (f1 i0.toNat 0).len (f1 i0.toNat 0).el) fun x0 => (bif (x0 != 0) then (k .ret (s14v4 n0 n1 f0 f1 x0)) else (ob (F38 u (f1 i0.toNat 0).len (f1 i0.toNat 0).el) fun x1 => (bif ((decide (x1 ≥ 0)) == false) then (ob (F39 u n0 f0 (f1 i0.toNat 0).len (f1 i0.toNat 0).el) fun x2 => (bif (x2 == false) then (bif (inb 0 (f1 i0.toNat 0).len) then (ob (F40 u n0 f0 ((f1 i0.toNat 0).el 0 0).int ((f1 i0.toNat 0).el 0 1).int) fun x3 => (bif (x3 != 1) then (k .ret (s14v4 n0 n1 f0 f1 17)) else (loopN (eB A58v3 (C64 u) u) N14v2 u (s14v6 n1 n0 f1 f0 i0) (kBlk 2 (kBlk 1 (kSeq (C64 u) u (2 :: 5 :: 6 :: 7 :: (rl 29 64 [])) A58v6 (kLoop (eB A58v8 (C64 u) u) N14v3 m k))))))) else none) else (k .ret (s14v4 n0 n1 f0 f1 17)))) else (k .ret (s14v4 n0 n1 f0 f1 17)))))) else none) else (k (.exit 0) (s14v5 n0 n1 f0 f1))) := by kernel_rfl
theorem t14v1 :
  loopN (eB A58v3 (C64 u) u) N14v2 u (s14v6 n0 n1 f0 f1 i0) k =
  L14v2 u i0 (f0 i0.toNat 0).len (f0 i0.toNat 0).el n1 f1 n0 f0 u 0 (k .ret (s14v1 n1 n0 f1 f0)) (k (.exit 2) (s14v2 n1 n0 f1 f0 i0)) :=
 Eq.trans (loopN_at (by kernel_rfl)) (q14v2 ..)
theorem g14v2 :
  (kBlk 2 (kBlk 1 (kSeq (C64 u) u (2 :: 5 :: 6 :: 7 :: (rl 29 64 [])) A58v6 (kLoop (eB A58v8 (C64 u) u) N14v3 m k)))) .ret (s14v1 n0 n1 f0 f1) =
  (k .ret (s14v4 n0 n1 f0 f1 17)) := by kernel_rfl
theorem g14v3 :
  (kBlk 2 (kBlk 1 (kSeq (C64 u) u (2 :: 5 :: 6 :: 7 :: (rl 29 64 [])) A58v6 (kLoop (eB A58v8 (C64 u) u) N14v3 m k)))) (.exit 2) (s14v2 n0 n1 f0 f1 i0) =
  (loopH (eB A58v8 (C64 u) u) N14v3 m (s14v3 n0 n1 f0 f1 (w64 (i0 + 1))) k) := by kernel_rfl
theorem q14v3 : ∀ (m : Nat) (x0 : Int),
  loopH (eB A58v8 (C64 u) u) N14v3 m (s14v3 n0 n1 f0 f1 x0) k = L14v3 u n0 f0 n1 f1 m x0 (fun x1 => k .ret (s14v4 n0 n1 f0 f1 x1)) (k (.exit 0) (s14v5 n0 n1 f0 f1))
 | 0,_ => rfl
 | m + 1,x0 => by
  rw [r14v3]
  simp only [L14v3,q14v3 m,t14v1,g14v2,g14v3]
def F14 (x0 : Nat) (x1 : FF) (x2 : Nat) (x3 : FF) : Option (Int) :=
 (bif (decide ((Int.ofNat x2) > 8)) then (some 12) else (ob (F37 u x0 x1) fun x4 => (bif (x4 != 0) then (some x4) else (ob (F38 u x0 x1) fun x5 => (bif (decide (x5 ≤ 0)) then (some 17) else (L14v3 u x0 x1 x2 x3 u 0
  (fun x6 => (some x6))
  (some 0)))))))
def s14v7 : St := ⟨(.agg [(.c (ro kP n0 f0)),(.c (ro (.pr (.sl kP) .nil) n1 f1))] :: .x (.ptr 0 0) :: .u :: .u :: vxi 0 :: uu :: uu :: uu :: (us 14 [uu,uu,uu,uu,uu,uu,uu,uu,uu,uu,uu,uu,uu,uu,uu,uu,uu,uu,uu,uu,uu,uu,uu,uu,uu,uu,uu,uu,uu,uu,uu,uu,uu,uu,uu,uu,uu,uu,uu,uu,uu,uu,uu,uu,uu,uu,uu,uu,uu,uu,uu,uu,uu,uu,uu,uu,uu,uu,uu,uu,uu,uu,uu,uu,uu,uu,uu,uu,uu,uu,uu])),[.box [(.c (ro kP n0 f0)),(.c (ro (.pr (.sl kP) .nil) n1 f1))]]⟩
theorem t14v4 :
  loopN (eB A58v8 (C64 u) u) N14v3 u (s14v7 n0 n1 f0 f1) k =
  L14v3 u n0 f0 n1 f1 u 0 (fun x0 => k .ret (s14v4 n0 n1 f0 f1 x0)) (k (.exit 0) (s14v5 n0 n1 f0 f1)) :=
 Eq.trans (loopN_at (by kernel_rfl)) (q14v3 ..)
theorem g14v5 :
  (kBlk 0 (kSeq (C64 u) u (2 :: (rl 4 4 (rl 22 71 []))) A58v9 (finish A58))) .ret (s14v4 n0 n1 f0 f1 i0) =
  (some [.v (vi i0)]) := by kernel_rfl
theorem g14v6 :
  (kBlk 0 (kSeq (C64 u) u (2 :: (rl 4 4 (rl 22 71 []))) A58v9 (finish A58))) (.exit 0) (s14v5 n0 n1 f0 f1) =
  (some [.v (vi 0)]) := by kernel_rfl
theorem e14 : evalF (C64 u) u A58 [.agg [(ro kP n0 f0),(ro (.pr (.sl kP) .nil) n1 f1)]] = ob (F14 u n0 f0 n1 f1) fun t => some [.v (vi t)] := Eq.trans (b := (bif (decide ((Int.ofNat n1) > 8)) then (some [.v (vi 12)]) else (ob (F37 u n0 f0) fun x0 => (bif (x0 != 0) then (some [.v (vi x0)]) else (ob (F38 u n0 f0) fun x1 => (bif (decide (x1 ≤ 0)) then (some [.v (vi 17)]) else (loopN (eB A58v8 (C64 u) u) N14v3 u (s14v7 n0 n1 f0 f1) (kBlk 0 (kSeq (C64 u) u (2 :: (rl 4 4 (rl 22 71 []))) A58v9 (finish A58)))))))))) (by kernel_rfl) (by
 simp only [F14,ob_bif,ob_ob,ob_none,ob_some,nl14v3,t14v4,g14v5,g14v6])
def O14 : Ora := mkO (q1 (ag (tc (cL kP) (t1 (cL (.pr (.sl kP) .nil)))))) (fun x => F14 u x.1.1 x.1.2 x.2.1 x.2.2) fun t => [.v (vi t)]
theorem d14 : DO (O14 u) (C64 u) 58 A58 := dO u (fun x => by exact e14 u x.1.1 x.2.1 x.1.2 x.2.2)
def C65 : Oracle := (C64 u).add 58 (fun _ => true) (O14 u)
def A61 : AF := ⟨9,[.tmp 2],
 (.seq (.region 0 [o1 2 (sb false)] 0 none) []
 (.seq (.region 1 [mv 3 0,o1 4 (bk .geq 3 3 (-32768)),mv 5 4,og 6 (.move (tm 0)) 5 true,og 7 (bk .leq 3 6 32768) 5 true,o1 8 (po 5 7),o1 2 (sg 8)] 0 none) []
 (.ret (0 :: 1 :: (rl 3 6 [])))))⟩
def F177 (u : Nat) (x0 : Int) : Option (Bool) :=
 (bif ((decide (x0 ≥ (-32768))) == true) then (some (decide (x0 ≤ 32768))) else (some false))
theorem e177 : evalF (C65 u) u A61 [.v (vi i0)] = ob (F177 u i0) fun t => some [.v (.b t)] := Eq.trans (b := (bif ((decide (i0 ≥ (-32768))) == true) then (some [.v (.b (decide (i0 ≤ 32768)))]) else (some [.v (.b false)]))) (by kernel_rfl) (by
 simp only [F177,ob_bif,ob_ob,ob_none,ob_some])
def O177 : Ora := mkO (q1 (av ci)) (fun x => F177 u x) fun t => [.v (.b t)]
theorem d177 : DO (O177 u) (C65 u) 61 A61 := dO u (fun x => by exact e177 u x)
def C66 : Oracle := (C65 u).add 61 (fun _ => true) (O177 u)
def A35 : AF := ⟨23,[.tmp 2],
 (.seq (.region 0 [o1 1 (bx 0 43 0),o1 2 (sb false)] 1 none) []
 (.seq (.region 1 [o1 3 (fa 43 1 2 3),o1 4 (lo 3 3),o1 5 (bk .geq 3 4 0),mv 6 5,og 7 (fa 43 1 2 3) 6 true,og 8 (lo 3 7) 6 true,og 9 (bk .leq 3 8 3) 6 true,o1 10 (po 6 9),mv 11 10,og 12 (fa 43 1 1 1) 11 true,og 13 (fa 41 12 0 0) 11 true,og 14 (lo 3 13) 11 true,og 15 (cs 61 [14] [3]) 11 true,o1 16 (po 11 15),mv 17 16,og 18 (fa 43 1 1 1) 17 true,og 19 (fa 41 18 1 1) 17 true,og 20 (lo 3 19) 17 true,og 21 (cs 61 [20] [3]) 17 true,o1 22 (po 17 21),o1 2 (sg 22)] 0 none) []
 (.ghost [0] (.ret (0 :: 1 :: (rl 3 20 []))))))⟩
def F178 (x0 : ByteArray) (x1 x2 x3 : Int) (x4 : Bool) : Option (Bool) :=
 (bif ((decide (x3 ≥ 0)) == true) then (bif ((decide (x3 ≤ 3)) == true) then (ob (F177 u x1) fun x5 => (bif (x5 == true) then (ob (F177 u x2) fun x6 => (some x6)) else (some false))) else (some false)) else (some false))
theorem e178 : evalF (C66 u) u A35 [.agg [(.s w0),(vi i0),(vi i1),(vi i2),(.b b0)]] = ob (F178 u w0 i0 i1 i2 b0) fun t => some [.v (.b t)] := Eq.trans (b := (bif ((decide (i2 ≥ 0)) == true) then (bif ((decide (i2 ≤ 3)) == true) then (ob (F177 u i0) fun x0 => (bif (x0 == true) then (ob (F177 u i1) fun x1 => (some [.v (.b x1)])) else (some [.v (.b false)]))) else (some [.v (.b false)])) else (some [.v (.b false)]))) (by kernel_rfl) (by
 simp only [F178,ob_bif,ob_ob,ob_none,ob_some])
def O178 : Ora := mkO (q1 (ag (tc cS (tc ci (tc ci (tc ci (t1 cB))))))) (fun x => F178 u x.1 x.2.1 x.2.2.1 x.2.2.2.1 x.2.2.2.2) fun t => [.v (.b t)]
theorem d178 : DO (O178 u) (C66 u) 35 A35 := dO u (fun x => by exact e178 u x.2.1 x.2.2.1 x.2.2.2.1 x.2.2.2.2 x.1)
def C67 : Oracle := (C66 u).add 35 (fun _ => true) (O178 u)
def A62 : AF := ⟨9,[.tmp 2],
 (.seq (.region 0 [o1 1 (bx 0 50 0),o1 2 (.assign (.const (.slice none 0 0)))] 1 none) []
 (.seq (.region 1 [o1 3 (fa 50 1 0 0),o1 4 (lo 47 3),o1 5 (.buildSlice 0 48 47 (.pr (.sl kP) .nil) 1 [vcn] [(0,(tm 4))]),o1 6 (fa 50 1 1 1),o1 7 (lo 48 6),o1 8 (.append 1 48 47 (.pr (.sl kP) .nil) 24 (tm 5) (tm 7)),o1 2 (sg 8)] 2 none) []
 (.ret (0 :: 1 :: (rl 3 6 [])))))⟩
def F44 (u : Nat) (x0 : Nat) (x1 : FF) (x2 : Nat) (x3 : FF) : Option (Nat × FF) :=
 (bif (Nat.ble (1 + x2) 1073741824) then (some ((1 + x2),(joinF 1 (rowsF 1 [(.ro false (.pr (.int .i64) (.pr (.int .i64) .nil)) x0 x1)]) x3))) else none)
theorem e44 : evalF (C67 u) u A62 [.agg [(ro kP n0 f0),(ro (.pr (.sl kP) .nil) n1 f1)]] = ob (F44 u n0 f0 n1 f1) fun t => some [.v (ro (.pr (.sl kP) .nil) t.1 t.2)] := Eq.trans (b := (bif (Nat.ble (1 + n1) 1073741824) then (some [.v (ro (.pr (.sl kP) .nil) (1 + n1) (joinF 1 (rowsF 1 [(ro kP n0 f0)]) f1))]) else none)) (by kernel_rfl) (by
 simp only [F44,ob_bif,ob_ob,ob_none,ob_some])
def O44 : Ora := mkO (q1 (ag (tc (cL kP) (t1 (cL (.pr (.sl kP) .nil)))))) (fun x => F44 u x.1.1 x.1.2 x.2.1 x.2.2) fun t => [.v (ro (.pr (.sl kP) .nil) t.1 t.2)]
theorem d44 : DO (O44 u) (C67 u) 62 A62 := dO u (fun x => by exact e44 u x.1.1 x.2.1 x.1.2 x.2.2)
def C68 : Oracle := (C67 u).add 62 (fun _ => true) (O44 u)
def A63 : AF := ⟨21,[.tmp 2],
 (.seq (.region 0 [o1 1 (bx 0 41 0),o1 2 (sb false)] 1 none) []
 (.seq (.region 1 [o1 3 (fa 41 1 0 0),o1 4 (lo 3 3),o1 5 (bk .lss 3 4 (-1099511627776)),mv 6 5,og 7 (fa 41 1 0 0) 6 false,og 8 (lo 3 7) 6 false,og 9 (bk .gtr 3 8 1099511627776) 6 false,o1 10 (pa 6 9),mv 11 10,og 12 (fa 41 1 1 1) 11 false,og 13 (lo 3 12) 11 false,og 14 (bk .lss 3 13 (-1099511627776)) 11 false,o1 15 (pa 11 14),mv 16 15,og 17 (fa 41 1 1 1) 16 false,og 18 (lo 3 17) 16 false,og 19 (bk .gtr 3 18 1099511627776) 16 false,o1 20 (pa 16 19),o1 2 (sg 20)] 0 none) []
 (.ret (0 :: 1 :: (rl 3 18 [])))))⟩
def F53 (u : Nat) (x0 x1 : Int) : Option (Bool) :=
 (bif ((decide (x0 < (-1099511627776))) == false) then (bif ((decide (x0 > 1099511627776)) == false) then (bif ((decide (x1 < (-1099511627776))) == false) then (some (decide (x1 > 1099511627776))) else (some true)) else (some true)) else (some true))
theorem e53 : evalF (C68 u) u A63 [.agg [(vi i0),(vi i1)]] = ob (F53 u i0 i1) fun t => some [.v (.b t)] := Eq.trans (b := (bif ((decide (i0 < (-1099511627776))) == false) then (bif ((decide (i0 > 1099511627776)) == false) then (bif ((decide (i1 < (-1099511627776))) == false) then (some [.v (.b (decide (i1 > 1099511627776)))]) else (some [.v (.b true)])) else (some [.v (.b true)])) else (some [.v (.b true)]))) (by kernel_rfl) (by
 simp only [F53,ob_bif,ob_ob,ob_none,ob_some])
def O53 : Ora := mkO (q1 (ag (tc ci (t1 ci)))) (fun x => F53 u x.1 x.2) fun t => [.v (.b t)]
theorem d53 : DO (O53 u) (C68 u) 63 A63 := dO u (fun x => by exact e53 u x.1 x.2)
def C69 : Oracle := (C68 u).add 63 (fun _ => true) (O53 u)
def A82v1 : AC := (.seq (.block 1
 (.region 6 [o1 18 (fa 41 2 1 1),o1 19 (lo 3 18),o1 20 (.unOp .neg 3 (tm 19)),o1 21 (fa 41 2 0 0),o1 22 (lo 3 21),o1 23 (.build 41 [vci 0,vci 0] [(0,1),(1,1)] 0 [(0,(tm 20)),(1,(tm 22))]),o0 (.store 41 2 (tm 2) (tm 23))] 0 none)) []
 (.region 5 [mv 16 5,o1 17 (bk .add 3 16 1),o1 5 (sg 17)] 0 none))
def A82v2 : AC := (.seq (.seq (.region 4 [mv 12 5,o1 13 (fa 43 3 2 3),o1 14 (lo 3 13),o1 15 (bt .lss 3 12 14)] 0 none) []
 (.cond (tm 15)
 .skip
 (.exit 0 (0 :: 1 :: (rl 5 32 []))))) (rl 12 4 [])
 A82v1)
def A82v3 : AC := (.seq (.region 7 [o1 24 (fa 41 2 0 0),o1 25 (lo 3 24),o1 26 (fa 43 3 1 1),o1 27 (fa 41 26 0 0),o1 28 (lo 3 27),o1 29 (bt .add 3 25 28),o1 30 (fa 41 2 1 1),o1 31 (lo 3 30),o1 32 (fa 43 3 1 1),o1 33 (fa 41 32 1 1),o1 34 (lo 3 33),o1 35 (bt .add 3 31 34),o1 36 (.build 41 [vci 0,vci 0] [(0,1),(1,1)] 0 [(0,(tm 29)),(1,(tm 35))]),o0 (.store 41 2 (tm 4) (tm 36))] 0 none) []
 (.ret (rl 0 4 (rl 5 32 []))))
def A82v4 : AC := (.seq (.seq (.region 3 [o1 5 (sk 0)] 0 none) []
 (.block 0
 (.loop [] (0 :: 1 :: (rl 6 31 []))
  A82v2))) (5 :: (rl 12 12 []))
 A82v3)
def A82 : AF := ⟨37,[.cell 4 41 (some 2)],
 (.seq (.region 0 [o1 2 (bx 0 41 0),o1 3 (bx 1 43 1),o1 4 (.alloc 2 41 [vci 0,vci 0])] 3 none) []
 (.seq (.seq (.region 1 [o1 6 (fa 43 3 3 4),o1 7 (lo 4 6)] 0 none) []
 (.cond (tm 7)
 (.region 2 [o1 8 (fa 41 2 0 0),o1 9 (lo 3 8),o1 10 (.unOp .neg 3 (tm 9)),o1 11 (fa 41 2 0 0),o0 (.store 3 1 (tm 11) (tm 10))] 0 none)
 .skip)) (rl 6 6 [])
 A82v4))⟩
def N32v1 : St → Option St := nN 3 (0 :: 1 :: (rl 6 31 []))
def s32v0 : St := ⟨(.u :: .u :: .x (.ptr 0 0) :: .x (.ptr 1 0) :: .x (.ptr 2 0) :: vxi i0 :: (us 31 [])),[.box [(vci i1),(vci i2)],.box [(vcs w0),(vci i3),(vci i4),(vci i5),(vcb b0)],.box [(vci 0),(vci 0)]]⟩
def s32v1 : St := ⟨(.u :: .u :: .x (.ptr 0 0) :: .x (.ptr 1 0) :: .x (.ptr 2 0) :: (us 32 [])),[.box [(vci i0),(vci i1)],.box [(vcs w0),(vci i2),(vci i3),(vci i4),(vcb b0)],.box [(vci 0),(vci 0)]]⟩
def L32v1 {ρ : Type} (u : Nat) (x0 : ByteArray) (x1 x2 x3 : Int) (x4 : Bool) : Nat → Int → Int → Int → (Int → Int → Option ρ) → Option ρ
 | 0,_,_,_,_ => none
 | m + 1,x5,x6,x7,k0 =>
  (bif (decide (x5 < x3)) then (L32v1 u x0 x1 x2 x3 x4 m (w64 (x5 + 1)) (w64 (0 - x7)) x6 k0) else (k0 x6 x7))
theorem nl32v1 : ∀ (m : Nat) (x0 x1 x2 : Int) (k0 : Int → Int → Option ρ),ob (L32v1 u w0 i0 i1 i2 b0 m x0 x1 x2 k0) ng = L32v1 u w0 i0 i1 i2 b0 m x0 x1 x2 (fun x3 x4 => ob (k0 x3 x4) ng)
 | 0,_,_,_,_ => rfl
 | m + 1,x0,x1,x2,k0 => by
  simp only [L32v1,ob_bif,ob_ob,ob_none,nl32v1 m]
theorem r32v1 :
  loopH (eB A82v2 (C69 u) u) N32v1 (m + 1) (s32v0 i3 i4 i5 i0 i1 i2 b0 w0) k =
  (bif (decide (i3 < i2)) then (loopH (eB A82v2 (C69 u) u) N32v1 m (s32v0 (w64 (i3 + 1)) (w64 (0 - i5)) i4 i0 i1 i2 b0 w0) k) else (k (.exit 0) (s32v1 i4 i5 i0 i1 i2 b0 w0))) := by kernel_rfl
theorem q32v1 : ∀ (m : Nat) (x0 x1 x2 : Int),
  loopH (eB A82v2 (C69 u) u) N32v1 m (s32v0 x0 x1 x2 i0 i1 i2 b0 w0) k = L32v1 u w0 i0 i1 i2 b0 m x0 x1 x2 (fun x3 x4 => k (.exit 0) (s32v1 x3 x4 i0 i1 i2 b0 w0))
 | 0,_,_,_ => rfl
 | m + 1,x0,x1,x2 => by
  rw [r32v1]
  simp only [L32v1,q32v1 m]
def F32 (x0 x1 : Int) (x2 : ByteArray) (x3 x4 x5 : Int) (x6 : Bool) : Option (Int × Int) :=
 (bif x6 then (L32v1 u x2 x3 x4 x5 x6 u 0 (w64 (0 - x0)) x1
  (fun x7 x8 => (some ((w64 (x7 + x3)),(w64 (x8 + x4)))))) else (L32v1 u x2 x3 x4 x5 x6 u 0 x0 x1
  (fun x9 xA => (some ((w64 (x9 + x3)),(w64 (xA + x4)))))))
def s32v2 : St := ⟨(.agg [(vci i0),(vci i1)] :: .agg [(vcs w0),(vci i2),(vci i3),(vci i4),(vcb b0)] :: .x (.ptr 0 0) :: .x (.ptr 1 0) :: .x (.ptr 2 0) :: vxi 0 :: (us 6 [uu,uu,uu,uu,uu,uu,uu,uu,uu,uu,uu,uu,uu,uu,uu,uu,uu,uu,uu,uu,uu,uu,uu,uu,uu])),[.box [(vci (w64 (0 - i0))),(vci i1)],.box [(vcs w0),(vci i2),(vci i3),(vci i4),(vcb b0)],.box [(vci 0),(vci 0)]]⟩
def s32v3 : St := ⟨(.agg [(vci i0),(vci i1)] :: .agg [(vcs w0),(vci i2),(vci i3),(vci i4),(vcb b0)] :: .x (.ptr 0 0) :: .x (.ptr 1 0) :: .x (.ptr 2 0) :: vxi 0 :: (us 6 [uu,uu,uu,uu,uu,uu,uu,uu,uu,uu,uu,uu,uu,uu,uu,uu,uu,uu,uu,uu,uu,uu,uu,uu,uu])),[.box [(vci i0),(vci i1)],.box [(vcs w0),(vci i2),(vci i3),(vci i4),(vcb b0)],.box [(vci 0),(vci 0)]]⟩
theorem t32v1 :
  loopN (eB A82v2 (C69 u) u) N32v1 u (s32v2 i0 i1 i2 i3 i4 b0 w0) k =
  L32v1 u w0 i2 i3 i4 b0 u 0 (w64 (0 - i0)) i1 (fun x0 x1 => k (.exit 0) (s32v1 x0 x1 i2 i3 i4 b0 w0)) :=
 Eq.trans (loopN_at (by kernel_rfl)) (q32v1 ..)
theorem g32v2 :
  (kBlk 0 (kSeq (C69 u) u (5 :: (rl 12 12 [])) A82v3 (finish A82))) (.exit 0) (s32v1 i0 i1 i2 i3 i4 b0 w0) =
  (some [.agg [(vi (w64 (i0 + i2))),(vi (w64 (i1 + i3)))]]) := by kernel_rfl
theorem t32v3 :
  loopN (eB A82v2 (C69 u) u) N32v1 u (s32v3 i0 i1 i2 i3 i4 b0 w0) k =
  L32v1 u w0 i2 i3 i4 b0 u 0 i0 i1 (fun x0 x1 => k (.exit 0) (s32v1 x0 x1 i2 i3 i4 b0 w0)) :=
 Eq.trans (loopN_at (by kernel_rfl)) (q32v1 ..)
theorem g32v4 :
  (kBlk 0 (kSeq (C69 u) u (5 :: (rl 12 12 [])) A82v3 (finish A82))) (.exit 0) (s32v1 i0 i1 i2 i3 i4 b0 w0) =
  (some [.agg [(vi (w64 (i0 + i2))),(vi (w64 (i1 + i3)))]]) := by kernel_rfl
theorem e32 : evalF (C69 u) u A82 [.agg [(vi i0),(vi i1)],.agg [(.s w0),(vi i2),(vi i3),(vi i4),(.b b0)]] = ob (F32 u i0 i1 w0 i2 i3 i4 b0) fun t => some [.agg [(vi t.1),(vi t.2)]] := Eq.trans (b := (bif b0 then (loopN (eB A82v2 (C69 u) u) N32v1 u (s32v2 i0 i1 i2 i3 i4 b0 w0) (kBlk 0 (kSeq (C69 u) u (5 :: (rl 12 12 [])) A82v3 (finish A82)))) else (loopN (eB A82v2 (C69 u) u) N32v1 u (s32v3 i0 i1 i2 i3 i4 b0 w0) (kBlk 0 (kSeq (C69 u) u (5 :: (rl 12 12 [])) A82v3 (finish A82)))))) (by kernel_rfl) (by
 simp only [F32,ob_bif,ob_ob,ob_none,ob_some,nl32v1,t32v1,g32v2,t32v3,g32v4])
def O32 : Ora := mkO (qc (ag (tc ci (t1 ci))) (q1 (ag (tc cS (tc ci (tc ci (tc ci (t1 cB)))))))) (fun x => F32 u x.1.1 x.1.2 x.2.1 x.2.2.1 x.2.2.2.1 x.2.2.2.2.1 x.2.2.2.2.2) fun t => [.agg [(vi t.1),(vi t.2)]]
theorem d32 : DO (O32 u) (C69 u) 82 A82 := dO u (fun x => by exact e32 u x.1.1 x.1.2 x.2.2.1 x.2.2.2.1 x.2.2.2.2.1 x.2.2.2.2.2 x.2.1)
def C70 : Oracle := (C69 u).add 82 (fun _ => true) (O32 u)
def A64v1 : AC := (.region 8 [mv 22 5,mv 23 0,mv 24 7,o1 25 (.indexAddr 47 41 2 (tm 23) (tm 24)),o1 26 (ln 41 2 25),o1 27 (ln 43 5 3),o1 28 (cs 82 [26,27] [41,43]),o1 29 (.buildSlice 0 47 41 kP 1 [vci 0,vci 0] [(0,(tm 28))]),o1 30 (.append 1 47 41 kP 16 (tm 22) (tm 29)),o1 5 (sg 30)] 2 (some [[],[],[],[1,2],[1,2,3],[],(rl 1 5 []),(rl 1 6 []),(rl 0 8 []),(rl 0 9 [])]))
def A64v2 : AC := (.region 4 [mv 12 6,o1 13 (bk .add 3 12 1),o1 6 (sg 13)] 0 none)
def A64v3 : AC := (.seq (.block 1
 (.seq (.region 5 [mv 14 6,o1 7 (sg 14)] 0 none) []
  (.seq (.seq (.region 6 [o1 15 (fa 43 3 3 4),o1 16 (lo 4 15)] 0 none) []
  (.cond (tm 16)
  (.region 7 [mv 17 0,o1 18 (.len 47 false (tm 17)),o1 19 (bk .sub 3 18 1),mv 20 6,o1 21 (bt .sub 3 19 20),o1 7 (sg 21)] 0 none)
  .skip)) (rl 15 7 [])
  A64v1))) (7 :: (rl 14 17 []))
 A64v2)
def A64v4 : AC := (.seq (.seq (.region 3 [mv 8 6,mv 9 0,o1 10 (.len 47 false (tm 9)),o1 11 (bt .lss 3 8 10)] 0 none) []
 (.cond (tm 11)
 .skip
 (.exit 0 (rl 0 5 (rl 6 26 []))))) (rl 8 4 [])
 A64v3)
def A64v5 : AC := (.seq (.region 9 [mv 31 5,o1 4 (sg 31)] 0 none) []
 (.ret (rl 0 4 (rl 5 27 []))))
def A64 : AF := ⟨32,[.tmp 4],
 (.seq (.region 0 [o1 3 (bx 0 43 1),o1 4 (.assign (.const (.slice none 0 0)))] 1 none) []
 (.seq (.region 1 [o1 5 (.assign (.const (.slice none 0 0)))] 0 none) []
 (.seq (.seq (.region 2 [o1 6 (sk 0)] 0 none) []
 (.block 0
 (.loop [.slot 5 kP] (1 :: 2 :: 4 :: (rl 7 25 []))
  A64v4))) (rl 6 25 [])
 A64v5)))⟩
def N54v1 : St → Option St := nN 2 (1 :: 2 :: 4 :: (rl 7 25 []))
def s54v0 : St := ⟨(.x (.c (ro kP n0 f0)) :: .u :: .u :: .x (.ptr 0 0) :: .u :: .x (.own 1 0 n1) :: vxi i0 :: (us 25 [])),[.box [(vcs w0),(vci i1),(vci i2),(vci i3),(vcb b0)],.arr kP n1 f1]⟩
def s54v1 : St := ⟨(us 5 (.x (.own 1 0 n0) :: (us 26 []))),[.box [(vcs w0),(vci i0),(vci i1),(vci i2),(vcb b0)],.arr kP n0 f0]⟩
def L54v1 {ρ : Type} (u : Nat) (x0 : Nat) (x1 : FF) (x2 : ByteArray) (x3 x4 x5 : Int) (x6 : Bool) : Nat → Nat → Int → FF → (Nat → FF → Option ρ) → Option ρ
 | 0,_,_,_,_ => none
 | m + 1,x7,x8,x9,k0 =>
  (bif (decide (x8 < (Int.ofNat x0))) then (bif x6 then (bif (inb (w64 ((w64 ((Int.ofNat x0) - 1)) - x8)) x0) then (ob (F32 u (CV.int (x1 (Int.toNat (w64 ((w64 ((Int.ofNat x0) - 1)) - x8))) 0)) (CV.int (x1 (Int.toNat (w64 ((w64 ((Int.ofNat x0) - 1)) - x8))) 1)) x2 x3 x4 x5 x6) fun xA => (bif (Nat.ble (x7 + 1) 1073741824) then (L54v1 u x0 x1 x2 x3 x4 x5 x6 m (x7 + 1) (w64 (x8 + 1)) (joinF x7 x9 (rowsF 2 [(.i .i64 xA.1),(.i .i64 xA.2)])) k0) else none)) else none) else (bif (inb x8 x0) then (ob (F32 u (x1 x8.toNat 0).int (x1 x8.toNat 1).int x2 x3 x4 x5 x6) fun xB => (bif (Nat.ble (x7 + 1) 1073741824) then (L54v1 u x0 x1 x2 x3 x4 x5 x6 m (x7 + 1) (w64 (x8 + 1)) (joinF x7 x9 (rowsF 2 [(.i .i64 xB.1),(.i .i64 xB.2)])) k0) else none)) else none)) else (k0 x7 x9))
theorem nl54v1 : ∀ (m : Nat) (x0 : Nat) (x1 : Int) (x2 : FF) (k0 : Nat → FF → Option ρ),ob (L54v1 u n0 f0 w0 i0 i1 i2 b0 m x0 x1 x2 k0) ng = L54v1 u n0 f0 w0 i0 i1 i2 b0 m x0 x1 x2 (fun x3 x4 => ob (k0 x3 x4) ng)
 | 0,_,_,_,_ => rfl
 | m + 1,x0,x1,x2,k0 => by
  simp only [L54v1,ob_bif,ob_ob,ob_none,nl54v1 m]
theorem r54v1 :
  loopH (eB A64v4 (C70 u) u) N54v1 (m + 1) (s54v0 n0 n1 f0 f1 i3 i0 i1 i2 b0 w0) k =
  (bif (decide (i3 < (Int.ofNat n0))) then (bif b0 then (bif (inb (w64 ((w64 ((Int.ofNat n0) - 1)) - i3)) n0) then (ob (F32 u (CV.int (f0 (Int.toNat (w64 ((w64 ((Int.ofNat n0) - 1)) - i3))) 0)) (CV.int (f0 (Int.toNat (w64 ((w64 ((Int.ofNat n0) - 1)) - i3))) 1)) w0 i0 i1 i2 b0) fun x0 => (bif (Nat.ble (n1 + 1) 1073741824) then (loopH (eB A64v4 (C70 u) u) N54v1 m (s54v0 n0 (n1 + 1) f0 (joinF n1 f1 (rowsF 2 [(vi x0.1),(vi x0.2)])) (w64 (i3 + 1)) i0 i1 i2 b0 w0) k) else none)) else none) else (bif (inb i3 n0) then (ob (F32 u (f0 i3.toNat 0).int (f0 i3.toNat 1).int w0 i0 i1 i2 b0) fun x1 => (bif (Nat.ble (n1 + 1) 1073741824) then (loopH (eB A64v4 (C70 u) u) N54v1 m (s54v0 n0 (n1 + 1) f0 (joinF n1 f1 (rowsF 2 [(vi x1.1),(vi x1.2)])) (w64 (i3 + 1)) i0 i1 i2 b0 w0) k) else none)) else none)) else (k (.exit 0) (s54v1 n1 f1 i0 i1 i2 b0 w0))) := by kernel_rfl
theorem q54v1 : ∀ (m : Nat) (x0 : Nat) (x1 : Int) (x2 : FF),
  loopH (eB A64v4 (C70 u) u) N54v1 m (s54v0 n0 x0 f0 x2 x1 i0 i1 i2 b0 w0) k = L54v1 u n0 f0 w0 i0 i1 i2 b0 m x0 x1 x2 (fun x3 x4 => k (.exit 0) (s54v1 x3 x4 i0 i1 i2 b0 w0))
 | 0,_,_,_ => rfl
 | m + 1,x0,x1,x2 => by
  rw [r54v1]
  simp only [L54v1,q54v1 m]
def F54 (x0 : Nat) (x1 : FF) (x2 : ByteArray) (x3 x4 x5 : Int) (x6 : Bool) : Option (Nat × FF) :=
 (L54v1 u x0 x1 x2 x3 x4 x5 x6 u 0 0 (fun _ _ => .any)
  (fun x7 x8 => (some (x7,x8))))
def s54v2 : St := ⟨[.x (.c (ro kP n0 f0)),.agg [(vcs w0),(vci i0),(vci i1),(vci i2),(vcb b0)],uu,.x (.ptr 0 0),.x (vcn),.x (.own 1 0 0),vxi 0,uu,uu,uu,uu,uu,uu,uu,uu,uu,uu,uu,uu,uu,uu,uu,uu,uu,uu,uu,uu,uu,uu,uu,uu,uu],[.box [(vcs w0),(vci i0),(vci i1),(vci i2),(vcb b0)],.arr kP 0 nilF]⟩
theorem t54v1 :
  loopN (eB A64v4 (C70 u) u) N54v1 u (s54v2 n0 f0 i0 i1 i2 b0 w0) k =
  L54v1 u n0 f0 w0 i0 i1 i2 b0 u 0 0 nilF (fun x0 x1 => k (.exit 0) (s54v1 x0 x1 i0 i1 i2 b0 w0)) :=
 Eq.trans (loopN_at (by kernel_rfl)) (q54v1 ..)
theorem g54v2 :
  (kBlk 0 (kSeq (C70 u) u (rl 6 25 []) A64v5 (finish A64))) (.exit 0) (s54v1 n0 f0 i0 i1 i2 b0 w0) =
  (some [.v (ro kP n0 f0)]) := by kernel_rfl
theorem e54 : evalF (C70 u) u A64 [.v (ro kP n0 f0),.agg [(.s w0),(vi i0),(vi i1),(vi i2),(.b b0)]] = ob (F54 u n0 f0 w0 i0 i1 i2 b0) fun t => some [.v (ro kP t.1 t.2)] := Eq.trans (b := (loopN (eB A64v4 (C70 u) u) N54v1 u (s54v2 n0 f0 i0 i1 i2 b0 w0) (kBlk 0 (kSeq (C70 u) u (rl 6 25 []) A64v5 (finish A64))))) (by kernel_rfl) (by
 simp only [F54,ob_bif,ob_ob,ob_none,ob_some,nl54v1,t54v1,g54v2])
def O54 : Ora := mkO (qc (av (cL kP)) (q1 (ag (tc cS (tc ci (tc ci (tc ci (t1 cB)))))))) (fun x => F54 u x.1.1 x.1.2 x.2.1 x.2.2.1 x.2.2.2.1 x.2.2.2.2.1 x.2.2.2.2.2) fun t => [.v (ro kP t.1 t.2)]
theorem d54 : DO (O54 u) (C70 u) 64 A64 := dO u (fun x => by exact e54 u x.1.1 x.1.2 x.2.2.1 x.2.2.2.1 x.2.2.2.2.1 x.2.2.2.2.2 x.2.1)
def C71 : Oracle := (C70 u).add 64 (fun _ => true) (O54 u)
end Go.Eng.R13
