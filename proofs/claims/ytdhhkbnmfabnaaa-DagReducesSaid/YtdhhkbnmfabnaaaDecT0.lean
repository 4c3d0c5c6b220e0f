/-
 The functions of the program,run on symbols; printed by decomp.py.
-/
import Derived.Test.YtdhhkbnmfabnaaaEngS
import Derived.Test.YtdhhkbnmfabnaaaEngX0
import Derived.Test.YtdhhkbnmfabnaaaEngY
import Derived.Test.YtdhhkbnmfabnaaaEngZ1
set_option linter.all false
set_option maxRecDepth 1000000
set_option maxHeartbeats 4000000
namespace Go.Eng.R13
open Go Go.RowKit Go.Eng
abbrev kA : Kd := (.pr (.int .i64) (.pr (.int .i64) .bool))
abbrev kB : Kd := (.pr (.sl (.pr .bool .nil)) .nil)
abbrev uu : V := .undef
abbrev ro : Kd → Nat → FF → CV := CV.ro false
variable {ρ σ : Type} (u m : Nat) (k : Ex → St → Option ρ) (ng : ρ → Option σ) (n0 n1 n2 n3 : Nat) (f0 f1 f2 f3 f4 : FF) (i0 i1 i2 i3 i4 i5 i6 i7 : Int) (b0 : Bool) (u0 : Nat → Nat)
def C0 (u : Nat) : Oracle := ⟨fun _ _ {_} _ => none,fun _ _ {_} _ => rfl,fun f r n g rest => bif (false) && rest.isEmpty then some (revF n g) else none,fun f r args => match args with | [.v (.ro _ r1 n g)] => bif ((Nat.beq f 34 && r.beq kP)) && r.beq r1 then some (n,g) else none | _ => none,fun f r n g rest => bif ((Nat.beq f 39 && r.beq kP)) && rest.isEmpty then some (cutN n g,cutF n g) else none⟩
def CE (u : Nat) : Oracle := ⟨fun _ _ {_} _ => none,fun _ _ {_} _ => rfl,fun _ _ _ _ _ => none,fun _ _ _ => none,fun _ _ _ _ _ => none⟩
theorem soundE {P : Program} : Sound P (CE u) := ⟨fun _ _ _ h => (by cases h),fun _ _ _ _ _ _ h => (by cases h),fun _ _ _ _ _ h => (by cases h),fun _ _ _ _ _ _ _ h => (by cases h)⟩
def A39v1 : AC := (.region 10 [mv 33 5,o1 34 (bk .add 3 33 1),o1 5 (sg 34)] 0 none)
def A39v2 : AC := (.seq (.block 3
 (.seq (.region 11 [mv 35 4,mv 36 5,o1 37 (.indexAddr 22 31 2 (tm 35) (tm 36)),o1 38 (ln 31 2 37),mv 39 4,mv 40 5,o1 41 (bk .sub 3 40 1),o1 42 (.indexAddr 22 31 2 (tm 39) (tm 41)),o1 43 (ln 31 2 42),o1 44 (.eqA true kP 31 (tm 38) (tm 43) 31)] 0 (some [[],[],[0,1],[0,1,2],[],[],[5],[4,5,6],(rl 4 4 []),(rl 0 9 [])])) []
  (.cond (tm 44)
  (.seq (.region 12 [mv 45 0,mv 46 3,mv 47 4,mv 48 5,o1 49 (.indexAddr 22 31 2 (tm 47) (tm 48)),o1 50 (ln 31 2 49),o1 51 (.indexAddr 22 31 2 (tm 45) (tm 46)),o0 (.store 31 2 (tm 51) (tm 50))] 0 none) []
   (.region 13 [mv 52 3,o1 53 (bk .add 3 52 1),o1 3 (sg 53)] 0 none))
  .skip))) (rl 35 19 [])
 A39v1)
def A39v3 : AC := (.seq (.seq (.region 9 [mv 29 5,mv 30 4,o1 31 (.len 22 false (tm 30)),o1 32 (bt .lss 3 29 31)] 0 none) []
 (.cond (tm 32)
 .skip
 (.exit 2 (1 :: 2 :: (rl 4 57 []))))) (rl 29 4 [])
 A39v2)
def A39v4 : AC := (.seq (.region 14 [mv 54 0,mv 55 3,o1 56 (.slice 22 31 2 (tm 54) (some (tm 55)) none none),o0 (.clear 22 31 [(vi 0),(vi 0)] (tm 56))] 0 none) []
 (.seq (.region 15 [mv 57 0,mv 58 3,o1 59 (.slice 22 31 2 (tm 57) none (some (tm 58)) none),o1 2 (sg 59)] 0 none) []
 (.ret (0 :: 1 :: (rl 3 58 [])))))
def A39v5 : AC := (.region 5 [mv 14 3,o1 15 (bk .add 3 14 1),o1 3 (sg 15)] 0 none)
def A39v6 : AC := (.seq (.block 1
 (.seq (.region 6 [mv 16 0,mv 17 3,o1 18 (.indexAddr 22 31 2 (tm 16) (tm 17)),o1 19 (ln 31 2 18),mv 20 0,mv 21 3,o1 22 (bk .sub 3 21 1),o1 23 (.indexAddr 22 31 2 (tm 20) (tm 22)),o1 24 (ln 31 2 23),o1 25 (.eqA false kP 31 (tm 19) (tm 24) 31)] 0 (some [[],[],[0,1],[0,1,2],[],[],[5],[4,5,6],(rl 4 4 []),(rl 0 9 [])])) []
  (.cond (tm 25)
  (.seq (.region 7 [mv 26 0,mv 27 3,o1 28 (.slice 22 31 2 (tm 26) (some (tm 27)) none none),o1 4 (sg 28)] 0 none) []
   (.seq (.seq (.region 8 [o1 5 (sk 1)] 0 none) []
   (.block 2
   (.loop [] (1 :: 2 :: (rl 6 55 []))
    A39v3))) (5 :: (rl 29 25 []))
   A39v4))
  .skip))) (2 :: 4 :: 5 :: (rl 16 44 []))
 A39v5)
def A39v7 : AC := (.seq (.seq (.region 4 [mv 10 3,mv 11 0,o1 12 (.len 22 false (tm 11)),o1 13 (bt .lss 3 10 12)] 0 none) []
 (.cond (tm 13)
 .skip
 (.exit 0 (rl 1 60 [])))) (rl 10 4 [])
 A39v6)
def A39v8 : AC := (.seq (.region 16 [mv 60 0,o1 2 (sg 60)] 0 none) []
 (.ret (0 :: 1 :: (rl 3 58 []))))
def A39v9 : AC := (.seq (.seq (.region 3 [o1 3 (sk 1)] 0 none) []
 (.block 0
 (.loop [] (1 :: 2 :: (rl 4 57 []))
  A39v7))) (rl 2 4 (rl 10 50 []))
 A39v8)
def A39 : AF := ⟨61,[.tmp 2],
 (.seq (.region 0 [o1 2 (.assign (.const (.slice none 0 0)))] 0 none) []
 (.seq (.seq (.region 1 [mv 6 0,o1 7 (.len 22 false (tm 6)),o1 8 (bk .lss 3 7 2)] 0 none) []
 (.cond (tm 8)
 (.seq (.region 2 [mv 9 0,o1 2 (sg 9)] 0 none) []
  (.ret (0 :: 1 :: (rl 3 58 []))))
 .skip)) (2 :: (rl 6 4 []))
 A39v9))⟩
def N250v2 : St → Option St := nN 1 (1 :: 2 :: (rl 6 55 []))
def s250v0 : St := ⟨(.x (.own 0 0 n0) :: .u :: .u :: vxi i0 :: .x (.own 0 n1 n2) :: vxi i1 :: (us 55 [])),[.arr kA n0 f0]⟩
def s250v1 : St := ⟨(.x (.own 0 0 n0) :: .u :: .u :: vxi i0 :: (us 57 [])),[.arr kA n0 f0]⟩
def L250v2 {ρ : Type} (u : Nat) (x0 x1 x2 : Nat) : Nat → Int → Int → FF → (Int → FF → Option ρ) → Option ρ
 | 0,_,_,_,_ => none
 | m + 1,x3,x4,x5,k0 =>
  (bif (decide (x4 < (Int.ofNat x2))) then (bif (inb x4 x2) then (bif (inb (w64 (x4 - 1)) x2) then (bif (!(((x5 (x1 + x4.toNat) 0).int == (CV.int (x5 (x1 + (Int.toNat (w64 (x4 - 1)))) 0))) && (((x5 (x1 + x4.toNat) 1).int == (CV.int (x5 (x1 + (Int.toNat (w64 (x4 - 1)))) 1))) && true))) then (bif (inb x4 x2) then (bif (inb x3 x0) then (L250v2 u x0 x1 x2 m (w64 (x3 + 1)) (w64 (x4 + 1)) (setF x5 (0 + x3.toNat) 0 2 (listF [(.i .i64 (x5 (x1 + x4.toNat) 0).int),(.i .i64 (x5 (x1 + x4.toNat) 1).int)])) k0) else none) else none) else (L250v2 u x0 x1 x2 m x3 (w64 (x4 + 1)) x5 k0)) else none) else none) else (k0 x3 x5))
theorem r250v2 :
  loopH (eB A39v3 (CE u) u) N250v2 (m + 1) (s250v0 n0 n1 n2 f0 i0 i1) k =
  (bif (decide (i1 < (Int.ofNat n2))) then (bif (inb i1 n2) then (bif (inb (w64 (i1 - 1)) n2) then (bif (!(((f0 (n1 + i1.toNat) 0).int == (CV.int (f0 (n1 + (Int.toNat (w64 (i1 - 1)))) 0))) && (((f0 (n1 + i1.toNat) 1).int == (CV.int (f0 (n1 + (Int.toNat (w64 (i1 - 1)))) 1))) && true))) then (bif (inb i1 n2) then (bif (inb i0 n0) then (loopH (eB A39v3 (CE u) u) N250v2 m (s250v0 n0 n1 n2 (setF f0 (0 + i0.toNat) 0 2 (listF [(vi (f0 (n1 + i1.toNat) 0).int),(vi (f0 (n1 + i1.toNat) 1).int)])) (w64 (i0 + 1)) (w64 (i1 + 1))) k) else none) else none) else (loopH (eB A39v3 (CE u) u) N250v2 m (s250v0 n0 n1 n2 f0 i0 (w64 (i1 + 1))) k)) else none) else none) else (k (.exit 2) (s250v1 n0 f0 i0))) := by kernel_rfl
theorem q250v2 : ∀ (m : Nat) (x0 x1 : Int) (x2 : FF),
  loopH (eB A39v3 (CE u) u) N250v2 m (s250v0 n0 n1 n2 x2 x0 x1) k = L250v2 u n0 n1 n2 m x0 x1 x2 (fun x3 x4 => k (.exit 2) (s250v1 n0 x4 x3))
 | 0,_,_,_ => rfl
 | m + 1,x0,x1,x2 => by
  rw [r250v2]
  simp only [L250v2,q250v2 m]
def N250v3 : St → Option St := nN 1 (1 :: 2 :: (rl 4 57 []))
def s250v2 : St := ⟨(.x (.own 0 0 n0) :: .u :: .u :: vxi i0 :: (us 57 [])),[.arr kA n0 f0]⟩
def s250v3 : St := ⟨(.u :: .u :: .x (.own 0 0 n0) :: (us 58 [])),[.arr kA n1 f0]⟩
def s250v4 : St := ⟨(.x (.own 0 0 n0) :: (us 60 [])),[.arr kA n0 f0]⟩
def L250v3 {ρ : Type} (u : Nat) (x0 : Nat) (x1 : FF) : Nat → Int → (Nat → FF → Option ρ) → (Option ρ) → Option ρ
 | 0,_,_,_ => none
 | m + 1,x2,k0,k1 =>
  (bif (decide (x2 < (Int.ofNat x0))) then (bif (inb x2 x0) then (bif (inb (w64 (x2 - 1)) x0) then (bif (((x1 (0 + x2.toNat) 0).int == (CV.int (x1 (0 + (Int.toNat (w64 (x2 - 1)))) 0))) && (((x1 (0 + x2.toNat) 1).int == (CV.int (x1 (0 + (Int.toNat (w64 (x2 - 1)))) 1))) && true)) then (bif (inbe x2 x0) then (L250v2 u x0 (0 + x2.toNat) (x0 - x2.toNat) u x2 1 x1
  (fun x3 x4 => (bif (inbe x3 x0) then (bif (Nat.blt 0 (x0 - x3.toNat) && Nat.ble ((0 + x3.toNat) + (x0 - x3.toNat)) x0) then (bif (inbe x3 x0) then (k0 (x3.toNat - 0) (putF (0 + x3.toNat) (x0 - x3.toNat) x4 (fun _ j => listF [(.i .i64 0),(.i .i64 0)] j))) else none) else none) else none))) else none) else (L250v3 u x0 x1 m (w64 (x2 + 1)) k0 k1)) else none) else none) else k1)
def s250v5 : St := ⟨(.x (.own 0 0 n0) :: .u :: .u :: vxi i0 :: .x (.own 0 (0 + i0.toNat) (n0 - i0.toNat)) :: vxi 1 :: (us 10 (.x (.own 0 0 n0) :: vxi i0 :: .x (.aptr 0 (0 + i0.toNat) 0) :: .agg [(vci (f0 (0 + i0.toNat) 0).int),(vci (f0 (0 + i0.toNat) 1).int)] :: .x (.own 0 0 n0) :: vxi i0 :: vxi (w64 (i0 - 1)) :: .x (.aptr 0 (0 + (Int.toNat (w64 (i0 - 1)))) 0) :: .agg [(vci (CV.int (f0 (0 + (Int.toNat (w64 (i0 - 1)))) 0))),(vci (CV.int (f0 (0 + (Int.toNat (w64 (i0 - 1)))) 1)))] :: vxb true :: .x (.own 0 0 n0) :: vxi i0 :: .x (.own 0 (0 + i0.toNat) (n0 - i0.toNat)) :: (us 32 [])))),[.arr kA n0 f0]⟩
theorem r250v3 :
  loopH (eB A39v7 (CE u) u) N250v3 (m + 1) (s250v2 n0 f0 i0) k =
  (bif (decide (i0 < (Int.ofNat n0))) then (bif (inb i0 n0) then (bif (inb (w64 (i0 - 1)) n0) then (bif (((f0 (0 + i0.toNat) 0).int == (CV.int (f0 (0 + (Int.toNat (w64 (i0 - 1)))) 0))) && (((f0 (0 + i0.toNat) 1).int == (CV.int (f0 (0 + (Int.toNat (w64 (i0 - 1)))) 1))) && true)) then (bif (inbe i0 n0) then (loopN (eB A39v3 (CE u) u) N250v2 u (s250v5 n0 f0 i0) (kBlk 2 (kSeq (CE u) u (5 :: (rl 29 25 [])) A39v4 (kBlk 1 (kSeq (CE u) u (2 :: 4 :: 5 :: (rl 16 44 [])) A39v5 (kLoop (eB A39v7 (CE u) u) N250v3 m k)))))) else none) else (loopH (eB A39v7 (CE u) u) N250v3 m (s250v2 n0 f0 (w64 (i0 + 1))) k)) else none) else none) else (k (.exit 0) (s250v4 n0 f0))) := by kernel_rfl
theorem t250v1 :
  loopN (eB A39v3 (CE u) u) N250v2 u (s250v5 n0 f0 i0) k =
  L250v2 u n0 (0 + i0.toNat) (n0 - i0.toNat) u i0 1 f0 (fun x0 x1 => k (.exit 2) (s250v1 n0 x1 x0)) :=
 Eq.trans (loopN_at (by kernel_rfl)) (q250v2 ..)
theorem g250v2 :
  (kBlk 2 (kSeq (CE u) u (5 :: (rl 29 25 [])) A39v4 (kBlk 1 (kSeq (CE u) u (2 :: 4 :: 5 :: (rl 16 44 [])) A39v5 (kLoop (eB A39v7 (CE u) u) N250v3 m k))))) (.exit 2) (s250v1 n0 f0 i0) =
  (bif (inbe i0 n0) then (bif (Nat.blt 0 (n0 - i0.toNat) && Nat.ble ((0 + i0.toNat) + (n0 - i0.toNat)) n0) then (bif (inbe i0 n0) then (k .ret (s250v3 (i0.toNat - 0) n0 (putF (0 + i0.toNat) (n0 - i0.toNat) f0 (fun _ j => listF [(vi 0),(vi 0)] j)))) else none) else none) else none) := by kernel_rfl
theorem q250v3 : ∀ (m : Nat) (x0 : Int),
  loopH (eB A39v7 (CE u) u) N250v3 m (s250v2 n0 f0 x0) k = L250v3 u n0 f0 m x0 (fun x1 x2 => k .ret (s250v3 x1 n0 x2)) (k (.exit 0) (s250v4 n0 f0))
 | 0,_ => rfl
 | m + 1,x0 => by
  rw [r250v3]
  simp only [L250v3,q250v3 m,t250v1,g250v2]
def D250 (x0 : Nat) (x1 : FF) (k : (Nat × FF) → Option ρ) : Option ρ :=
 (bif (decide ((Int.ofNat x0) < 2)) then (bif (Nat.beq x0 x0) then (k (x0,x1)) else none) else (L250v3 u x0 x1 u 1
  (fun x2 x3 => (bif (Nat.beq x0 x0) then (k (x2,x3)) else none))
  (bif (Nat.beq x0 x0) then (k (x0,x1)) else none)))
def F250 (x0 : Nat) (x1 : FF) : Option (Nat × FF) := D250 u x0 x1 some
def s250v6 : St := ⟨(.x (.own 0 0 n0) :: uu :: .u :: vxi 1 :: uu :: uu :: (us 4 [uu,uu,uu,uu,uu,uu,uu,uu,uu,uu,uu,uu,uu,uu,uu,uu,uu,uu,uu,uu,uu,uu,uu,uu,uu,uu,uu,uu,uu,uu,uu,uu,uu,uu,uu,uu,uu,uu,uu,uu,uu,uu,uu,uu,uu,uu,uu,uu,uu,uu,uu])),[.arr kA n0 f0]⟩
theorem walk250 (x0 : Nat) (x1 : FF) :
  evalU (CE u) u A39 2 kP x0 x1 [] =
  (bif (decide ((Int.ofNat x0) < 2)) then (bif (Nat.beq x0 x0) then (some (x0,x1)) else none) else (loopN (eB A39v7 (CE u) u) N250v3 u (s250v6 x0 x1) (kBlk 0 (kSeq (CE u) u (rl 2 4 (rl 10 50 [])) A39v8 (finishU (Kd.mark kP) 2 x0))))) := by kernel_rfl
theorem t250v3 :
  loopN (eB A39v7 (CE u) u) N250v3 u (s250v6 n0 f0) k =
  L250v3 u n0 f0 u 1 (fun x0 x1 => k .ret (s250v3 x0 n0 x1)) (k (.exit 0) (s250v4 n0 f0)) :=
 Eq.trans (loopN_at (by kernel_rfl)) (q250v3 ..)
theorem g250v4 :
  (kBlk 0 (kSeq (CE u) u (rl 2 4 (rl 10 50 [])) A39v8 (finishU (Kd.mark kP) 2 n0))) .ret (s250v3 n1 n0 f0) =
  (bif (Nat.beq n0 n0) then (some (n1,f0)) else none) := by kernel_rfl
theorem g250v5 :
  (kBlk 0 (kSeq (CE u) u (rl 2 4 (rl 10 50 [])) A39v8 (finishU (Kd.mark kP) 2 n0))) (.exit 0) (s250v4 n0 f0) =
  (bif (Nat.beq n0 n0) then (some (n0,f0)) else none) := by kernel_rfl
theorem e250 : evalU (CE u) u A39 2 kP n0 f0 [] = F250 u n0 f0 := by
 rw [walk250]
 simp only [F250,D250,t250v3,g250v4,g250v5]
def A11 : AF := ⟨6,[.tmp 2],
 (.seq (.region 0 [o1 2 (sb false)] 0 none) []
 (.seq (.region 1 [mv 3 0,o1 4 (.len 22 false (tm 3)),o1 5 (bk .gtr 3 4 300),o1 2 (sg 5)] 0 none) []
 (.ret [0,1,3,4,5])))⟩
def F223 (u : Nat) (x0 : Nat) (x1 : FF) : Option (Bool) :=
 (some (decide ((Int.ofNat x0) > 300)))
theorem e223 : evalF (C0 u) u A11 [.v (ro kP n0 f0)] = ob (F223 u n0 f0) fun t => some [.v (.b t)] := Eq.trans (b := (some [.v (.b (decide ((Int.ofNat n0) > 300)))])) (by kernel_rfl) (by
 simp only [F223,ob_bif,ob_ob,ob_none,ob_some])
def O223 : Ora := mkO (q1 (av (cL kP))) (fun x => F223 u x.1 x.2) fun t => [.v (.b t)]
theorem d223 : DO (O223 u) (C0 u) 11 A11 := dO u (fun x => by exact e223 u x.1 x.2)
def C1 : Oracle := (C0 u).add 11 (fun _ => true) (O223 u)
def A27v1 : AC := (.seq (.region 6 [o1 33 (.indexAddrA 31 3 2 1 (tm 6) (ic 0)),o1 34 (lo 3 33),o1 35 (.indexAddrA 31 3 2 1 (tm 6) (ic 1)),o1 36 (lo 3 35),o1 37 (bt .eql 3 34 36)] 0 none) []
 (.cond (tm 37)
 (.seq (.region 7 [o1 4 (sk 2)] 0 none) []
  (.ret (rl 0 4 (rl 5 34 []))))
 .skip))
def A27v2 : AC := (.region 8 [o1 38 (bk .add 3 9 1),mv 9 38] 0 none)
def A27v3 : AC := (.seq (.block 1
 (.seq (.region 3 [o1 11 (.indexAddr 22 31 2 (tm 7) (tm 9)),o1 12 (ln 31 2 11),o1 6 (.alloc 0 31 [vci 0,vci 0]),o0 (.store 31 2 (tm 6) (tm 12))] 1 none) []
  (.seq (.seq (.region 4 [o1 13 (.indexAddrA 31 3 2 1 (tm 6) (ic 0)),o1 14 (lo 3 13),o1 15 (bk .lss 3 14 0),mv 16 15,og 17 (.indexAddrA 31 3 2 1 (tm 6) (ic 0)) 16 false,og 18 (lo 3 17) 16 false,og 19 (.move (tm 0)) 16 false,og 20 (bt .geq 3 18 19) 16 false,o1 21 (pa 16 20),mv 22 21,og 23 (.indexAddrA 31 3 2 1 (tm 6) (ic 1)) 22 false,og 24 (lo 3 23) 22 false,og 25 (bk .lss 3 24 0) 22 false,o1 26 (pa 22 25),mv 27 26,og 28 (.indexAddrA 31 3 2 1 (tm 6) (ic 1)) 27 false,og 29 (lo 3 28) 27 false,og 30 (.move (tm 0)) 27 false,og 31 (bt .geq 3 29 30) 27 false,o1 32 (pa 27 31)] 0 none) []
  (.cond (tm 32)
  (.seq (.region 5 [o1 4 (sk 9)] 0 none) []
   (.ret (rl 0 4 (rl 5 34 []))))
  .skip)) (4 :: (rl 13 20 []))
  A27v1))) (4 :: 6 :: (rl 11 27 []))
 A27v2)
def A27v4 : AC := (.seq (.region 2 [o1 10 (bt .lss 3 9 8)] 0 none) []
 (.seq (.cond (tm 10)
 .skip
 (.exit 0 (rl 0 39 []))) []
 A27v3))
def A27v5 : AC := (.seq (.region 9 [o1 4 (sk 0)] 0 none) []
 (.ret (rl 0 4 (rl 5 34 []))))
def A27 : AF := ⟨39,[.tmp 4],
 (.seq (.region 0 [o1 4 (sk 0)] 0 none) []
 (.seq (.seq (.region 1 [mv 7 1,o1 8 (.len 22 false (tm 7)),o1 9 (.move (ic 0))] 0 none) []
 (.block 0
 (.loop [] (rl 1 6 (rl 10 29 []))
  A27v4))) (4 :: (rl 6 33 []))
 A27v5))⟩
def N224v1 : St → Option St := nN 0 (rl 1 6 (rl 10 29 []))
def s224v0 : St := ⟨(vxi i0 :: (us 6 (.x (.c (ro kP n0 f0)) :: vxi i1 :: vxi i2 :: (us 29 [])))),[]⟩
def s224v1 : St := ⟨(us 4 (vxi i0 :: (us 34 []))),[.box [(vci i1),(vci i2)]]⟩
def s224v2 : St := ⟨(us 39 []),[]⟩
def L224v1 {ρ : Type} (u : Nat) (x0 : Int) (x1 : Nat) (x2 : FF) (x3 : Int) : Nat → Int → (Int → Int → Int → Option ρ) → (Option ρ) → Option ρ
 | 0,_,_,_ => none
 | m + 1,x4,k0,k1 =>
  (bif (decide (x4 < x3)) then (bif (inb x4 x1) then (bif ((decide ((x2 x4.toNat 0).int < 0)) == false) then (bif ((decide ((x2 x4.toNat 0).int ≥ x0)) == false) then (bif ((decide ((x2 x4.toNat 1).int < 0)) == false) then (bif (decide ((x2 x4.toNat 1).int ≥ x0)) then (k0 9 (x2 x4.toNat 0).int (x2 x4.toNat 1).int) else (bif ((x2 x4.toNat 0).int == (x2 x4.toNat 1).int) then (k0 2 (x2 x4.toNat 0).int (x2 x4.toNat 1).int) else (L224v1 u x0 x1 x2 x3 m (w64 (x4 + 1)) k0 k1))) else (k0 9 (x2 x4.toNat 0).int (x2 x4.toNat 1).int)) else (k0 9 (x2 x4.toNat 0).int (x2 x4.toNat 1).int)) else (k0 9 (x2 x4.toNat 0).int (x2 x4.toNat 1).int)) else none) else k1)
theorem nl224v1 : ∀ (m : Nat) (x0 : Int) (k0 : Int → Int → Int → Option ρ) (k1 : Option ρ),ob (L224v1 u i0 n0 f0 i1 m x0 k0 k1) ng = L224v1 u i0 n0 f0 i1 m x0 (fun x1 x2 x3 => ob (k0 x1 x2 x3) ng) (ob k1 ng)
 | 0,_,_,_ => rfl
 | m + 1,x0,k0,k1 => by
  simp only [L224v1,ob_bif,ob_ob,ob_none,nl224v1 m]
theorem r224v1 :
  loopH (eB A27v4 (C1 u) u) N224v1 (m + 1) (s224v0 n0 f0 i0 i1 i2) k =
  (bif (decide (i2 < i1)) then (bif (inb i2 n0) then (bif ((decide ((f0 i2.toNat 0).int < 0)) == false) then (bif ((decide ((f0 i2.toNat 0).int ≥ i0)) == false) then (bif ((decide ((f0 i2.toNat 1).int < 0)) == false) then (bif (decide ((f0 i2.toNat 1).int ≥ i0)) then (k .ret (s224v1 9 (f0 i2.toNat 0).int (f0 i2.toNat 1).int)) else (bif ((f0 i2.toNat 0).int == (f0 i2.toNat 1).int) then (k .ret (s224v1 2 (f0 i2.toNat 0).int (f0 i2.toNat 1).int)) else (loopH (eB A27v4 (C1 u) u) N224v1 m (s224v0 n0 f0 i0 i1 (w64 (i2 + 1))) k))) else (k .ret (s224v1 9 (f0 i2.toNat 0).int (f0 i2.toNat 1).int))) else (k .ret (s224v1 9 (f0 i2.toNat 0).int (f0 i2.toNat 1).int))) else (k .ret (s224v1 9 (f0 i2.toNat 0).int (f0 i2.toNat 1).int))) else none) else (k (.exit 0) s224v2)) := by kernel_rfl
theorem q224v1 : ∀ (m : Nat) (x0 : Int),
  loopH (eB A27v4 (C1 u) u) N224v1 m (s224v0 n0 f0 i0 i1 x0) k = L224v1 u i0 n0 f0 i1 m x0 (fun x1 x2 x3 => k .ret (s224v1 x1 x2 x3)) (k (.exit 0) s224v2)
 | 0,_ => rfl
 | m + 1,x0 => by
  rw [r224v1]
  simp only [L224v1,q224v1 m]
def F224 (x0 : Int) (x1 : Nat) (x2 : FF) : Option (Int) :=
 (L224v1 u x0 x1 x2 (Int.ofNat x1) u 0
  (fun x3 x4 x5 => (some x3))
  (some 0))
def s224v3 : St := ⟨[vxi i0,.x (.c (ro kP n0 f0)),uu,uu,vxi 0,uu,uu,.x (.c (ro kP n0 f0)),vxi (Int.ofNat n0),vxi 0,uu,uu,uu,uu,uu,uu,uu,uu,uu,uu,uu,uu,uu,uu,uu,uu,uu,uu,uu,uu,uu,uu,uu,uu,uu,uu,uu,uu,uu],[]⟩
theorem t224v1 :
  loopN (eB A27v4 (C1 u) u) N224v1 u (s224v3 n0 f0 i0) k =
  L224v1 u i0 n0 f0 (Int.ofNat n0) u 0 (fun x0 x1 x2 => k .ret (s224v1 x0 x1 x2)) (k (.exit 0) s224v2) :=
 Eq.trans (loopN_at (by kernel_rfl)) (q224v1 ..)
theorem g224v2 :
  (kBlk 0 (kSeq (C1 u) u (4 :: (rl 6 33 [])) A27v5 (finish A27))) .ret (s224v1 i0 i1 i2) =
  (some [.v (vi i0)]) := by kernel_rfl
theorem g224v3 :
  (kBlk 0 (kSeq (C1 u) u (4 :: (rl 6 33 [])) A27v5 (finish A27))) (.exit 0) s224v2 =
  (some [.v (vi 0)]) := by kernel_rfl
theorem e224 : evalF (C1 u) u A27 [.v (vi i0),.v (ro kP n0 f0)] = ob (F224 u i0 n0 f0) fun t => some [.v (vi t)] := Eq.trans (b := (loopN (eB A27v4 (C1 u) u) N224v1 u (s224v3 n0 f0 i0) (kBlk 0 (kSeq (C1 u) u (4 :: (rl 6 33 [])) A27v5 (finish A27))))) (by kernel_rfl) (by
 simp only [F224,ob_bif,ob_ob,ob_none,ob_some,nl224v1,t224v1,g224v2,g224v3])
def O224 : Ora := mkO (qc (av ci) (q1 (av (cL kP)))) (fun x => F224 u x.1 x.2.1 x.2.2) fun t => [.v (vi t)]
theorem d224 : DO (O224 u) (C1 u) 27 A27 := dO u (fun x => by exact e224 u x.2.1 x.2.2 x.1)
def C2 : Oracle := (C1 u).add 27 (fun _ => true) (O224 u)
def A13v1 : AC := (.seq (.block 1
 (.seq (.region 9 [o1 33 (.indexAddr 22 31 2 (tm 29) (tm 31)),o1 34 (ln 31 2 33),o1 9 (.alloc 0 31 [vci 0,vci 0]),o0 (.store 31 2 (tm 9) (tm 34))] 1 none) []
  (.region 10 [mv 35 7,o1 36 (.indexAddrA 31 3 2 1 (tm 9) (ic 1)),o1 37 (lo 3 36),o1 38 (.indexAddr 25 3 1 (tm 35) (tm 37)),o1 39 (lo 3 38),o1 40 (bk .add 3 39 1),o1 41 (.indexAddr 25 3 1 (tm 35) (tm 37)),o0 (.store 3 1 (tm 41) (tm 40))] 0 none))) []
 (.region 11 [o1 42 (bk .add 3 31 1),mv 31 42] 0 none))
def A13v2 : AC := (.seq (.region 8 [o1 32 (bt .lss 3 31 30)] 0 none) []
 (.seq (.cond (tm 32)
 .skip
 (.exit 0 (rl 2 5 (rl 8 85 [])))) []
 A13v1))
def A13v3 : AC := (.region 26 [o1 90 (bk .add 3 75 1),mv 75 90] 0 none)
def A13v4 : AC := (.seq (.block 7
 (.seq (.region 23 [o1 77 (.indexAddr 22 31 2 (tm 73) (tm 75)),o1 78 (ln 31 2 77),o1 14 (.alloc 0 31 [vci 0,vci 0]),o0 (.store 31 2 (tm 14) (tm 78))] 1 none) []
  (.seq (.region 24 [o1 79 (.indexAddrA 31 3 2 1 (tm 14) (ic 0)),o1 80 (lo 3 79),mv 81 12,o1 82 (bt .eql 3 80 81)] 0 none) []
  (.cond (tm 82)
  (.region 25 [mv 83 7,o1 84 (.indexAddrA 31 3 2 1 (tm 14) (ic 1)),o1 85 (lo 3 84),o1 86 (.indexAddr 25 3 1 (tm 83) (tm 85)),o1 87 (lo 3 86),o1 88 (bk .sub 3 87 1),o1 89 (.indexAddr 25 3 1 (tm 83) (tm 85)),o0 (.store 3 1 (tm 89) (tm 88))] 0 none)
  .skip)))) (14 :: (rl 77 13 []))
 A13v3)
def A13v5 : AC := (.seq (.region 22 [o1 76 (bt .lss 3 75 74)] 0 none) []
 (.seq (.cond (tm 76)
 .skip
 (.exit 6 (rl 2 5 (8 :: 9 :: (rl 12 81 []))))) []
 A13v4))
def A13v6 : AC := (.seq (.region 19 [mv 66 11,mv 67 12,o1 68 (.indexAddr 42 4 1 (tm 66) (tm 67)),o0 (.store 4 1 (tm 68) (.const (.bool true)))] 0 none) []
 (.seq (.region 20 [mv 69 10,mv 70 12,o1 71 (.buildSlice 0 25 3 (.pr (.int .i64) .nil) 1 [vci 0] [(0,(tm 70))]),o1 72 (.append 1 25 3 (.pr (.int .i64) .nil) 8 (tm 69) (tm 71)),o1 10 (sg 72)] 2 none) []
 (.seq (.seq (.region 21 [mv 73 1,o1 74 (.len 22 false (tm 73)),o1 75 (.move (ic 0))] 0 none) []
 (.block 6
 (.loop [] (rl 2 5 (8 :: 9 :: (rl 13 60 (rl 76 17 []))))
  A13v5))) (14 :: (rl 73 18 []))
 (.exit 3 (rl 2 5 (8 :: 9 :: (rl 12 81 [])))))))
def A13v7 : AC := (.region 27 [o1 91 (bk .add 3 52 1),mv 52 91] 0 none)
def A13v8 : AC := (.seq (.block 5
 (.seq (.region 17 [mv 54 52,o1 12 (sg 54)] 0 none) []
  (.seq (.seq (.region 18 [mv 55 11,mv 56 12,o1 57 (.indexAddr 42 4 1 (tm 55) (tm 56)),o1 58 (lo 4 57),mv 59 58,og 60 (.move (tm 7)) 59 false,og 61 (.move (tm 12)) 59 false,og 62 (.indexAddr 25 3 1 (tm 60) (tm 61)) 59 false,og 63 (lo 3 62) 59 false,og 64 (bk .gtr 3 63 0) 59 false,o1 65 (pa 59 64)] 0 none) []
  (.cond (tm 65)
  (.exit 5 (rl 2 5 (8 :: 9 :: (rl 12 39 (rl 53 40 [])))))
  .skip)) (rl 55 11 [])
  A13v6))) (12 :: 14 :: (rl 54 37 []))
 A13v7)
def A13v9 : AC := (.seq (.region 16 [o1 53 (bt .lss 3 52 51)] 0 none) []
 (.seq (.cond (tm 53)
 .skip
 (.exit 4 (rl 0 93 []))) []
 A13v8))
def A13v10 : AC := (.seq (.region 28 [o1 4 (.assign (.const (.slice none 0 0))),o1 5 (sk 20)] 0 none) []
 (.ret (rl 0 4 (rl 6 87 []))))
def A13v11 : AC := (.block 3
 (.seq (.seq (.region 15 [mv 51 0,o1 52 (.move (ic 0))] 0 none) []
  (.block 4
  (.loop [.slot 10 (.pr (.int .i64) .nil)] (rl 2 5 (8 :: 9 :: (rl 12 39 (rl 53 40 []))))
   A13v9))) (10 :: 12 :: 14 :: (rl 51 41 []))
  A13v10))
def A13v12 : AC := (.seq (.seq (.region 14 [mv 47 10,o1 48 (.len 25 false (tm 47)),mv 49 0,o1 50 (bt .lss 3 48 49)] 0 none) []
 (.cond (tm 50)
 .skip
 (.exit 2 (rl 0 10 (rl 11 82 []))))) (rl 47 4 [])
 A13v11)
def A13v13 : AC := (.seq (.region 29 [mv 92 10,o1 4 (sg 92),o1 5 (sk 0)] 0 none) []
 (.ret (rl 0 4 (rl 6 87 []))))
def A13v14 : AC := (.seq (.region 12 [mv 43 0,o1 44 (.makeSlice 0 25 3 (.pr (.int .i64) .nil) 8 [(vi 0)] (ic 0) (tm 43)),o1 10 (sg 44)] 1 none) []
 (.seq (.region 13 [mv 45 0,o1 46 (.makeSlice 0 42 4 (.pr .bool .nil) 1 [(.b false)] (tm 45) (tm 45)),o1 11 (sg 46)] 1 none) []
 (.seq (.label 0) []
 (.seq (.block 2
 (.loop [.slot 10 (.pr (.int .i64) .nil)] (rl 2 5 (8 :: 9 :: (rl 12 81 [])))
  A13v12)) (4 :: 5 :: 12 :: 14 :: (rl 47 45 []))
 A13v13))))
def A13v15 : AC := (.seq (.region 6 [mv 27 0,o1 28 (.makeSlice 0 25 3 (.pr (.int .i64) .nil) 8 [(vi 0)] (tm 27) (tm 27)),o1 7 (sg 28)] 1 none) []
 (.seq (.seq (.region 7 [mv 29 1,o1 30 (.len 22 false (tm 29)),o1 31 (.move (ic 0))] 0 none) []
 (.block 0
 (.loop [] (rl 2 5 (rl 8 21 (rl 32 61 [])))
  A13v2))) (9 :: (rl 29 14 []))
 A13v14))
def A13v16 : AC := (.seq (.seq (.region 3 [mv 21 0,mv 22 1,o1 23 (cs 27 [21,22] [3,22]),o1 6 (sg 23)] 0 none) []
 (.seq (.region 4 [mv 24 6,o1 25 (bk .neq 26 24 0)] 0 none) []
 (.cond (tm 25)
 (.seq (.region 5 [mv 26 6,o1 4 (.assign (.const (.slice none 0 0))),o1 5 (sg 26)] 0 none) []
  (.ret (rl 0 4 (rl 6 87 []))))
 .skip))) (4 :: 5 :: 6 :: (rl 21 6 []))
 A13v15)
def A13 : AF := ⟨93,[.tmp 4,.tmp 5],
 (.seq (.region 0 [o1 4 (.assign (.const (.slice none 0 0))),o1 5 (sk 0)] 0 none) []
 (.scope
 (.seq (.seq (.region 1 [mv 15 0,o1 16 (bk .lss 3 15 0),mv 17 16,og 18 (.move (tm 0)) 17 false,og 19 (bk .gtr 3 18 256) 17 false,o1 20 (pa 17 19)] 0 none) []
  (.cond (tm 20)
  (.seq (.region 2 [o1 4 (.assign (.const (.slice none 0 0))),o1 5 (sk 9)] 0 none) []
   (.ret (rl 0 4 (rl 6 87 []))))
  .skip)) (4 :: 5 :: (rl 15 6 []))
  A13v16)))⟩
def N225v1 : St → Option St := nN 1 (rl 2 5 (rl 8 21 (rl 32 61 [])))
def s225v0 : St := ⟨(vxi i0 :: .x (.c (ro kP n0 f0)) :: (us 5 (.x (.own 0 0 n1) :: (us 21 (.x (.c (ro kP n0 f0)) :: vxi i1 :: vxi i2 :: (us 61 [])))))),[.arr (.pr (.int .i64) .nil) n1 f1]⟩
def s225v1 : St := ⟨(vxi i0 :: .x (.c (ro kP n0 f0)) :: (us 5 (.x (.own 0 0 n1) :: (us 85 [])))),[.arr (.pr (.int .i64) .nil) n1 f1]⟩
def L225v1 {ρ : Type} (u : Nat) (x0 : Int) (x1 : Nat) (x2 : FF) (x3 : Nat) (x4 : Int) : Nat → Int → FF → (FF → Option ρ) → Option ρ
 | 0,_,_,_ => none
 | m + 1,x5,x6,k0 =>
  (bif (decide (x5 < x4)) then (bif (inb x5 x1) then (bif (inb (x2 x5.toNat 1).int x3) then (bif (inb (x2 x5.toNat 1).int x3) then (L225v1 u x0 x1 x2 x3 x4 m (w64 (x5 + 1)) (setF x6 (0 + (Int.toNat (x2 x5.toNat 1).int)) 0 1 (listF [(.i .i64 (w64 ((CV.int (x6 (0 + (Int.toNat (x2 x5.toNat 1).int)) 0)) + 1)))])) k0) else none) else none) else none) else (k0 x6))
theorem nl225v1 : ∀ (m : Nat) (x0 : Int) (x1 : FF) (k0 : FF → Option ρ),ob (L225v1 u i0 n0 f0 n1 i1 m x0 x1 k0) ng = L225v1 u i0 n0 f0 n1 i1 m x0 x1 (fun x2 => ob (k0 x2) ng)
 | 0,_,_,_ => rfl
 | m + 1,x0,x1,k0 => by
  simp only [L225v1,ob_bif,ob_ob,ob_none,nl225v1 m]
theorem r225v1 :
  loopH (eB A13v2 (C2 u) u) N225v1 (m + 1) (s225v0 n0 n1 f0 f1 i0 i1 i2) k =
  (bif (decide (i2 < i1)) then (bif (inb i2 n0) then (bif (inb (f0 i2.toNat 1).int n1) then (bif (inb (f0 i2.toNat 1).int n1) then (loopH (eB A13v2 (C2 u) u) N225v1 m (s225v0 n0 n1 f0 (setF f1 (0 + (Int.toNat (f0 i2.toNat 1).int)) 0 1 (listF [(vi (w64 ((CV.int (f1 (0 + (Int.toNat (f0 i2.toNat 1).int)) 0)) + 1)))])) i0 i1 (w64 (i2 + 1))) k) else none) else none) else none) else (k (.exit 0) (s225v1 n0 n1 f0 f1 i0))) := by kernel_rfl
theorem q225v1 : ∀ (m : Nat) (x0 : Int) (x1 : FF),
  loopH (eB A13v2 (C2 u) u) N225v1 m (s225v0 n0 n1 f0 x1 i0 i1 x0) k = L225v1 u i0 n0 f0 n1 i1 m x0 x1 (fun x2 => k (.exit 0) (s225v1 n0 n1 f0 x2 i0))
 | 0,_,_ => rfl
 | m + 1,x0,x1 => by
  rw [r225v1]
  simp only [L225v1,q225v1 m]
def N225v6 : St → Option St := nN 5 (rl 2 5 (8 :: 9 :: (rl 13 60 (rl 76 17 []))))
def s225v2 : St := ⟨(vxi i0 :: .x (.c (ro kP n0 f0)) :: (us 5 (.x (.own 0 0 n1) :: .u :: .u :: .x (.own 1 0 n2) :: .x (.own 2 0 n1) :: vxi i1 :: (us 60 (.x (.c (ro kP n0 f0)) :: vxi i2 :: vxi i3 :: (us 17 [])))))),[.arr (.pr (.int .i64) .nil) n1 f1,.arr (.pr (.int .i64) .nil) n2 f2,.arr (.pr .bool .nil) n1 f3,.arr (.pr (.int .i64) .nil) 1 f4,.rsv]⟩
def s225v3 : St := ⟨(vxi i0 :: .x (.c (ro kP n0 f0)) :: (us 5 (.x (.own 0 0 n1) :: .u :: .u :: .x (.own 1 0 n2) :: .x (.own 2 0 n1) :: (us 81 [])))),[.arr (.pr (.int .i64) .nil) n1 f1,.arr (.pr (.int .i64) .nil) n2 f2,.arr (.pr .bool .nil) n1 f3,.arr (.pr (.int .i64) .nil) 1 f4,.rsv]⟩
def L225v6 {ρ : Type} (u : Nat) (x0 : Int) (x1 : Nat) (x2 : FF) (x3 x4 : Nat) (x5 x6 : Int) (x7 x8 x9 : FF) : Nat → Int → FF → (FF → Option ρ) → Option ρ
 | 0,_,_,_ => none
 | m + 1,xA,xB,k0 =>
  (bif (decide (xA < x6)) then (bif (inb xA x1) then (bif ((x2 xA.toNat 0).int == x5) then (bif (inb (x2 xA.toNat 1).int x3) then (bif (inb (x2 xA.toNat 1).int x3) then (L225v6 u x0 x1 x2 x3 x4 x5 x6 x7 x8 x9 m (w64 (xA + 1)) (setF xB (0 + (Int.toNat (x2 xA.toNat 1).int)) 0 1 (listF [(.i .i64 (w64 ((CV.int (xB (0 + (Int.toNat (x2 xA.toNat 1).int)) 0)) - 1)))])) k0) else none) else none) else (L225v6 u x0 x1 x2 x3 x4 x5 x6 x7 x8 x9 m (w64 (xA + 1)) xB k0)) else none) else (k0 xB))
theorem nl225v6 : ∀ (m : Nat) (x0 : Int) (x1 : FF) (k0 : FF → Option ρ),ob (L225v6 u i0 n0 f0 n1 n2 i1 i2 f1 f2 f3 m x0 x1 k0) ng = L225v6 u i0 n0 f0 n1 n2 i1 i2 f1 f2 f3 m x0 x1 (fun x2 => ob (k0 x2) ng)
 | 0,_,_,_ => rfl
 | m + 1,x0,x1,k0 => by
  simp only [L225v6,ob_bif,ob_ob,ob_none,nl225v6 m]
theorem r225v6 :
  loopH (eB A13v5 (C2 u) u) N225v6 (m + 1) (s225v2 n0 n1 n2 f0 f4 f1 f2 f3 i0 i1 i2 i3) k =
  (bif (decide (i3 < i2)) then (bif (inb i3 n0) then (bif ((f0 i3.toNat 0).int == i1) then (bif (inb (f0 i3.toNat 1).int n1) then (bif (inb (f0 i3.toNat 1).int n1) then (loopH (eB A13v5 (C2 u) u) N225v6 m (s225v2 n0 n1 n2 f0 (setF f4 (0 + (Int.toNat (f0 i3.toNat 1).int)) 0 1 (listF [(vi (w64 ((CV.int (f4 (0 + (Int.toNat (f0 i3.toNat 1).int)) 0)) - 1)))])) f1 f2 f3 i0 i1 i2 (w64 (i3 + 1))) k) else none) else none) else (loopH (eB A13v5 (C2 u) u) N225v6 m (s225v2 n0 n1 n2 f0 f4 f1 f2 f3 i0 i1 i2 (w64 (i3 + 1))) k)) else none) else (k (.exit 6) (s225v3 n0 n1 n2 f0 f4 f1 f2 f3 i0))) := by kernel_rfl
theorem q225v6 : ∀ (m : Nat) (x0 : Int) (x1 : FF),
  loopH (eB A13v5 (C2 u) u) N225v6 m (s225v2 n0 n1 n2 f0 x1 f1 f2 f3 i0 i1 i2 x0) k = L225v6 u i0 n0 f0 n1 n2 i1 i2 f1 f2 f3 m x0 x1 (fun x2 => k (.exit 6) (s225v3 n0 n1 n2 f0 x2 f1 f2 f3 i0))
 | 0,_,_ => rfl
 | m + 1,x0,x1 => by
  rw [r225v6]
  simp only [L225v6,q225v6 m]
def N225v7 : St → Option St := nN 3 (rl 2 5 (8 :: 9 :: (rl 12 39 (rl 53 40 []))))
def s225v4 : St := ⟨(vxi i0 :: .x (.c (ro kP n0 f0)) :: (us 5 (.x (.own 0 0 n1) :: .u :: .u :: .x (.own 1 0 n2) :: .x (.own 2 0 n1) :: (us 39 (vxi i0 :: vxi i1 :: (us 40 [])))))),[.arr (.pr (.int .i64) .nil) n1 f1,.arr (.pr (.int .i64) .nil) n2 f2,.arr (.pr .bool .nil) n1 f3]⟩
def s225v5 : St := ⟨(vxi i0 :: .x (.c (ro kP n0 f0)) :: (us 5 (.x (.own 0 0 n1) :: .u :: .u :: .x (.own 1 0 (n2 + 1)) :: .x (.own 2 0 n1) :: (us 81 [])))),[.arr (.pr (.int .i64) .nil) n1 f1,.arr (.pr (.int .i64) .nil) (n2 + 1) f2,.arr (.pr .bool .nil) n1 f3,.arr (.pr (.int .i64) .nil) 1 f4,.rsv]⟩
def s225v6 : St := ⟨(us 93 []),[.arr (.pr (.int .i64) .nil) n0 f0,.arr (.pr (.int .i64) .nil) n1 f1,.arr (.pr .bool .nil) n0 f2]⟩
def L225v7 {ρ : Type} (u : Nat) (x0 : Int) (x1 : Nat) (x2 : FF) (x3 x4 : Nat) (x5 x6 x7 : FF) : Nat → Int → (FF → FF → FF → FF → Option ρ) → (Option ρ) → Option ρ
 | 0,_,_,_ => none
 | m + 1,x8,k0,k1 =>
  (bif (decide (x8 < x0)) then (bif (inb x8 x3) then (bif ((x7 (0 + x8.toNat) 0).bool == false) then (bif (inb x8 x3) then (bif (decide ((x5 (0 + x8.toNat) 0).int > 0)) then (L225v7 u x0 x1 x2 x3 x4 x5 x6 x7 m (w64 (x8 + 1)) k0 k1) else (bif (inb x8 x3) then (bif (Nat.ble (x4 + 1) 1073741824) then (L225v6 u x0 x1 x2 x3 (x4 + 1) x8 (Int.ofNat x1) (joinF x4 x6 (rowsF 1 [(.i .i64 x8)])) (setF x7 (0 + x8.toNat) 0 1 (listF [(.b true)])) (rowsF 1 [(.i .i64 x8)]) u 0 x5
  (fun x9 => (k0 x9 (joinF x4 x6 (rowsF 1 [(.i .i64 x8)])) (setF x7 (0 + x8.toNat) 0 1 (listF [(.b true)])) (rowsF 1 [(.i .i64 x8)])))) else none) else none)) else none) else (L225v7 u x0 x1 x2 x3 x4 x5 x6 x7 m (w64 (x8 + 1)) k0 k1)) else none) else k1)
theorem nl225v7 : ∀ (m : Nat) (x0 : Int) (k0 : FF → FF → FF → FF → Option ρ) (k1 : Option ρ),ob (L225v7 u i0 n0 f0 n1 n2 f1 f2 f3 m x0 k0 k1) ng = L225v7 u i0 n0 f0 n1 n2 f1 f2 f3 m x0 (fun x1 x2 x3 x4 => ob (k0 x1 x2 x3 x4) ng) (ob k1 ng)
 | 0,_,_,_ => rfl
 | m + 1,x0,k0,k1 => by
  simp only [L225v7,ob_bif,ob_ob,ob_none,nl225v7 m,nl225v6]
def s225v7 : St := ⟨(vxi i0 :: .x (.c (ro kP n0 f0)) :: (us 5 (.x (.own 0 0 n1) :: .u :: .u :: .x (.own 1 0 (n2 + 1)) :: .x (.own 2 0 n1) :: vxi i1 :: (us 38 (vxi i0 :: vxi i1 :: vxb true :: vxi i1 :: (us 11 (.x (.own 2 0 n1) :: vxi i1 :: .x (.aptr 2 (0 + i1.toNat) 0) :: .x .u :: vxi i1 :: .x (.own 3 0 1) :: .x (.own 1 0 (n2 + 1)) :: .x (.c (ro kP n0 f0)) :: vxi (Int.ofNat n0) :: vxi 0 :: (us 17 [])))))))),[.arr (.pr (.int .i64) .nil) n1 f1,.arr (.pr (.int .i64) .nil) (n2 + 1) (joinF n2 f2 (rowsF 1 [(vi i1)])),.arr (.pr .bool .nil) n1 (setF f3 (0 + i1.toNat) 0 1 (listF [(.b true)])),.arr (.pr (.int .i64) .nil) 1 (rowsF 1 [(vi i1)]),.rsv]⟩
theorem r225v7 :
  loopH (eB A13v9 (C2 u) u) N225v7 (m + 1) (s225v4 n0 n1 n2 f0 f1 f2 f3 i0 i1) k =
  (bif (decide (i1 < i0)) then (bif (inb i1 n1) then (bif ((f3 (0 + i1.toNat) 0).bool == false) then (bif (inb i1 n1) then (bif (decide ((f1 (0 + i1.toNat) 0).int > 0)) then (loopH (eB A13v9 (C2 u) u) N225v7 m (s225v4 n0 n1 n2 f0 f1 f2 f3 i0 (w64 (i1 + 1))) k) else (bif (inb i1 n1) then (bif (Nat.ble (n2 + 1) 1073741824) then (loopN (eB A13v5 (C2 u) u) N225v6 u (s225v7 n0 n1 n2 f0 f1 f2 f3 i0 i1) (kBlk 6 (kSeq (C2 u) u (14 :: (rl 73 18 [])) (.exit 3 (rl 2 5 (8 :: 9 :: (rl 12 81 [])))) (kBlk 5 (kSeq (C2 u) u (12 :: 14 :: (rl 54 37 [])) A13v7 (kLoop (eB A13v9 (C2 u) u) N225v7 m k)))))) else none) else none)) else none) else (loopH (eB A13v9 (C2 u) u) N225v7 m (s225v4 n0 n1 n2 f0 f1 f2 f3 i0 (w64 (i1 + 1))) k)) else none) else (k (.exit 4) (s225v6 n1 n2 f1 f2 f3))) := by kernel_rfl
theorem t225v1 :
  loopN (eB A13v5 (C2 u) u) N225v6 u (s225v7 n0 n1 n2 f0 f1 f2 f3 i0 i1) k =
  L225v6 u i0 n0 f0 n1 (n2 + 1) i1 (Int.ofNat n0) (joinF n2 f2 (rowsF 1 [(vi i1)])) (setF f3 (0 + i1.toNat) 0 1 (listF [(.b true)])) (rowsF 1 [(vi i1)]) u 0 f1 (fun x0 => k (.exit 6) (s225v3 n0 n1 (n2 + 1) f0 x0 (joinF n2 f2 (rowsF 1 [(vi i1)])) (setF f3 (0 + i1.toNat) 0 1 (listF [(.b true)])) (rowsF 1 [(vi i1)]) i0)) :=
 Eq.trans (loopN_at (by kernel_rfl)) (q225v6 ..)
theorem g225v2 :
  (kBlk 6 (kSeq (C2 u) u (14 :: (rl 73 18 [])) (.exit 3 (rl 2 5 (8 :: 9 :: (rl 12 81 [])))) (kBlk 5 (kSeq (C2 u) u (12 :: 14 :: (rl 54 37 [])) A13v7 (kLoop (eB A13v9 (C2 u) u) N225v7 m k))))) (.exit 6) (s225v3 n0 n1 (n2 + 1) f0 f1 (joinF n2 f2 (rowsF 1 [(vi i1)])) (setF f3 (0 + i1.toNat) 0 1 (listF [(.b true)])) (rowsF 1 [(vi i1)]) i0) =
  (k (.exit 3) (s225v5 n0 n1 n2 f0 f1 (joinF n2 f2 (rowsF 1 [(vi i1)])) (setF f3 (0 + i1.toNat) 0 1 (listF [(.b true)])) (rowsF 1 [(vi i1)]) i0)) := by kernel_rfl
theorem q225v7 : ∀ (m : Nat) (x0 : Int),
  loopH (eB A13v9 (C2 u) u) N225v7 m (s225v4 n0 n1 n2 f0 f1 f2 f3 i0 x0) k = L225v7 u i0 n0 f0 n1 n2 f1 f2 f3 m x0 (fun x1 x2 x3 x4 => k (.exit 3) (s225v5 n0 n1 n2 f0 x1 x2 x3 x4 i0)) (k (.exit 4) (s225v6 n1 n2 f1 f2 f3))
 | 0,_ => rfl
 | m + 1,x0 => by
  rw [r225v7]
  simp only [L225v7,q225v7 m,t225v1,g225v2]
def N225v8 : St → Option St := nN 3 (rl 2 5 (8 :: 9 :: (rl 12 81 [])))
def s225v8 : St := ⟨(vxi i0 :: .x (.c (ro kP n0 f0)) :: (us 5 (.x (.own 0 0 n1) :: .u :: .u :: .x (.own 1 0 n2) :: .x (.own 2 0 n1) :: (us 81 [])))),[.arr (.pr (.int .i64) .nil) n1 f1,.arr (.pr (.int .i64) .nil) n2 f2,.arr (.pr .bool .nil) n1 f3]⟩
def s225v9 : St := ⟨(us 4 (.x (vcn) :: vxi 20 :: (us 87 []))),[.arr (.pr (.int .i64) .nil) n0 f0,.arr (.pr (.int .i64) .nil) n1 f1,.arr (.pr .bool .nil) n0 f2]⟩
def s225v10 : St := ⟨(us 10 (.x (.own 1 0 n0) :: (us 82 []))),[.arr (.pr (.int .i64) .nil) n1 f0,.arr (.pr (.int .i64) .nil) n0 f1,.arr (.pr .bool .nil) n1 f2]⟩
def L225v8 {ρ : Type} (u : Nat) (x0 : Int) (x1 : Nat) (x2 : FF) (x3 : Nat) : Nat → Nat → FF → FF → FF → (FF → Nat → FF → FF → Option ρ) → (Nat → FF → FF → FF → Option ρ) → Option ρ
 | 0,_,_,_,_,_,_ => none
 | m + 1,x4,x5,x6,x7,k0,k1 =>
  (bif (decide ((Int.ofNat x4) < x0)) then (L225v7 u x0 x1 x2 x3 x4 x5 x6 x7 u 0
  (fun x8 x9 xA xB => (L225v8 u x0 x1 x2 x3 m (x4 + 1) x8 x9 xA k0 k1))
  (k0 x5 x4 x6 x7)) else (k1 x4 x5 x6 x7))
theorem nl225v8 : ∀ (m : Nat) (x0 : Nat) (x1 x2 x3 : FF) (k0 : FF → Nat → FF → FF → Option ρ) (k1 : Nat → FF → FF → FF → Option ρ),ob (L225v8 u i0 n0 f0 n1 m x0 x1 x2 x3 k0 k1) ng = L225v8 u i0 n0 f0 n1 m x0 x1 x2 x3 (fun x4 x5 x6 x7 => ob (k0 x4 x5 x6 x7) ng) (fun x8 x9 xA xB => ob (k1 x8 x9 xA xB) ng)
 | 0,_,_,_,_,_,_ => rfl
 | m + 1,x0,x1,x2,x3,k0,k1 => by
  simp only [L225v8,ob_bif,ob_ob,ob_none,nl225v8 m,nl225v7]
def s225v11 : St := ⟨(vxi i0 :: .x (.c (ro kP n0 f0)) :: (us 5 (.x (.own 0 0 n1) :: .u :: .u :: .x (.own 1 0 n2) :: .x (.own 2 0 n1) :: (us 39 (vxi i0 :: vxi 0 :: (us 40 [])))))),[.arr (.pr (.int .i64) .nil) n1 f1,.arr (.pr (.int .i64) .nil) n2 f2,.arr (.pr .bool .nil) n1 f3]⟩
theorem r225v8 :
  loopH (eB A13v12 (C2 u) u) N225v8 (m + 1) (s225v8 n0 n1 n2 f0 f1 f2 f3 i0) k =
  (bif (decide ((Int.ofNat n2) < i0)) then (loopN (eB A13v9 (C2 u) u) N225v7 u (s225v11 n0 n1 n2 f0 f1 f2 f3 i0) (kBlk 4 (kSeq (C2 u) u (10 :: 12 :: 14 :: (rl 51 41 [])) A13v10 (kBlk 3 (kLoop (eB A13v12 (C2 u) u) N225v8 m k))))) else (k (.exit 2) (s225v10 n2 n1 f1 f2 f3))) := by kernel_rfl
theorem t225v3 :
  loopN (eB A13v9 (C2 u) u) N225v7 u (s225v11 n0 n1 n2 f0 f1 f2 f3 i0) k =
  L225v7 u i0 n0 f0 n1 n2 f1 f2 f3 u 0 (fun x0 x1 x2 x3 => k (.exit 3) (s225v5 n0 n1 n2 f0 x0 x1 x2 x3 i0)) (k (.exit 4) (s225v6 n1 n2 f1 f2 f3)) :=
 Eq.trans (loopN_at (by kernel_rfl)) (q225v7 ..)
theorem g225v4 :
  (kBlk 4 (kSeq (C2 u) u (10 :: 12 :: 14 :: (rl 51 41 [])) A13v10 (kBlk 3 (kLoop (eB A13v12 (C2 u) u) N225v8 m k)))) (.exit 3) (s225v5 n0 n1 n2 f0 f1 f2 f3 f4 i0) =
  (loopH (eB A13v12 (C2 u) u) N225v8 m (s225v8 n0 n1 (n2 + 1) f0 f1 f2 f3 i0) k) := by kernel_rfl
theorem g225v5 :
  (kBlk 4 (kSeq (C2 u) u (10 :: 12 :: 14 :: (rl 51 41 [])) A13v10 (kBlk 3 (kLoop (eB A13v12 (C2 u) u) N225v8 m k)))) (.exit 4) (s225v6 n0 n1 f0 f1 f2) =
  (k .ret (s225v9 n0 n1 f0 f1 f2)) := by kernel_rfl
theorem q225v8 : ∀ (m : Nat) (x0 : Nat) (x1 x2 x3 : FF),
  loopH (eB A13v12 (C2 u) u) N225v8 m (s225v8 n0 n1 x0 f0 x1 x2 x3 i0) k = L225v8 u i0 n0 f0 n1 m x0 x1 x2 x3 (fun x4 x5 x6 x7 => k .ret (s225v9 n1 x5 x4 x6 x7)) (fun x8 x9 xA xB => k (.exit 2) (s225v10 x8 n1 x9 xA xB))
 | 0,_,_,_,_ => rfl
 | m + 1,x0,x1,x2,x3 => by
  rw [r225v8]
  simp only [L225v8,q225v8 m,t225v3,g225v4,g225v5]
def FT225 (x0 : Int) (x1 : Nat) (x2 : FF) : Option (Bool × Nat × FF × Int) :=
 (bif ((decide (x0 < 0)) == false) then (bif (decide (x0 > 256)) then (some (true,0,(fun _ _ => .any),9)) else (ob (F224 u x0 x1 x2) fun x3 => (bif (x3 != 0) then (some (true,0,(fun _ _ => .any),x3)) else (bif (decide (0 ≤ x0) && decide (x0 ≤ x0) && decide (x0 ≤ 1073741824) && true) then (L225v1 u x0 x1 x2 x0.toNat (Int.ofNat x1) u 0 (fun _ j => listF [(.i .i64 0)] j)
  (fun x4 => (bif (decide (0 ≤ 0) && decide (0 ≤ x0) && decide (x0 ≤ 1073741824) && true) then (bif (decide (0 ≤ x0) && decide (x0 ≤ x0) && decide (x0 ≤ 1073741824) && true) then (L225v8 u x0 x1 x2 x0.toNat u 0 x4 (fun _ j => listF [(.i .i64 0)] j) (fun _ j => listF [(.b false)] j)
  (fun x5 x6 x7 x8 => (some (true,0,(fun _ _ => .any),20)))
  (fun x9 xA xB xC => (some (false,x9,xB,0)))) else none) else none))) else none)))) else (some (true,0,(fun _ _ => .any),9)))
def s225v12 : St := ⟨(vxi i0 :: .x (.c (ro kP n0 f0)) :: uu :: uu :: (us 3 (.x (.own 0 0 i0.toNat) :: uu :: uu :: uu :: uu :: uu :: uu :: uu :: (us 12 [vxi i0,.x (.own 0 0 i0.toNat),.x (.c (ro kP n0 f0)),vxi (Int.ofNat n0),vxi 0,uu,uu,uu,uu,uu,uu,uu,uu,uu,uu,uu,uu,uu,uu,uu,uu,uu,uu,uu,uu,uu,uu,uu,uu,uu,uu,uu,uu,uu,uu,uu,uu,uu,uu,uu,uu,uu,uu,uu,uu,uu,uu,uu,uu,uu,uu,uu,uu,uu,uu,uu,uu,uu,uu,uu,uu,uu,uu,uu,uu,uu])))),[.arr (.pr (.int .i64) .nil) i0.toNat (fun _ j => listF [(vi 0)] j)]⟩
theorem t225v6 :
  loopN (eB A13v2 (C2 u) u) N225v1 u (s225v12 n0 f0 i0) k =
  L225v1 u i0 n0 f0 i0.toNat (Int.ofNat n0) u 0 (fun _ j => listF [(vi 0)] j) (fun x0 => k (.exit 0) (s225v1 n0 i0.toNat f0 x0 i0)) :=
 Eq.trans (loopN_at (by kernel_rfl)) (q225v1 ..)
def s225v13 : St := ⟨(vxi i0 :: .x (.c (ro kP n0 f0)) :: (us 5 (.x (.own 0 0 i0.toNat) :: .u :: .u :: .x (.own 1 0 0) :: .x (.own 2 0 i0.toNat) :: (us 31 (vxi i0 :: .x (.own 1 0 0) :: vxi i0 :: .x (.own 2 0 i0.toNat) :: (us 46 [])))))),[.arr (.pr (.int .i64) .nil) i0.toNat f1,.arr (.pr (.int .i64) .nil) 0 (fun _ j => listF [(vi 0)] j),.arr (.pr .bool .nil) i0.toNat (fun _ j => listF [(.b false)] j)]⟩
theorem g225v7 :
  (kBlk 0 (kSeq (C2 u) u (9 :: (rl 29 14 [])) A13v14 (finish A13))) (.exit 0) (s225v1 n0 i0.toNat f0 f1 i0) =
  (bif (decide (0 ≤ 0) && decide (0 ≤ i0) && decide (i0 ≤ 1073741824) && true) then (bif (decide (0 ≤ i0) && decide (i0 ≤ i0) && decide (i0 ≤ 1073741824) && true) then (loopN (eB A13v12 (C2 u) u) N225v8 u (s225v13 n0 f0 f1 i0) (kBlk 2 (kSeq (C2 u) u (4 :: 5 :: 12 :: 14 :: (rl 47 45 [])) A13v13 (finish A13)))) else none) else none) := by kernel_rfl
theorem t225v8 :
  loopN (eB A13v12 (C2 u) u) N225v8 u (s225v13 n0 f0 f1 i0) k =
  L225v8 u i0 n0 f0 i0.toNat u 0 f1 (fun _ j => listF [(vi 0)] j) (fun _ j => listF [(.b false)] j) (fun x0 x1 x2 x3 => k .ret (s225v9 i0.toNat x1 x0 x2 x3)) (fun x4 x5 x6 x7 => k (.exit 2) (s225v10 x4 i0.toNat x5 x6 x7)) :=
 Eq.trans (loopN_at (by kernel_rfl)) (q225v8 ..)
theorem g225v9 :
  (kBlk 2 (kSeq (C2 u) u (4 :: 5 :: 12 :: 14 :: (rl 47 45 [])) A13v13 (finish A13))) .ret (s225v9 i0.toNat n0 f0 f1 f2) =
  (some [.v (.ro true .nil 0 nilF),.v (vi 20)]) := by kernel_rfl
theorem g225v10 :
  (kBlk 2 (kSeq (C2 u) u (4 :: 5 :: 12 :: 14 :: (rl 47 45 [])) A13v13 (finish A13))) (.exit 2) (s225v10 n0 i0.toNat f0 f1 f2) =
  (some [.v (ro (.pr (.int .i64) .nil) n0 f1),.v (vi 0)]) := by kernel_rfl
theorem e225 : evalF (C2 u) u A13 [.v (vi i0),.v (ro kP n0 f0)] = ob (FT225 u i0 n0 f0) fun t => some (bif t.1 then [.v (.ro true .nil 0 nilF),.v (vi t.2.2.2)] else [.v (ro (.pr (.int .i64) .nil) t.2.1 t.2.2.1),.v (vi 0)]) := Eq.trans (b := (bif ((decide (i0 < 0)) == false) then (bif (decide (i0 > 256)) then (some [.v (.ro true .nil 0 nilF),.v (vi 9)]) else (ob (F224 u i0 n0 f0) fun x0 => (bif (x0 != 0) then (some [.v (.ro true .nil 0 nilF),.v (vi x0)]) else (bif (decide (0 ≤ i0) && decide (i0 ≤ i0) && decide (i0 ≤ 1073741824) && true) then (loopN (eB A13v2 (C2 u) u) N225v1 u (s225v12 n0 f0 i0) (kBlk 0 (kSeq (C2 u) u (9 :: (rl 29 14 [])) A13v14 (finish A13)))) else none)))) else (some [.v (.ro true .nil 0 nilF),.v (vi 9)]))) (by kernel_rfl) (by
 simp only [FT225,ob_bif,ob_ob,ob_none,ob_some,nl225v1,nl225v8,t225v6,g225v7,t225v8,g225v9,g225v10,cond_true,cond_false])
def F225 (x0 : Int) (x1 : Nat) (x2 : FF) : Option (Nat × FF × Int) := ob (FT225 u x0 x1 x2) fun t => some (bif t.1 then (0,(fun _ _ => .any),t.2.2.2) else (t.2.1,t.2.2.1,0))
def O225 : Ora := mkO (qc (av ci) (q1 (av (cL kP)))) (fun x => F225 u x.1 x.2.1 x.2.2) fun t => [.v (ro (.pr (.int .i64) .nil) t.1 t.2.1),.v (vi t.2.2)]
theorem d225 : DO (O225 u) (C2 u) 13 A13 := dW u (fun x => by exact e225 u x.2.1 x.2.2 x.1) (fun _ => rfl) fun t => by
 obtain ⟨b,t⟩ := t
 cases b with
 | true => exact (.cons (WkA.v (Wk.ro (by rfl))) (.cons (WkA.v (Wk.refl _)) .nil))
 | false =>
  exact (.cons (WkA.v (Wk.refl _)) (.cons (WkA.v (Wk.refl _)) .nil))
def C3 : Oracle := (C2 u).add 13 (fun _ => true) (O225 u)
def A31v1 : AC := (.region 8 [o1 25 (bk .add 3 15 1),mv 15 25] 0 none)
def A31v2 : AC := (.seq (.block 1
 (.seq (.region 5 [o1 17 (.indexAddr 25 3 1 (tm 13) (tm 15)),o1 18 (lo 3 17),o1 9 (sg 18)] 0 none) []
  (.seq (.region 6 [mv 19 9,o1 20 (bk .lss 3 19 0),mv 21 20,og 22 (.move (tm 9)) 21 false,og 23 (bk .gtr 3 22 1048576) 21 false,o1 24 (pa 21 23)] 0 none) []
  (.cond (tm 24)
  (.seq (.region 7 [o1 6 (.assign (.const (.slice none 0 0))),o1 7 (sk 9)] 0 none) []
   (.ret (rl 0 6 (rl 8 30 []))))
  .skip)))) (6 :: 7 :: 9 :: (rl 17 8 []))
 A31v1)
def A31v3 : AC := (.seq (.region 4 [o1 16 (bt .lss 3 15 14)] 0 none) []
 (.seq (.cond (tm 16)
 .skip
 (.exit 0 (rl 3 35 []))) []
 A31v2))
def A31v4 : AC := (.seq (.region 11 [mv 32 0,o1 33 (.len 25 false (tm 32)),mv 34 1,o1 35 (cf 13 [33,34] [3,22]),o1 36 (.extract (tm 35) 0),o1 37 (.extract (tm 35) 1),o1 6 (sg 36),o1 7 (sg 37)] 0 none) []
 (.ret (rl 0 6 (rl 8 30 []))))
def A31v5 : AC := (.seq (.seq (.region 9 [mv 26 2,o1 27 (bk .lss 3 26 0),mv 28 27,og 29 (.move (tm 2)) 28 false,og 30 (bk .gtr 3 29 1099511627776) 28 false,o1 31 (pa 28 30)] 0 none) []
 (.cond (tm 31)
 (.seq (.region 10 [o1 6 (.assign (.const (.slice none 0 0))),o1 7 (sk 9)] 0 none) []
  (.ret (rl 0 6 (rl 8 30 []))))
 .skip)) (6 :: 7 :: (rl 26 6 []))
 A31v4)
def A31v6 : AC := (.seq (.seq (.region 3 [mv 13 0,o1 14 (.len 25 false (tm 13)),o1 15 (.move (ic 0))] 0 none) []
 (.block 0
 (.loop [] (rl 3 10 (rl 16 22 []))
  A31v3))) (6 :: 7 :: 9 :: (rl 13 13 []))
 A31v5)
def A31 : AF := ⟨38,[.tmp 6,.tmp 7],
 (.seq (.region 0 [o1 6 (.assign (.const (.slice none 0 0))),o1 7 (sk 0)] 0 none) []
 (.seq (.seq (.region 1 [mv 10 0,o1 11 (.len 25 false (tm 10)),o1 12 (bk .gtr 3 11 256)] 0 none) []
 (.cond (tm 12)
 (.seq (.region 2 [o1 6 (.assign (.const (.slice none 0 0))),o1 7 (sk 9)] 0 none) []
  (.ret (rl 0 6 (rl 8 30 []))))
 .skip)) [6,7,10,11,12]
 A31v6))⟩
def N226v1 : St → Option St := nN 0 (rl 3 10 (rl 16 22 []))
def s226v0 : St := ⟨(.x (.c (ro (.pr (.int .i64) .nil) n0 f0)) :: .x (.c (ro kP n1 f1)) :: vxi i0 :: (us 10 (.x (.c (ro (.pr (.int .i64) .nil) n0 f0)) :: vxi i1 :: vxi i2 :: (us 22 [])))),[]⟩
def s226v1 : St := ⟨(us 6 (.x (vcn) :: vxi 9 :: (us 30 []))),[]⟩
def s226v2 : St := ⟨(.x (.c (ro (.pr (.int .i64) .nil) n0 f0)) :: .x (.c (ro kP n1 f1)) :: vxi i0 :: (us 35 [])),[]⟩
def L226v1 {ρ : Type} (u : Nat) (x0 : Nat) (x1 : FF) (x2 : Nat) (x3 : FF) (x4 x5 : Int) : Nat → Int → (Option ρ) → (Option ρ) → Option ρ
 | 0,_,_,_ => none
 | m + 1,x6,k0,k1 =>
  (bif (decide (x6 < x5)) then (bif (inb x6 x0) then (bif ((decide ((x1 x6.toNat 0).int < 0)) == false) then (bif (decide ((x1 x6.toNat 0).int > 1048576)) then k0 else (L226v1 u x0 x1 x2 x3 x4 x5 m (w64 (x6 + 1)) k0 k1)) else k0) else none) else k1)
theorem nl226v1 : ∀ (m : Nat) (x0 : Int) (k0 : Option ρ) (k1 : Option ρ),ob (L226v1 u n0 f0 n1 f1 i0 i1 m x0 k0 k1) ng = L226v1 u n0 f0 n1 f1 i0 i1 m x0 (ob k0 ng) (ob k1 ng)
 | 0,_,_,_ => rfl
 | m + 1,x0,k0,k1 => by
  simp only [L226v1,ob_bif,ob_ob,ob_none,nl226v1 m]
theorem r226v1 :
  loopH (eB A31v3 (C3 u) u) N226v1 (m + 1) (s226v0 n0 n1 f0 f1 i0 i1 i2) k =
  (bif (decide (i2 < i1)) then (bif (inb i2 n0) then (bif ((decide ((f0 i2.toNat 0).int < 0)) == false) then (bif (decide ((f0 i2.toNat 0).int > 1048576)) then (k .ret s226v1) else (loopH (eB A31v3 (C3 u) u) N226v1 m (s226v0 n0 n1 f0 f1 i0 i1 (w64 (i2 + 1))) k)) else (k .ret s226v1)) else none) else (k (.exit 0) (s226v2 n0 n1 f0 f1 i0))) := by kernel_rfl
theorem q226v1 : ∀ (m : Nat) (x0 : Int),
  loopH (eB A31v3 (C3 u) u) N226v1 m (s226v0 n0 n1 f0 f1 i0 i1 x0) k = L226v1 u n0 f0 n1 f1 i0 i1 m x0 (k .ret s226v1) (k (.exit 0) (s226v2 n0 n1 f0 f1 i0))
 | 0,_ => rfl
 | m + 1,x0 => by
  rw [r226v1]
  simp only [L226v1,q226v1 m]
def FT226 (x0 : Nat) (x1 : FF) (x2 : Nat) (x3 : FF) (x4 : Int) : Option (Bool × Nat × FF × Int) :=
 (bif (decide ((Int.ofNat x0) > 256)) then (some (true,0,(fun _ _ => .any),9)) else (L226v1 u x0 x1 x2 x3 x4 (Int.ofNat x0) u 0
  (some (true,0,(fun _ _ => .any),9))
  (bif ((decide (x4 < 0)) == false) then (bif (decide (x4 > 1099511627776)) then (some (true,0,(fun _ _ => .any),9)) else (ob (F225 u (Int.ofNat x0) x2 x3) fun x5 => (some (false,x5.1,x5.2.1,x5.2.2)))) else (some (true,0,(fun _ _ => .any),9)))))
def s226v3 : St := ⟨(.x (.c (ro (.pr (.int .i64) .nil) n0 f0)) :: .x (.c (ro kP n1 f1)) :: vxi i0 :: uu :: uu :: uu :: .u :: .u :: uu :: uu :: (us 3 [.x (.c (ro (.pr (.int .i64) .nil) n0 f0)),vxi (Int.ofNat n0),vxi 0,uu,uu,uu,uu,uu,uu,uu,uu,uu,uu,uu,uu,uu,uu,uu,uu,uu,uu,uu,uu,uu,uu])),[]⟩
theorem t226v1 :
  loopN (eB A31v3 (C3 u) u) N226v1 u (s226v3 n0 n1 f0 f1 i0) k =
  L226v1 u n0 f0 n1 f1 i0 (Int.ofNat n0) u 0 (k .ret s226v1) (k (.exit 0) (s226v2 n0 n1 f0 f1 i0)) :=
 Eq.trans (loopN_at (by kernel_rfl)) (q226v1 ..)
theorem g226v2 :
  (kBlk 0 (kSeq (C3 u) u (6 :: 7 :: 9 :: (rl 13 13 [])) A31v5 (finish A31))) .ret s226v1 =
  (some [.v (.ro true .nil 0 nilF),.v (vi 9)]) := by kernel_rfl
theorem g226v3 :
  (kBlk 0 (kSeq (C3 u) u (6 :: 7 :: 9 :: (rl 13 13 [])) A31v5 (finish A31))) (.exit 0) (s226v2 n0 n1 f0 f1 i0) =
  (bif ((decide (i0 < 0)) == false) then (bif (decide (i0 > 1099511627776)) then (some [.v (.ro true .nil 0 nilF),.v (vi 9)]) else (ob (F225 u (Int.ofNat n0) n1 f1) fun x0 => (some [.v (ro (.pr (.int .i64) .nil) x0.1 x0.2.1),.v (vi x0.2.2)]))) else (some [.v (.ro true .nil 0 nilF),.v (vi 9)])) := by kernel_rfl
theorem e226 : evalF (C3 u) u A31 [.v (ro (.pr (.int .i64) .nil) n0 f0),.v (ro kP n1 f1),.v (vi i0)] = ob (FT226 u n0 f0 n1 f1 i0) fun t => some (bif t.1 then [.v (.ro true .nil 0 nilF),.v (vi 9)] else [.v (ro (.pr (.int .i64) .nil) t.2.1 t.2.2.1),.v (vi t.2.2.2)]) := Eq.trans (b := (bif (decide ((Int.ofNat n0) > 256)) then (some [.v (.ro true .nil 0 nilF),.v (vi 9)]) else (loopN (eB A31v3 (C3 u) u) N226v1 u (s226v3 n0 n1 f0 f1 i0) (kBlk 0 (kSeq (C3 u) u (6 :: 7 :: 9 :: (rl 13 13 [])) A31v5 (finish A31)))))) (by kernel_rfl) (by
 simp only [FT226,ob_bif,ob_ob,ob_none,ob_some,nl226v1,t226v1,g226v2,g226v3,cond_true,cond_false])
def F226 (x0 : Nat) (x1 : FF) (x2 : Nat) (x3 : FF) (x4 : Int) : Option (Nat × FF × Int) := ob (FT226 u x0 x1 x2 x3 x4) fun t => some (bif t.1 then (0,(fun _ _ => .any),9) else (t.2.1,t.2.2.1,t.2.2.2))
def O226 : Ora := mkO (qc (av (cL (.pr (.int .i64) .nil))) (qc (av (cL kP)) (q1 (av ci)))) (fun x => F226 u x.1.1 x.1.2 x.2.1.1 x.2.1.2 x.2.2) fun t => [.v (ro (.pr (.int .i64) .nil) t.1 t.2.1),.v (vi t.2.2)]
theorem d226 : DO (O226 u) (C3 u) 31 A31 := dW u (fun x => by exact e226 u x.1.1 x.2.1.1 x.1.2 x.2.1.2 x.2.2) (fun _ => rfl) fun t => by
 obtain ⟨b,t⟩ := t
 cases b with
 | true => exact (.cons (WkA.v (Wk.ro (by rfl))) (.cons (WkA.v (Wk.refl _)) .nil))
 | false =>
  exact (.cons (WkA.v (Wk.refl _)) (.cons (WkA.v (Wk.refl _)) .nil))
def C4 : Oracle := (C3 u).add 31 (fun _ => true) (O226 u)
def A18v1 : AC := (.region 13 [o1 60 (bk .add 3 33 1),mv 33 60] 0 none)
def A18v2 : AC := (.seq (.block 3
 (.seq (.region 10 [o1 35 (.indexAddr 22 31 2 (tm 31) (tm 33)),o1 36 (ln 31 2 35),o1 12 (.alloc 0 31 [vci 0,vci 0]),o0 (.store 31 2 (tm 12) (tm 36))] 1 none) []
  (.seq (.region 11 [o1 37 (.indexAddrA 31 3 2 1 (tm 12) (ic 0)),o1 38 (lo 3 37),mv 39 10,o1 40 (bt .eql 3 38 39)] 0 none) []
  (.cond (tm 40)
  (.region 12 [mv 41 8,o1 42 (.indexAddrA 31 3 2 1 (tm 12) (ic 1)),o1 43 (lo 3 42),mv 44 8,o1 45 (.indexAddrA 31 3 2 1 (tm 12) (ic 1)),o1 46 (lo 3 45),o1 47 (.indexAddr 25 3 1 (tm 44) (tm 46)),o1 48 (lo 3 47),mv 49 8,mv 50 10,o1 51 (.indexAddr 25 3 1 (tm 49) (tm 50)),o1 52 (lo 3 51),mv 53 0,mv 54 10,o1 55 (.indexAddr 25 3 1 (tm 53) (tm 54)),o1 56 (lo 3 55),o1 57 (bt .add 3 52 56),o1 58 (.mm true [(tm 48),(tm 57)] [3,3]),o1 59 (.indexAddr 25 3 1 (tm 41) (tm 43)),o0 (.store 3 1 (tm 59) (tm 58))] 0 (some [[],[],[1],[],[],[4],[3,4,5],(rl 3 4 []),[],[],[8,9],[8,9,10],[],[],[12,13],[12,13,14],(rl 8 8 []),(rl 3 14 []),(rl 0 18 []),(rl 0 19 [])]))
  .skip)))) (12 :: (rl 35 25 []))
 A18v1)
def A18v3 : AC := (.seq (.region 9 [o1 34 (bt .lss 3 33 32)] 0 none) []
 (.seq (.cond (tm 34)
 .skip
 (.exit 2 (rl 2 6 (rl 9 16 (rl 28 35 []))))) []
 A18v2))
def A18v4 : AC := (.region 14 [o1 61 (bk .add 3 27 1),mv 27 61] 0 none)
def A18v5 : AC := (.seq (.block 1
 (.seq (.region 7 [o1 29 (.indexAddr 25 3 1 (tm 25) (tm 27)),o1 30 (lo 3 29),o1 10 (sg 30)] 0 none) []
  (.seq (.region 8 [mv 31 1,o1 32 (.len 22 false (tm 31)),o1 33 (.move (ic 0))] 0 none) []
  (.block 2
  (.loop [] (rl 2 6 (9 :: (rl 11 14 (28 :: 29 :: 30 :: (rl 34 29 [])))))
   A18v3))))) (10 :: 12 :: (rl 29 32 []))
 A18v4)
def A18v6 : AC := (.seq (.region 6 [o1 28 (bt .lss 3 27 26)] 0 none) []
 (.seq (.cond (tm 28)
 .skip
 (.exit 0 (rl 0 8 (rl 9 54 [])))) []
 A18v5))
def A18v7 : AC := (.seq (.region 15 [mv 62 8,o1 4 (sg 62),o1 5 (sk 0)] 0 none) []
 (.ret (rl 0 4 (rl 6 57 []))))
def A18v8 : AC := (.seq (.region 4 [mv 22 0,o1 23 (.len 25 false (tm 22)),o1 24 (.makeSlice 0 25 3 (.pr (.int .i64) .nil) 8 [(vi 0)] (tm 23) (tm 23)),o1 8 (sg 24)] 1 none) []
 (.seq (.seq (.region 5 [mv 25 6,o1 26 (.len 25 false (tm 25)),o1 27 (.move (ic 0))] 0 none) []
 (.block 0
 (.loop [] (rl 2 6 (rl 9 16 (rl 28 35 [])))
  A18v6))) (10 :: 12 :: (rl 25 37 []))
 A18v7))
def A18 : AF := ⟨63,[.tmp 4,.tmp 5],
 (.seq (.region 0 [o1 4 (.assign (.const (.slice none 0 0))),o1 5 (sk 0)] 0 none) []
 (.seq (.region 1 [mv 14 0,mv 15 1,o1 16 (.call 31 [(tm 14),(tm 15),(ic 0)] [25,22,3] .freeze),mv 13 16,o1 17 (.extract (tm 13) 0),o1 18 (.extract (tm 13) 1),o1 6 (sg 17),o1 7 (sg 18)] 0 none) []
 (.seq (.seq (.region 2 [mv 19 7,o1 20 (bk .neq 26 19 0)] 0 none) []
 (.cond (tm 20)
 (.seq (.region 3 [mv 21 7,o1 4 (.assign (.const (.slice none 0 0))),o1 5 (sg 21)] 0 none) []
  (.ret (rl 0 4 (rl 6 57 []))))
 .skip)) [4,5,19,20,21]
 A18v8)))⟩
def N227v2 : St → Option St := nN 1 (rl 2 6 (9 :: (rl 11 14 (28 :: 29 :: 30 :: (rl 34 29 [])))))
def s227v0 : St := ⟨(.x (.c (ro (.pr (.int .i64) .nil) n0 f0)) :: .x (.c (ro kP n1 f1)) :: (us 6 (.x (.own 0 0 n2) :: .u :: vxi i0 :: (us 14 (.x (.c (ro (.pr (.int .i64) .nil) n3 f2)) :: vxi i1 :: vxi i2 :: (us 3 (.x (.c (ro kP n1 f1)) :: vxi i3 :: vxi i4 :: (us 29 [])))))))),[.arr (.pr (.int .i64) .nil) n2 f3]⟩
def s227v1 : St := ⟨(.x (.c (ro (.pr (.int .i64) .nil) n0 f0)) :: .x (.c (ro kP n1 f1)) :: (us 6 (.x (.own 0 0 n2) :: (us 16 (.x (.c (ro (.pr (.int .i64) .nil) n3 f2)) :: vxi i0 :: vxi i1 :: (us 35 [])))))),[.arr (.pr (.int .i64) .nil) n2 f3]⟩
def L227v2 {ρ : Type} (u : Nat) (x0 : Nat) (x1 : FF) (x2 : Nat) (x3 : FF) (x4 : Nat) (x5 : Int) (x6 : Nat) (x7 : FF) (x8 x9 xA : Int) : Nat → Int → FF → (FF → Option ρ) → Option ρ
 | 0,_,_,_ => none
 | m + 1,xB,xC,k0 =>
  (bif (decide (xB < xA)) then (bif (inb xB x2) then (bif ((x3 xB.toNat 0).int == x5) then (bif (inb (x3 xB.toNat 1).int x4) then (bif (inb x5 x4) then (bif (inb x5 x0) then (bif (inb (x3 xB.toNat 1).int x4) then (L227v2 u x0 x1 x2 x3 x4 x5 x6 x7 x8 x9 xA m (w64 (xB + 1)) (setF xC (0 + (Int.toNat (x3 xB.toNat 1).int)) 0 1 (listF [(.i .i64 (if (w64 ((xC (0 + x5.toNat) 0).int + (x1 x5.toNat 0).int)) > (CV.int (xC (0 + (Int.toNat (x3 xB.toNat 1).int)) 0)) then (w64 ((xC (0 + x5.toNat) 0).int + (x1 x5.toNat 0).int)) else (CV.int (xC (0 + (Int.toNat (x3 xB.toNat 1).int)) 0))))])) k0) else none) else none) else none) else none) else (L227v2 u x0 x1 x2 x3 x4 x5 x6 x7 x8 x9 xA m (w64 (xB + 1)) xC k0)) else none) else (k0 xC))
theorem nl227v2 : ∀ (m : Nat) (x0 : Int) (x1 : FF) (k0 : FF → Option ρ),ob (L227v2 u n0 f0 n1 f1 n2 i0 n3 f2 i1 i2 i3 m x0 x1 k0) ng = L227v2 u n0 f0 n1 f1 n2 i0 n3 f2 i1 i2 i3 m x0 x1 (fun x2 => ob (k0 x2) ng)
 | 0,_,_,_ => rfl
 | m + 1,x0,x1,k0 => by
  simp only [L227v2,ob_bif,ob_ob,ob_none,nl227v2 m]
theorem r227v2 :
  loopH (eB A18v3 (C4 u) u) N227v2 (m + 1) (s227v0 n0 n1 n2 n3 f0 f1 f2 f3 i0 i1 i2 i3 i4) k =
  (bif (decide (i4 < i3)) then (bif (inb i4 n1) then (bif ((f1 i4.toNat 0).int == i0) then (bif (inb (f1 i4.toNat 1).int n2) then (bif (inb i0 n2) then (bif (inb i0 n0) then (bif (inb (f1 i4.toNat 1).int n2) then (loopH (eB A18v3 (C4 u) u) N227v2 m (s227v0 n0 n1 n2 n3 f0 f1 f2 (setF f3 (0 + (Int.toNat (f1 i4.toNat 1).int)) 0 1 (listF [(vi (if (w64 ((f3 (0 + i0.toNat) 0).int + (f0 i0.toNat 0).int)) > (CV.int (f3 (0 + (Int.toNat (f1 i4.toNat 1).int)) 0)) then (w64 ((f3 (0 + i0.toNat) 0).int + (f0 i0.toNat 0).int)) else (CV.int (f3 (0 + (Int.toNat (f1 i4.toNat 1).int)) 0))))])) i0 i1 i2 i3 (w64 (i4 + 1))) k) else none) else none) else none) else none) else (loopH (eB A18v3 (C4 u) u) N227v2 m (s227v0 n0 n1 n2 n3 f0 f1 f2 f3 i0 i1 i2 i3 (w64 (i4 + 1))) k)) else none) else (k (.exit 2) (s227v1 n0 n1 n2 n3 f0 f1 f2 f3 i1 i2))) := by kernel_rfl
theorem q227v2 : ∀ (m : Nat) (x0 : Int) (x1 : FF),
  loopH (eB A18v3 (C4 u) u) N227v2 m (s227v0 n0 n1 n2 n3 f0 f1 f2 x1 i0 i1 i2 i3 x0) k = L227v2 u n0 f0 n1 f1 n2 i0 n3 f2 i1 i2 i3 m x0 x1 (fun x2 => k (.exit 2) (s227v1 n0 n1 n2 n3 f0 f1 f2 x2 i1 i2))
 | 0,_,_ => rfl
 | m + 1,x0,x1 => by
  rw [r227v2]
  simp only [L227v2,q227v2 m]
def N227v3 : St → Option St := nN 1 (rl 2 6 (rl 9 16 (rl 28 35 [])))
def s227v2 : St := ⟨(.x (.c (ro (.pr (.int .i64) .nil) n0 f0)) :: .x (.c (ro kP n1 f1)) :: (us 6 (.x (.own 0 0 n2) :: (us 16 (.x (.c (ro (.pr (.int .i64) .nil) n3 f2)) :: vxi i0 :: vxi i1 :: (us 35 [])))))),[.arr (.pr (.int .i64) .nil) n2 f3]⟩
def s227v3 : St := ⟨(us 8 (.x (.own 0 0 n0) :: (us 54 []))),[.arr (.pr (.int .i64) .nil) n0 f0]⟩
def L227v3 {ρ : Type} (u : Nat) (x0 : Nat) (x1 : FF) (x2 : Nat) (x3 : FF) (x4 x5 : Nat) (x6 : FF) (x7 : Int) : Nat → Int → FF → (FF → Option ρ) → Option ρ
 | 0,_,_,_ => none
 | m + 1,x8,x9,k0 =>
  (bif (decide (x8 < x7)) then (bif (inb x8 x5) then (L227v2 u x0 x1 x2 x3 x4 (x6 x8.toNat 0).int x5 x6 x7 x8 (Int.ofNat x2) u 0 x9
  (fun xA => (L227v3 u x0 x1 x2 x3 x4 x5 x6 x7 m (w64 (x8 + 1)) xA k0))) else none) else (k0 x9))
theorem nl227v3 : ∀ (m : Nat) (x0 : Int) (x1 : FF) (k0 : FF → Option ρ),ob (L227v3 u n0 f0 n1 f1 n2 n3 f2 i0 m x0 x1 k0) ng = L227v3 u n0 f0 n1 f1 n2 n3 f2 i0 m x0 x1 (fun x2 => ob (k0 x2) ng)
 | 0,_,_,_ => rfl
 | m + 1,x0,x1,k0 => by
  simp only [L227v3,ob_bif,ob_ob,ob_none,nl227v3 m,nl227v2]
def s227v4 : St := ⟨(.x (.c (ro (.pr (.int .i64) .nil) n0 f0)) :: .x (.c (ro kP n1 f1)) :: (us 6 (.x (.own 0 0 n2) :: .u :: vxi (f2 i0.toNat 0).int :: (us 14 (.x (.c (ro (.pr (.int .i64) .nil) n3 f2)) :: vxi i1 :: vxi i0 :: vxb true :: .x (.c (.rp (.pr (.int .i64) .nil) (f2 i0.toNat))) :: vxi (f2 i0.toNat 0).int :: .x (.c (ro kP n1 f1)) :: vxi (Int.ofNat n1) :: vxi 0 :: (us 29 [])))))),[.arr (.pr (.int .i64) .nil) n2 f3]⟩
theorem r227v3 :
  loopH (eB A18v6 (C4 u) u) N227v3 (m + 1) (s227v2 n0 n1 n2 n3 f0 f1 f2 f3 i0 i1) k =
  (bif (decide (i1 < i0)) then (bif (inb i1 n3) then (loopN (eB A18v3 (C4 u) u) N227v2 u (s227v4 n0 n1 n2 n3 f0 f1 f2 f3 i1 i0) (kBlk 2 (kBlk 1 (kSeq (C4 u) u (10 :: 12 :: (rl 29 32 [])) A18v4 (kLoop (eB A18v6 (C4 u) u) N227v3 m k))))) else none) else (k (.exit 0) (s227v3 n2 f3))) := by kernel_rfl
theorem t227v1 :
  loopN (eB A18v3 (C4 u) u) N227v2 u (s227v4 n0 n1 n2 n3 f0 f1 f2 f3 i0 i1) k =
  L227v2 u n0 f0 n1 f1 n2 (f2 i0.toNat 0).int n3 f2 i1 i0 (Int.ofNat n1) u 0 f3 (fun x0 => k (.exit 2) (s227v1 n0 n1 n2 n3 f0 f1 f2 x0 i1 i0)) :=
 Eq.trans (loopN_at (by kernel_rfl)) (q227v2 ..)
theorem g227v2 :
  (kBlk 2 (kBlk 1 (kSeq (C4 u) u (10 :: 12 :: (rl 29 32 [])) A18v4 (kLoop (eB A18v6 (C4 u) u) N227v3 m k)))) (.exit 2) (s227v1 n0 n1 n2 n3 f0 f1 f2 f3 i0 i1) =
  (loopH (eB A18v6 (C4 u) u) N227v3 m (s227v2 n0 n1 n2 n3 f0 f1 f2 f3 i0 (w64 (i1 + 1))) k) := by kernel_rfl
theorem q227v3 : ∀ (m : Nat) (x0 : Int) (x1 : FF),
  loopH (eB A18v6 (C4 u) u) N227v3 m (s227v2 n0 n1 n2 n3 f0 f1 f2 x1 i0 x0) k = L227v3 u n0 f0 n1 f1 n2 n3 f2 i0 m x0 x1 (fun x2 => k (.exit 0) (s227v3 n2 x2))
 | 0,_,_ => rfl
 | m + 1,x0,x1 => by
  rw [r227v3]
  simp only [L227v3,q227v3 m,t227v1,g227v2]
def FT227 (x0 : Nat) (x1 : FF) (x2 : Nat) (x3 : FF) : Option (Bool × Nat × FF × Int) :=
 (ob (F226 u x0 x1 x2 x3 0) fun x4 => (bif (x4.2.2 != 0) then (some (true,0,(fun _ _ => .any),x4.2.2)) else (bif (decide (0 ≤ (Int.ofNat x0)) && decide ((Int.ofNat x0) ≤ (Int.ofNat x0)) && decide ((Int.ofNat x0) ≤ 1073741824) && true) then (L227v3 u x0 x1 x2 x3 (Int.toNat (Int.ofNat x0)) x4.1 x4.2.1 (Int.ofNat x4.1) u 0 (fun _ j => listF [(.i .i64 0)] j)
  (fun x5 => (some (false,(Int.toNat (Int.ofNat x0)),x5,0)))) else none)))
def s227v5 (x0 : Nat × FF × Int) : St := ⟨(.x (.c (ro (.pr (.int .i64) .nil) n0 f0)) :: .x (.c (ro kP n1 f1)) :: uu :: uu :: .u :: .u :: .x (.c (ro (.pr (.int .i64) .nil) x0.1 x0.2.1)) :: vxi x0.2.2 :: .x (.own 0 0 (Int.toNat (Int.ofNat n0))) :: uu :: uu :: uu :: uu :: .tup [.v (ro (.pr (.int .i64) .nil) x0.1 x0.2.1),.v (vi x0.2.2)] :: .x (.c (ro (.pr (.int .i64) .nil) n0 f0)) :: .x (.c (ro kP n1 f1)) :: .tup [.v (ro (.pr (.int .i64) .nil) x0.1 x0.2.1),.v (vi x0.2.2)] :: .x (.c (ro (.pr (.int .i64) .nil) x0.1 x0.2.1)) :: vxi x0.2.2 :: (us 3 [.x (.c (ro (.pr (.int .i64) .nil) n0 f0)),vxi (Int.ofNat n0),.x (.own 0 0 (Int.toNat (Int.ofNat n0))),.x (.c (ro (.pr (.int .i64) .nil) x0.1 x0.2.1)),vxi (Int.ofNat x0.1),vxi 0,uu,uu,uu,uu,uu,uu,uu,uu,uu,uu,uu,uu,uu,uu,uu,uu,uu,uu,uu,uu,uu,uu,uu,uu,uu,uu,uu,uu,uu,uu,uu,uu,uu,uu,uu])),[.arr (.pr (.int .i64) .nil) (Int.toNat (Int.ofNat n0)) (fun _ j => listF [(vi 0)] j)]⟩
theorem t227v3 (x0 : Nat × FF × Int) :
  loopN (eB A18v6 (C4 u) u) N227v3 u (s227v5 n0 n1 f0 f1 x0) k =
  L227v3 u n0 f0 n1 f1 (Int.toNat (Int.ofNat n0)) x0.1 x0.2.1 (Int.ofNat x0.1) u 0 (fun _ j => listF [(vi 0)] j) (fun x1 => k (.exit 0) (s227v3 (Int.toNat (Int.ofNat n0)) x1)) :=
 Eq.trans (loopN_at (by kernel_rfl)) (q227v3 ..)
theorem g227v4 :
  (kBlk 0 (kSeq (C4 u) u (10 :: 12 :: (rl 25 37 [])) A18v7 (finish A18))) (.exit 0) (s227v3 (Int.toNat (Int.ofNat n0)) f0) =
  (some [.v (ro (.pr (.int .i64) .nil) (Int.toNat (Int.ofNat n0)) f0),.v (vi 0)]) := by kernel_rfl
theorem e227 : evalF (C4 u) u A18 [.v (ro (.pr (.int .i64) .nil) n0 f0),.v (ro kP n1 f1)] = ob (FT227 u n0 f0 n1 f1) fun t => some (bif t.1 then [.v (.ro true .nil 0 nilF),.v (vi t.2.2.2)] else [.v (ro (.pr (.int .i64) .nil) t.2.1 t.2.2.1),.v (vi 0)]) := Eq.trans (b := (ob (F226 u n0 f0 n1 f1 0) fun x0 => (bif (x0.2.2 != 0) then (some [.v (.ro true .nil 0 nilF),.v (vi x0.2.2)]) else (bif (decide (0 ≤ (Int.ofNat n0)) && decide ((Int.ofNat n0) ≤ (Int.ofNat n0)) && decide ((Int.ofNat n0) ≤ 1073741824) && true) then (loopN (eB A18v6 (C4 u) u) N227v3 u (s227v5 n0 n1 f0 f1 x0) (kBlk 0 (kSeq (C4 u) u (10 :: 12 :: (rl 25 37 [])) A18v7 (finish A18)))) else none)))) (by kernel_rfl) (by
 simp only [FT227,ob_bif,ob_ob,ob_none,ob_some,nl227v3,t227v3,g227v4,cond_true,cond_false])
def F227 (x0 : Nat) (x1 : FF) (x2 : Nat) (x3 : FF) : Option (Nat × FF × Int) := ob (FT227 u x0 x1 x2 x3) fun t => some (bif t.1 then (0,(fun _ _ => .any),t.2.2.2) else (t.2.1,t.2.2.1,0))
def O227 : Ora := mkO (qc (av (cL (.pr (.int .i64) .nil))) (q1 (av (cL kP)))) (fun x => F227 u x.1.1 x.1.2 x.2.1 x.2.2) fun t => [.v (ro (.pr (.int .i64) .nil) t.1 t.2.1),.v (vi t.2.2)]
theorem d227 : DO (O227 u) (C4 u) 18 A18 := dW u (fun x => by exact e227 u x.1.1 x.2.1 x.1.2 x.2.2) (fun _ => rfl) fun t => by
 obtain ⟨b,t⟩ := t
 cases b with
 | true => exact (.cons (WkA.v (Wk.ro (by rfl))) (.cons (WkA.v (Wk.refl _)) .nil))
 | false =>
  exact (.cons (WkA.v (Wk.refl _)) (.cons (WkA.v (Wk.refl _)) .nil))
def C5 : Oracle := (C4 u).add 18 (fun _ => true) (O227 u)
def A20v1 : AC := (.region 13 [o1 59 (bk .add 3 38 1),mv 38 59] 0 none)
def A20v2 : AC := (.seq (.block 3
 (.seq (.region 10 [o1 40 (.indexAddr 22 31 2 (tm 36) (tm 38)),o1 41 (ln 31 2 40),o1 14 (.alloc 0 31 [vci 0,vci 0]),o0 (.store 31 2 (tm 14) (tm 41))] 1 none) []
  (.seq (.region 11 [o1 42 (.indexAddrA 31 3 2 1 (tm 14) (ic 0)),o1 43 (lo 3 42),mv 44 12,o1 45 (bt .eql 3 43 44)] 0 none) []
  (.cond (tm 45)
  (.region 12 [o1 46 (lo 25 10),mv 47 12,o1 48 (lo 25 10),mv 49 12,o1 50 (.indexAddr 25 3 1 (tm 48) (tm 49)),o1 51 (lo 3 50),o1 52 (lo 25 10),o1 53 (.indexAddrA 31 3 2 1 (tm 14) (ic 1)),o1 54 (lo 3 53),o1 55 (.indexAddr 25 3 1 (tm 52) (tm 54)),o1 56 (lo 3 55),o1 57 (.mm false [(tm 51),(tm 56)] [3,3]),o1 58 (.indexAddr 25 3 1 (tm 46) (tm 47)),o0 (.store 3 1 (tm 58) (tm 57))] 0 (some [[],[],[],[],[2,3],[2,3,4],[],[],[7],[6,7,8],(rl 6 4 []),(rl 2 9 []),(rl 0 12 []),(rl 0 13 [])]))
  .skip)))) (14 :: (rl 40 19 []))
 A20v1)
def A20v3 : AC := (.seq (.region 9 [o1 39 (bt .lss 3 38 37)] 0 none) []
 (.seq (.cond (tm 39)
 .skip
 (.exit 2 (0 :: 1 :: 2 :: (rl 6 4 (11 :: (rl 13 58 [])))))) []
 A20v2))
def A20v4 : AC := (.region 14 [o1 60 (lo 25 10),mv 61 12,o1 62 (.indexAddr 25 3 1 (tm 60) (tm 61)),o1 63 (lo 3 62),o1 64 (lo 25 3),mv 65 12,o1 66 (.indexAddr 25 3 1 (tm 64) (tm 65)),o1 67 (lo 3 66),o1 68 (bt .sub 3 63 67),o1 69 (.indexAddr 25 3 1 (tm 60) (tm 61)),o0 (.store 3 1 (tm 69) (tm 68))] 0 (some [[],[],[0,1],[0,1,2],[],[],[4,5],[4,5,6],(rl 0 8 []),(rl 0 9 []),(rl 0 10 [])]))
def A20v5 : AC := (.round [(3,0,0),(4,1,0),(5,2,0),(10,4,0)] 8 30 31
 (.seq (.region 6 [o1 12 (sg 31)] 0 none) []
  (.block 1
  (.seq (.region 7 [o1 32 (lo 25 10),mv 33 12,o1 34 (lo 3 5),o1 35 (.indexAddr 25 3 1 (tm 32) (tm 33)),o0 (.store 3 1 (tm 35) (tm 34))] 0 none) []
   (.seq (.seq (.region 8 [o1 36 (lo 22 4),o1 37 (.len 22 false (tm 36)),o1 38 (.move (ic 0))] 0 none) []
   (.block 2
   (.loop [] (0 :: 1 :: 2 :: (rl 6 4 (11 :: (rl 13 23 (rl 39 32 [])))))
    A20v3))) (14 :: (rl 36 24 []))
   A20v4)))))
def A20v6 : AC := (.seq (.region 15 [o1 70 (lo 25 10),o1 6 (sg 70),o1 7 (sk 0)] 0 none) []
 (.ret (rl 0 6 (rl 8 63 []))))
def A20v7 : AC := (.seq (.region 4 [o1 25 (lo 25 3),o1 26 (.len 25 false (tm 25)),o1 27 (.makeSlice 0 25 3 (.pr (.int .i64) .nil) 8 [(vi 0)] (tm 26) (tm 26)),o1 10 (.alloc 1 25 [vcn]),o0 (.store 25 1 (tm 10) (tm 27))] 2 none) []
 (.seq (.back (0 :: 1 :: 2 :: 6 :: 7 :: 9 :: (rl 11 60 [])) 28 8 29 30 33 25
 (.loop [] (0 :: 1 :: 2 :: 6 :: 7 :: 9 :: (rl 11 19 (rl 31 40 [])))
  A20v5)) (12 :: 14 :: 28 :: 29 :: (rl 32 38 []))
 A20v6))
def A20 : AF := ⟨71,[.tmp 6,.tmp 7],
 (.seq (.region 0 [o1 3 (bx 0 25 0),o1 4 (bx 1 22 1),o1 5 (bx 2 3 2),o1 6 (.assign (.const (.slice none 0 0))),o1 7 (sk 0)] 3 none) []
 (.seq (.region 1 [o1 16 (lo 25 3),o1 17 (lo 22 4),o1 18 (lo 3 5),o1 19 (cf 31 [16,17,18] [25,22,3]),mv 15 19,o1 20 (.extract (tm 15) 0),o1 21 (.extract (tm 15) 1),o1 8 (sg 20),o1 9 (sg 21)] 0 none) []
 (.seq (.seq (.region 2 [mv 22 9,o1 23 (bk .neq 26 22 0)] 0 none) []
 (.cond (tm 23)
 (.seq (.region 3 [mv 24 9,o1 6 (.assign (.const (.slice none 0 0))),o1 7 (sg 24)] 0 none) []
  (.ret (rl 0 6 (rl 8 63 []))))
 .skip)) [6,7,22,23,24]
 A20v7)))⟩
def N241v1 : St → Option St := nN 5 (0 :: 1 :: 2 :: (rl 6 4 (11 :: (rl 13 23 (rl 39 32 [])))))
def s241v0 : St := ⟨(us 3 (.x (.ptr 0 0) :: .x (.ptr 1 0) :: .x (.ptr 2 0) :: (us 4 (.x (.ptr 4 0) :: .u :: vxi i0 :: (us 23 (.x (.c (ro kP n0 f0)) :: vxi i1 :: vxi i2 :: (us 32 []))))))),[.box [(.c (ro (.pr (.int .i64) .nil) n1 f1))],.box [(.c (ro kP n0 f0))],.box [(vci i3)],.arr (.pr (.int .i64) .nil) n2 f2,.box [(.own 3 0 n2)]]⟩
def s241v1 : St := ⟨(us 3 (.x (.ptr 0 0) :: .x (.ptr 1 0) :: .x (.ptr 2 0) :: (us 4 (.x (.ptr 4 0) :: .u :: vxi i0 :: (us 58 []))))),[.box [(.c (ro (.pr (.int .i64) .nil) n0 f0))],.box [(.c (ro kP n1 f1))],.box [(vci i1)],.arr (.pr (.int .i64) .nil) n2 f2,.box [(.own 3 0 n2)]]⟩
def L241v1 {ρ : Type} (u : Nat) (x0 : Int) (x1 : Nat) (x2 : FF) (x3 : Int) (x4 : Nat) (x5 : FF) (x6 : Int) (x7 : Nat) : Nat → Int → FF → (FF → Option ρ) → Option ρ
 | 0,_,_,_ => none
 | m + 1,x8,x9,k0 =>
  (bif (decide (x8 < x3)) then (bif (inb x8 x1) then (bif ((x2 x8.toNat 0).int == x0) then (bif (inb x0 x7) then (bif (inb (x2 x8.toNat 1).int x7) then (bif (inb x0 x7) then (L241v1 u x0 x1 x2 x3 x4 x5 x6 x7 m (w64 (x8 + 1)) (setF x9 (0 + x0.toNat) 0 1 (listF [(.i .i64 (if (CV.int (x9 (0 + (Int.toNat (x2 x8.toNat 1).int)) 0)) < (x9 (0 + x0.toNat) 0).int then (CV.int (x9 (0 + (Int.toNat (x2 x8.toNat 1).int)) 0)) else (x9 (0 + x0.toNat) 0).int))])) k0) else none) else none) else none) else (L241v1 u x0 x1 x2 x3 x4 x5 x6 x7 m (w64 (x8 + 1)) x9 k0)) else none) else (k0 x9))
theorem nl241v1 : ∀ (m : Nat) (x0 : Int) (x1 : FF) (k0 : FF → Option ρ),ob (L241v1 u i0 n0 f0 i1 n1 f1 i2 n2 m x0 x1 k0) ng = L241v1 u i0 n0 f0 i1 n1 f1 i2 n2 m x0 x1 (fun x2 => ob (k0 x2) ng)
 | 0,_,_,_ => rfl
 | m + 1,x0,x1,k0 => by
  simp only [L241v1,ob_bif,ob_ob,ob_none,nl241v1 m]
theorem r241v1 :
  loopH (eB A20v3 (C5 u) u) N241v1 (m + 1) (s241v0 n0 n1 n2 f0 f1 f2 i0 i1 i3 i2) k =
  (bif (decide (i3 < i1)) then (bif (inb i3 n0) then (bif ((f0 i3.toNat 0).int == i0) then (bif (inb i0 n2) then (bif (inb (f0 i3.toNat 1).int n2) then (bif (inb i0 n2) then (loopH (eB A20v3 (C5 u) u) N241v1 m (s241v0 n0 n1 n2 f0 f1 (setF f2 (0 + i0.toNat) 0 1 (listF [(vi (if (CV.int (f2 (0 + (Int.toNat (f0 i3.toNat 1).int)) 0)) < (f2 (0 + i0.toNat) 0).int then (CV.int (f2 (0 + (Int.toNat (f0 i3.toNat 1).int)) 0)) else (f2 (0 + i0.toNat) 0).int))])) i0 i1 (w64 (i3 + 1)) i2) k) else none) else none) else none) else (loopH (eB A20v3 (C5 u) u) N241v1 m (s241v0 n0 n1 n2 f0 f1 f2 i0 i1 (w64 (i3 + 1)) i2) k)) else none) else (k (.exit 2) (s241v1 n1 n0 n2 f1 f0 f2 i0 i2))) := by kernel_rfl
theorem q241v1 : ∀ (m : Nat) (x0 : Int) (x1 : FF),
  loopH (eB A20v3 (C5 u) u) N241v1 m (s241v0 n0 n1 n2 f0 f1 x1 i0 i1 x0 i2) k = L241v1 u i0 n0 f0 i1 n1 f1 i2 n2 m x0 x1 (fun x2 => k (.exit 2) (s241v1 n1 n0 n2 f1 f0 x2 i0 i2))
 | 0,_,_ => rfl
 | m + 1,x0,x1 => by
  rw [r241v1]
  simp only [L241v1,q241v1 m]
def N241v2 : St → Option St := nN 5 (0 :: 1 :: 2 :: 6 :: 7 :: 9 :: (rl 11 19 (rl 31 40 [])))
def s241v2 : St := ⟨(us 3 (.x (.ptr 0 0) :: .x (.ptr 1 0) :: .x (.ptr 2 0) :: .u :: .u :: .x (.c (ro (.pr (.int .i64) .nil) n0 f0)) :: .u :: .x (.ptr 4 0) :: (us 19 (vxi i0 :: (us 40 []))))),[.box [(.c (ro (.pr (.int .i64) .nil) n1 f1))],.box [(.c (ro kP n2 f2))],.box [(vci i1)],.arr (.pr (.int .i64) .nil) n3 f3,.box [(.own 3 0 n3)]]⟩
def s241v3 : St := ⟨(us 3 (.x (.ptr 0 0) :: .x (.ptr 1 0) :: .x (.ptr 2 0) :: .u :: .u :: .x (.c (ro (.pr (.int .i64) .nil) n0 f0)) :: .u :: .x (.ptr 4 0) :: (us 19 (vxi i0 :: (us 40 []))))),[.box [(.c (ro (.pr (.int .i64) .nil) n1 f1))],.box [(.c (ro kP n2 f2))],.box [(vci i1)],.arr (.pr (.int .i64) .nil) n3 f3,.box [(.own 3 0 n3)]]⟩
def L241v2 {ρ : Type} (u : Nat) (x0 : Nat) (x1 : FF) (x2 : Nat) (x3 : FF) (x4 : Nat) (x5 : FF) (x6 : Int) (x7 : Nat) : Nat → Int → FF → (Int → FF → Option ρ) → Option ρ
 | 0,_,_,_ => none
 | m + 1,x8,x9,k0 =>
  (bif (decide (0 < x8)) then (bif (inb (CV.int (x1 (Int.toNat (x8 - 1)) 0)) x7) then (L241v1 u (CV.int (x1 (Int.toNat (x8 - 1)) 0)) x4 x5 (Int.ofNat x4) x2 x3 x6 x7 u 0 (setF x9 (0 + (Int.toNat (CV.int (x1 (Int.toNat (x8 - 1)) 0)))) 0 1 (listF [(.i .i64 x6)]))
  (fun xA => (bif (inb (CV.int (x1 (Int.toNat (x8 - 1)) 0)) x7) then (bif (inb (CV.int (x1 (Int.toNat (x8 - 1)) 0)) x2) then (bif (inb (CV.int (x1 (Int.toNat (x8 - 1)) 0)) x7) then (L241v2 u x0 x1 x2 x3 x4 x5 x6 x7 m (x8 - 1) (setF xA (0 + (Int.toNat (CV.int (x1 (Int.toNat (x8 - 1)) 0)))) 0 1 (listF [(.i .i64 (w64 ((CV.int (xA (0 + (Int.toNat (CV.int (x1 (Int.toNat (x8 - 1)) 0)))) 0)) - (CV.int (x3 (Int.toNat (CV.int (x1 (Int.toNat (x8 - 1)) 0))) 0)))))])) k0) else none) else none) else none))) else none) else (k0 x8 x9))
theorem nl241v2 : ∀ (m : Nat) (x0 : Int) (x1 : FF) (k0 : Int → FF → Option ρ),ob (L241v2 u n0 f0 n1 f1 n2 f2 i0 n3 m x0 x1 k0) ng = L241v2 u n0 f0 n1 f1 n2 f2 i0 n3 m x0 x1 (fun x2 x3 => ob (k0 x2 x3) ng)
 | 0,_,_,_ => rfl
 | m + 1,x0,x1,k0 => by
  simp only [L241v2,ob_bif,ob_ob,ob_none,nl241v2 m,nl241v1]
def s241v4 : St := ⟨(us 3 (.x (.ptr 0 0) :: .x (.ptr 1 0) :: .x (.ptr 2 0) :: .u :: .u :: .x (.c (ro (.pr (.int .i64) .nil) n0 f0)) :: .u :: .x (.ptr 4 0) :: .u :: vxi (CV.int (f0 (Int.toNat (i0 - 1)) 0)) :: (us 17 (vxi (i0 - 1) :: vxi (CV.int (f0 (Int.toNat (i0 - 1)) 0)) :: .x (.own 3 0 n1) :: vxi (CV.int (f0 (Int.toNat (i0 - 1)) 0)) :: vxi i1 :: .x (.aptr 3 (0 + (Int.toNat (CV.int (f0 (Int.toNat (i0 - 1)) 0)))) 0) :: .x (.c (ro kP n2 f1)) :: vxi (Int.ofNat n2) :: vxi 0 :: (us 32 []))))),[.box [(.c (ro (.pr (.int .i64) .nil) n3 f2))],.box [(.c (ro kP n2 f1))],.box [(vci i1)],.arr (.pr (.int .i64) .nil) n1 (setF f3 (0 + (Int.toNat (CV.int (f0 (Int.toNat (i0 - 1)) 0)))) 0 1 (listF [(vi i1)])),.box [(.own 3 0 n1)]]⟩
theorem r241v2 :
  loopH (eB A20v5 (C5 u) u) N241v2 (m + 1) (s241v2 n0 n1 n2 n3 f0 f1 f2 f3 i1 i0) k =
  (bif (decide (0 < i1)) then (bif (inb (CV.int (f0 (Int.toNat (i1 - 1)) 0)) n3) then (loopN (eB A20v3 (C5 u) u) N241v1 u (s241v4 n0 n3 n2 n1 f0 f2 f1 f3 i1 i0) (kBlk 2 (kSeq (C5 u) u (14 :: (rl 36 24 [])) A20v4 (kBlk 1 (kRnd 71 8 30 (.x (.c (ro (.pr (.int .i64) .nil) n0 f0))) (vxi (i1 - 1)) (kLoop (eB A20v5 (C5 u) u) N241v2 m k)))))) else none) else (k (.exit 999999) (s241v3 n0 n1 n2 n3 f0 f1 f2 f3 i1 i0))) := by kernel_rfl
theorem t241v1 :
  loopN (eB A20v3 (C5 u) u) N241v1 u (s241v4 n0 n1 n2 n3 f0 f1 f2 f3 i0 i1) k =
  L241v1 u (CV.int (f0 (Int.toNat (i0 - 1)) 0)) n2 f1 (Int.ofNat n2) n3 f2 i1 n1 u 0 (setF f3 (0 + (Int.toNat (CV.int (f0 (Int.toNat (i0 - 1)) 0)))) 0 1 (listF [(vi i1)])) (fun x0 => k (.exit 2) (s241v1 n3 n2 n1 f2 f1 x0 (CV.int (f0 (Int.toNat (i0 - 1)) 0)) i1)) :=
 Eq.trans (loopN_at (by kernel_rfl)) (q241v1 ..)
theorem g241v2 :
  (kBlk 2 (kSeq (C5 u) u (14 :: (rl 36 24 [])) A20v4 (kBlk 1 (kRnd 71 8 30 (.x (.c (ro (.pr (.int .i64) .nil) n0 f0))) (vxi (i0 - 1)) (kLoop (eB A20v5 (C5 u) u) N241v2 m k))))) (.exit 2) (s241v1 n1 n2 n3 f1 f2 f3 (CV.int (f0 (Int.toNat (i0 - 1)) 0)) i1) =
  (bif (inb (CV.int (f0 (Int.toNat (i0 - 1)) 0)) n3) then (bif (inb (CV.int (f0 (Int.toNat (i0 - 1)) 0)) n1) then (bif (inb (CV.int (f0 (Int.toNat (i0 - 1)) 0)) n3) then (loopH (eB A20v5 (C5 u) u) N241v2 m (s241v2 n0 n1 n2 n3 f0 f1 f2 (setF f3 (0 + (Int.toNat (CV.int (f0 (Int.toNat (i0 - 1)) 0)))) 0 1 (listF [(vi (w64 ((CV.int (f3 (0 + (Int.toNat (CV.int (f0 (Int.toNat (i0 - 1)) 0)))) 0)) - (CV.int (f1 (Int.toNat (CV.int (f0 (Int.toNat (i0 - 1)) 0))) 0)))))])) (i0 - 1) i1) k) else none) else none) else none) := by kernel_rfl
theorem q241v2 : ∀ (m : Nat) (x0 : Int) (x1 : FF),
  loopH (eB A20v5 (C5 u) u) N241v2 m (s241v2 n0 n1 n2 n3 f0 f1 f2 x1 x0 i0) k = L241v2 u n0 f0 n1 f1 n2 f2 i0 n3 m x0 x1 (fun x2 x3 => k (.exit 999999) (s241v3 n0 n1 n2 n3 f0 f1 f2 x3 x2 i0))
 | 0,_,_ => rfl
 | m + 1,x0,x1 => by
  rw [r241v2]
  simp only [L241v2,q241v2 m,t241v1,g241v2]
def FT241 (x0 : Nat) (x1 : FF) (x2 : Nat) (x3 : FF) (x4 : Int) : Option (Bool × Nat × FF × Int) :=
 (ob (F226 u x0 x1 x2 x3 x4) fun x5 => (bif (x5.2.2 != 0) then (some (true,0,(fun _ _ => .any),x5.2.2)) else (bif (decide (0 ≤ (Int.ofNat x0)) && decide ((Int.ofNat x0) ≤ (Int.ofNat x0)) && decide ((Int.ofNat x0) ≤ 1073741824) && true) then (L241v2 u x5.1 x5.2.1 x0 x1 x2 x3 x4 (Int.toNat (Int.ofNat x0)) u (Int.ofNat x5.1) (fun _ j => listF [(.i .i64 0)] j)
  (fun x6 x7 => (some (false,(Int.toNat (Int.ofNat x0)),x7,0)))) else none)))
def s241v5 (x0 : Nat × FF × Int) : St := ⟨(us 3 (.x (.ptr 0 0) :: .x (.ptr 1 0) :: .x (.ptr 2 0) :: .u :: .u :: .x (.c (ro (.pr (.int .i64) .nil) x0.1 x0.2.1)) :: .u :: .x (.ptr 4 0) :: (us 19 (vxi (Int.ofNat x0.1) :: (us 40 []))))),[.box [(.c (ro (.pr (.int .i64) .nil) n0 f0))],.box [(.c (ro kP n1 f1))],.box [(vci i0)],.arr (.pr (.int .i64) .nil) (Int.toNat (Int.ofNat n0)) (fun _ j => listF [(vi 0)] j),.box [(.own 3 0 (Int.toNat (Int.ofNat n0)))]]⟩
theorem t241v3 (x0 : Nat × FF × Int) :
  loopN (eB A20v5 (C5 u) u) N241v2 u (s241v5 n0 n1 f0 f1 i0 x0) k =
  L241v2 u x0.1 x0.2.1 n0 f0 n1 f1 i0 (Int.toNat (Int.ofNat n0)) u (Int.ofNat x0.1) (fun _ j => listF [(vi 0)] j) (fun x1 x2 => k (.exit 999999) (s241v3 x0.1 n0 n1 (Int.toNat (Int.ofNat n0)) x0.2.1 f0 f1 x2 x1 i0)) :=
 Eq.trans (loopN_at (by kernel_rfl)) (q241v2 ..)
theorem g241v4 (x0 : Nat × FF × Int) :
  (kBack 8 30 (kSeq (C5 u) u (12 :: 14 :: 28 :: 29 :: (rl 32 38 [])) A20v6 (finish A20))) (.exit 999999) (s241v3 x0.1 n0 n1 (Int.toNat (Int.ofNat n0)) x0.2.1 f0 f1 f2 i0 i1) =
  (some [.v (ro (.pr (.int .i64) .nil) (Int.toNat (Int.ofNat n0)) f2),.v (vi 0)]) := by kernel_rfl
theorem e241 : evalF (C5 u) u A20 [.v (ro (.pr (.int .i64) .nil) n0 f0),.v (ro kP n1 f1),.v (vi i0)] = ob (FT241 u n0 f0 n1 f1 i0) fun t => some (bif t.1 then [.v (.ro true .nil 0 nilF),.v (vi t.2.2.2)] else [.v (ro (.pr (.int .i64) .nil) t.2.1 t.2.2.1),.v (vi 0)]) := Eq.trans (b := (ob (F226 u n0 f0 n1 f1 i0) fun x0 => (bif (x0.2.2 != 0) then (some [.v (.ro true .nil 0 nilF),.v (vi x0.2.2)]) else (bif (decide (0 ≤ (Int.ofNat n0)) && decide ((Int.ofNat n0) ≤ (Int.ofNat n0)) && decide ((Int.ofNat n0) ≤ 1073741824) && true) then (loopN (eB A20v5 (C5 u) u) N241v2 u (s241v5 n0 n1 f0 f1 i0 x0) (kBack 8 30 (kSeq (C5 u) u (12 :: 14 :: 28 :: 29 :: (rl 32 38 [])) A20v6 (finish A20)))) else none)))) (by kernel_rfl) (by
 simp only [FT241,ob_bif,ob_ob,ob_none,ob_some,nl241v2,t241v3,g241v4,cond_true,cond_false])
def F241 (x0 : Nat) (x1 : FF) (x2 : Nat) (x3 : FF) (x4 : Int) : Option (Nat × FF × Int) := ob (FT241 u x0 x1 x2 x3 x4) fun t => some (bif t.1 then (0,(fun _ _ => .any),t.2.2.2) else (t.2.1,t.2.2.1,0))
def O241 : Ora := mkO (qc (av (cL (.pr (.int .i64) .nil))) (qc (av (cL kP)) (q1 (av ci)))) (fun x => F241 u x.1.1 x.1.2 x.2.1.1 x.2.1.2 x.2.2) fun t => [.v (ro (.pr (.int .i64) .nil) t.1 t.2.1),.v (vi t.2.2)]
theorem d241 : DOB 33 40 (O241 u) (C5 u) 20 A20 := dWB u (fun x => by exact e241 u x.1.1 x.2.1.1 x.1.2 x.2.1.2 x.2.2) (fun _ => rfl) fun t => by
 obtain ⟨b,t⟩ := t
 cases b with
 | true => exact (.cons (WkA.v (Wk.ro (by rfl))) (.cons (WkA.v (Wk.refl _)) .nil))
 | false =>
  exact (.cons (WkA.v (Wk.refl _)) (.cons (WkA.v (Wk.refl _)) .nil))
def C6 : Oracle := (C5 u).add 20 (fun _ => true) (O241 u)
def A22v1 : AC := (.seq (.block 1
 (.seq (.region 7 [mv 23 21,o1 9 (sg 23)] 0 none) []
  (.region 8 [mv 24 8,mv 25 6,mv 26 9,o1 27 (.indexAddr 25 3 1 (tm 25) (tm 26)),o1 28 (lo 3 27),mv 29 0,mv 30 9,o1 31 (.indexAddr 25 3 1 (tm 29) (tm 30)),o1 32 (lo 3 31),o1 33 (bt .add 3 28 32),o1 34 (.mm true [(tm 24),(tm 33)] [3,3]),o1 8 (sg 34)] 0 (some [[],[],[],[1,2],[1,2,3],[],[],[5,6],[5,6,7],(rl 1 8 []),(rl 0 10 []),(rl 0 11 [])])))) []
 (.region 9 [o1 35 (bk .add 3 21 1),mv 21 35] 0 none))
def A22v2 : AC := (.seq (.region 6 [o1 22 (bt .lss 3 21 20)] 0 none) []
 (.seq (.cond (tm 22)
 .skip
 (.exit 0 (rl 0 8 (rl 9 28 [])))) []
 A22v1))
def A22v3 : AC := (.seq (.region 10 [mv 36 8,o1 4 (sg 36),o1 5 (sk 0)] 0 none) []
 (.ret (rl 0 4 (rl 6 31 []))))
def A22v4 : AC := (.seq (.region 4 [o1 8 (sk 0)] 0 none) []
 (.seq (.seq (.region 5 [mv 19 6,o1 20 (.len 25 false (tm 19)),o1 21 (.move (ic 0))] 0 none) []
 (.block 0
 (.loop [] (rl 1 5 (7 :: (rl 9 11 (rl 22 15 []))))
  A22v2))) (9 :: (rl 19 17 []))
 A22v3))
def A22 : AF := ⟨37,[.tmp 4,.tmp 5],
 (.seq (.region 0 [o1 4 (sk 0),o1 5 (sk 0)] 0 none) []
 (.seq (.region 1 [mv 11 0,mv 12 1,o1 13 (cf 18 [11,12] [25,22]),mv 10 13,o1 14 (.extract (tm 10) 0),o1 15 (.extract (tm 10) 1),o1 6 (sg 14),o1 7 (sg 15)] 0 none) []
 (.seq (.seq (.region 2 [mv 16 7,o1 17 (bk .neq 26 16 0)] 0 none) []
 (.cond (tm 17)
 (.seq (.region 3 [mv 18 7,o1 4 (sk 0),o1 5 (sg 18)] 0 none) []
  (.ret (rl 0 4 (rl 6 31 []))))
 .skip)) [4,5,16,17,18]
 A22v4)))⟩
def N236v1 : St → Option St := nN 0 (rl 1 5 (7 :: (rl 9 11 (rl 22 15 []))))
def s236v0 : St := ⟨(.x (.c (ro (.pr (.int .i64) .nil) n0 f0)) :: (us 5 (.x (.c (ro (.pr (.int .i64) .nil) n1 f1)) :: .u :: vxi i0 :: (us 11 (vxi i1 :: vxi i2 :: (us 15 [])))))),[]⟩
def s236v1 : St := ⟨(us 8 (vxi i0 :: (us 28 []))),[]⟩
def L236v1 {ρ : Type} (u : Nat) (x0 : Nat) (x1 : FF) (x2 : Nat) (x3 : FF) (x4 : Int) : Nat → Int → Int → (Int → Option ρ) → Option ρ
 | 0,_,_,_ => none
 | m + 1,x5,x6,k0 =>
  (bif (decide (x6 < x4)) then (bif (inb x6 x2) then (bif (inb x6 x0) then (L236v1 u x0 x1 x2 x3 x4 m (if (w64 ((x3 x6.toNat 0).int + (x1 x6.toNat 0).int)) > x5 then (w64 ((x3 x6.toNat 0).int + (x1 x6.toNat 0).int)) else x5) (w64 (x6 + 1)) k0) else none) else none) else (k0 x5))
theorem nl236v1 : ∀ (m : Nat) (x0 x1 : Int) (k0 : Int → Option ρ),ob (L236v1 u n0 f0 n1 f1 i0 m x0 x1 k0) ng = L236v1 u n0 f0 n1 f1 i0 m x0 x1 (fun x2 => ob (k0 x2) ng)
 | 0,_,_,_ => rfl
 | m + 1,x0,x1,k0 => by
  simp only [L236v1,ob_bif,ob_ob,ob_none,nl236v1 m]
theorem r236v1 :
  loopH (eB A22v2 (C6 u) u) N236v1 (m + 1) (s236v0 n0 n1 f0 f1 i1 i0 i2) k =
  (bif (decide (i2 < i0)) then (bif (inb i2 n1) then (bif (inb i2 n0) then (loopH (eB A22v2 (C6 u) u) N236v1 m (s236v0 n0 n1 f0 f1 (if (w64 ((f1 i2.toNat 0).int + (f0 i2.toNat 0).int)) > i1 then (w64 ((f1 i2.toNat 0).int + (f0 i2.toNat 0).int)) else i1) i0 (w64 (i2 + 1))) k) else none) else none) else (k (.exit 0) (s236v1 i1))) := by kernel_rfl
theorem q236v1 : ∀ (m : Nat) (x0 x1 : Int),
  loopH (eB A22v2 (C6 u) u) N236v1 m (s236v0 n0 n1 f0 f1 x0 i0 x1) k = L236v1 u n0 f0 n1 f1 i0 m x0 x1 (fun x2 => k (.exit 0) (s236v1 x2))
 | 0,_,_ => rfl
 | m + 1,x0,x1 => by
  rw [r236v1]
  simp only [L236v1,q236v1 m]
def F236 (x0 : Nat) (x1 : FF) (x2 : Nat) (x3 : FF) : Option (Int × Int) :=
 (ob (F227 u x0 x1 x2 x3) fun x4 => (bif (x4.2.2 != 0) then (some (0,x4.2.2)) else (L236v1 u x0 x1 x4.1 x4.2.1 (Int.ofNat x4.1) u 0 0
  (fun x5 => (some (x5,0))))))
def s236v2 (x0 : Nat × FF × Int) : St := ⟨(.x (.c (ro (.pr (.int .i64) .nil) n0 f0)) :: .x (.c (ro kP n1 f1)) :: uu :: uu :: .u :: .u :: .x (.c (ro (.pr (.int .i64) .nil) x0.1 x0.2.1)) :: vxi x0.2.2 :: vxi 0 :: uu :: .tup [.v (ro (.pr (.int .i64) .nil) x0.1 x0.2.1),.v (vi x0.2.2)] :: .x (.c (ro (.pr (.int .i64) .nil) n0 f0)) :: .x (.c (ro kP n1 f1)) :: .tup [.v (ro (.pr (.int .i64) .nil) x0.1 x0.2.1),.v (vi x0.2.2)] :: .x (.c (ro (.pr (.int .i64) .nil) x0.1 x0.2.1)) :: vxi x0.2.2 :: (us 3 [.x (.c (ro (.pr (.int .i64) .nil) x0.1 x0.2.1)),vxi (Int.ofNat x0.1),vxi 0,uu,uu,uu,uu,uu,uu,uu,uu,uu,uu,uu,uu,uu,uu,uu])),[]⟩
theorem t236v1 (x0 : Nat × FF × Int) :
  loopN (eB A22v2 (C6 u) u) N236v1 u (s236v2 n0 n1 f0 f1 x0) k =
  L236v1 u n0 f0 x0.1 x0.2.1 (Int.ofNat x0.1) u 0 0 (fun x1 => k (.exit 0) (s236v1 x1)) :=
 Eq.trans (loopN_at (by kernel_rfl)) (q236v1 ..)
theorem g236v2 :
  (kBlk 0 (kSeq (C6 u) u (9 :: (rl 19 17 [])) A22v3 (finish A22))) (.exit 0) (s236v1 i0) =
  (some [.v (vi i0),.v (vi 0)]) := by kernel_rfl
theorem e236 : evalF (C6 u) u A22 [.v (ro (.pr (.int .i64) .nil) n0 f0),.v (ro kP n1 f1)] = ob (F236 u n0 f0 n1 f1) fun t => some [.v (vi t.1),.v (vi t.2)] := Eq.trans (b := (ob (F227 u n0 f0 n1 f1) fun x0 => (bif (x0.2.2 != 0) then (some [.v (vi 0),.v (vi x0.2.2)]) else (loopN (eB A22v2 (C6 u) u) N236v1 u (s236v2 n0 n1 f0 f1 x0) (kBlk 0 (kSeq (C6 u) u (9 :: (rl 19 17 [])) A22v3 (finish A22))))))) (by kernel_rfl) (by
 simp only [F236,ob_bif,ob_ob,ob_none,ob_some,nl236v1,t236v1,g236v2])
def O236 : Ora := mkO (qc (av (cL (.pr (.int .i64) .nil))) (q1 (av (cL kP)))) (fun x => F236 u x.1.1 x.1.2 x.2.1 x.2.2) fun t => [.v (vi t.1),.v (vi t.2)]
theorem d236 : DO (O236 u) (C6 u) 22 A22 := dO u (fun x => by exact e236 u x.1.1 x.2.1 x.1.2 x.2.2)
def C7 : Oracle := (C6 u).add 22 (fun _ => true) (O236 u)
def A43 : AF := ⟨6,[.tmp 2],
 (.seq (.region 0 [o1 2 (sb false)] 0 none) []
 (.seq (.region 1 [mv 3 0,mv 4 0,o1 5 (bt .neq 3 3 4),o1 2 (sg 5)] 0 none) []
 (.ret [0,1,3,4,5])))⟩
def F90 (u : Nat) (x0 : Int) : Option (Bool) :=
 (some (x0 != x0))
theorem e90 : evalF (C7 u) u A43 [.v (vi i0)] = ob (F90 u i0) fun t => some [.v (.b t)] := Eq.trans (b := (some [.v (.b (i0 != i0))])) (by kernel_rfl) (by
 simp only [F90,ob_bif,ob_ob,ob_none,ob_some])
def O90 : Ora := mkO (q1 (av ci)) (fun x => F90 u x) fun t => [.v (.b t)]
theorem d90 : DO (O90 u) (C7 u) 43 A43 := dO u (fun x => by exact e90 u x)
def C8 : Oracle := (C7 u).add 43 (fun _ => true) (O90 u)
def A38v1 : AC := (.seq (.region 6 [o1 4 (sk (-1))] 0 none) []
 (.ret (rl 0 4 (rl 5 15 []))))
def A38v2 : AC := (.seq (.region 13 [o1 4 (sk 0)] 0 none) []
 (.ret (rl 0 4 (rl 5 15 []))))
def A38v3 : AC := (.seq (.seq (.region 11 [mv 17 0,mv 18 1,o1 19 (bt .gtr 3 17 18)] 0 none) []
 (.cond (tm 19)
 (.seq (.region 12 [o1 4 (sk 1)] 0 none) []
  (.ret (rl 0 4 (rl 5 15 []))))
 .skip)) [4,17,18,19]
 A38v2)
def A38v4 : AC := (.seq (.seq (.region 9 [mv 14 0,mv 15 1,o1 16 (bt .lss 3 14 15)] 0 none) []
 (.cond (tm 16)
 (.seq (.region 10 [o1 4 (sk (-1))] 0 none) []
  (.ret (rl 0 4 (rl 5 15 []))))
 .skip)) [4,14,15,16]
 A38v3)
def A38v5 : AC := (.seq (.seq (.region 7 [mv 13 6] 0 none) []
 (.cond (tm 13)
 (.seq (.region 8 [o1 4 (sk 1)] 0 none) []
  (.ret (rl 0 4 (rl 5 15 []))))
 .skip)) [4,13]
 A38v4)
def A38 : AF := ⟨20,[.tmp 4],
 (.seq (.region 0 [o1 4 (sk 0)] 0 none) []
 (.seq (.region 1 [mv 7 0,o1 8 (cs 43 [7] [3]),o1 5 (sg 8)] 0 none) []
 (.seq (.region 2 [mv 9 1,o1 10 (cs 43 [9] [3]),o1 6 (sg 10)] 0 none) []
 (.seq (.seq (.region 3 [mv 11 5] 0 none) []
 (.cond (tm 11)
 (.seq (.seq (.region 4 [mv 12 6] 0 none) []
  (.cond (tm 12)
  (.seq (.region 5 [o1 4 (sk 0)] 0 none) []
   (.ret (rl 0 4 (rl 5 15 []))))
  .skip)) [4,12]
  A38v1)
 .skip)) [4,11,12]
 A38v5))))⟩
def F89 (x0 x1 : Int) : Option (Int) :=
 (ob (F90 u x0) fun x2 => (ob (F90 u x1) fun x3 => (bif x2 then (bif x3 then (some 0) else (some (-1))) else (bif x3 then (some 1) else (bif (decide (x0 < x1)) then (some (-1)) else (bif (decide (x0 > x1)) then (some 1) else (some 0)))))))
theorem e89 : evalF (C8 u) u A38 [.v (vi i0),.v (vi i1)] = ob (F89 u i0 i1) fun t => some [.v (vi t)] := Eq.trans (b := (ob (F90 u i0) fun x0 => (ob (F90 u i1) fun x1 => (bif x0 then (bif x1 then (some [.v (vi 0)]) else (some [.v (vi (-1))])) else (bif x1 then (some [.v (vi 1)]) else (bif (decide (i0 < i1)) then (some [.v (vi (-1))]) else (bif (decide (i0 > i1)) then (some [.v (vi 1)]) else (some [.v (vi 0)])))))))) (by kernel_rfl) (by
 simp only [F89,ob_bif,ob_ob,ob_none,ob_some])
def O89 : Ora := mkO (qc (av ci) (q1 (av ci))) (fun x => F89 u x.1 x.2) fun t => [.v (vi t)]
theorem d89 : DO (O89 u) (C8 u) 38 A38 := dO u (fun x => by exact e89 u x.1 x.2)
def C9 : Oracle := (C8 u).add 38 (fun _ => true) (O89 u)
def A37v1 : AC := (.region 7 [o1 16 (bk .add 3 8 1),mv 8 16] 0 none)
def A37v2 : AC := (.seq (.block 1
 (.seq (.region 4 [o1 10 (.indexAddr 25 3 1 (tm 6) (tm 8)),o1 11 (lo 3 10),o1 5 (sg 11)] 0 none) []
  (.seq (.region 5 [mv 12 5,mv 13 3,o1 14 (bt .neq 3 12 13)] 0 none) []
  (.cond (tm 14)
  (.seq (.region 6 [mv 15 5,o1 2 (sg 15)] 0 none) []
   (.ret (0 :: 1 :: (rl 3 15 []))))
  .skip)))) (2 :: 5 :: (rl 10 6 []))
 A37v1)
def A37v3 : AC := (.seq (.region 3 [o1 9 (bt .lss 3 8 7)] 0 none) []
 (.seq (.cond (tm 9)
 .skip
 (.exit 0 (0 :: 1 :: 2 :: (rl 4 14 [])))) []
 A37v2))
def A37v4 : AC := (.seq (.region 8 [mv 17 3,o1 2 (sg 17)] 0 none) []
 (.ret (0 :: 1 :: (rl 3 15 []))))
def A37 : AF := ⟨18,[.tmp 2],
 (.seq (.region 0 [o1 2 (sk 0)] 0 none) []
 (.seq (.region 1 [o1 3 (sk 0)] 0 none) []
 (.seq (.seq (.region 2 [mv 6 0,o1 7 (.len 25 false (tm 6)),o1 8 (.move (ic 0))] 0 none) []
 (.block 0
 (.loop [] (0 :: 1 :: 2 :: 4 :: 5 :: (rl 9 9 []))
  A37v3))) (2 :: (rl 5 12 []))
 A37v4)))⟩
def N201v1 : St → Option St := nN 0 (0 :: 1 :: 2 :: 4 :: 5 :: (rl 9 9 []))
def s201v0 : St := ⟨(us 3 (vxi 0 :: .u :: .u :: .x (.c (ro (.pr (.int .i64) .nil) n0 f0)) :: vxi i0 :: vxi i1 :: (us 9 []))),[]⟩
def s201v1 : St := ⟨(.u :: .u :: vxi i0 :: (us 15 [])),[]⟩
def s201v2 : St := ⟨(us 3 (vxi 0 :: (us 14 []))),[]⟩
def L201v1 {ρ : Type} (u : Nat) (x0 : Nat) (x1 : FF) (x2 : Int) : Nat → Int → (Int → Option ρ) → (Option ρ) → Option ρ
 | 0,_,_,_ => none
 | m + 1,x3,k0,k1 =>
  (bif (decide (x3 < x2)) then (bif (inb x3 x0) then (bif ((x1 x3.toNat 0).int != 0) then (k0 (x1 x3.toNat 0).int) else (L201v1 u x0 x1 x2 m (w64 (x3 + 1)) k0 k1)) else none) else k1)
theorem nl201v1 : ∀ (m : Nat) (x0 : Int) (k0 : Int → Option ρ) (k1 : Option ρ),ob (L201v1 u n0 f0 i0 m x0 k0 k1) ng = L201v1 u n0 f0 i0 m x0 (fun x1 => ob (k0 x1) ng) (ob k1 ng)
 | 0,_,_,_ => rfl
 | m + 1,x0,k0,k1 => by
  simp only [L201v1,ob_bif,ob_ob,ob_none,nl201v1 m]
theorem r201v1 :
  loopH (eB A37v3 (C9 u) u) N201v1 (m + 1) (s201v0 n0 f0 i0 i1) k =
  (bif (decide (i1 < i0)) then (bif (inb i1 n0) then (bif ((f0 i1.toNat 0).int != 0) then (k .ret (s201v1 (f0 i1.toNat 0).int)) else (loopH (eB A37v3 (C9 u) u) N201v1 m (s201v0 n0 f0 i0 (w64 (i1 + 1))) k)) else none) else (k (.exit 0) s201v2)) := by kernel_rfl
theorem q201v1 : ∀ (m : Nat) (x0 : Int),
  loopH (eB A37v3 (C9 u) u) N201v1 m (s201v0 n0 f0 i0 x0) k = L201v1 u n0 f0 i0 m x0 (fun x1 => k .ret (s201v1 x1)) (k (.exit 0) s201v2)
 | 0,_ => rfl
 | m + 1,x0 => by
  rw [r201v1]
  simp only [L201v1,q201v1 m]
def F201 (x0 : Nat) (x1 : FF) : Option (Int) :=
 (L201v1 u x0 x1 (Int.ofNat x0) u 0
  (fun x2 => (some x2))
  (some 0))
def s201v3 : St := ⟨[.x (.c (ro (.pr (.int .i64) .nil) n0 f0)),uu,vxi 0,vxi 0,uu,uu,.x (.c (ro (.pr (.int .i64) .nil) n0 f0)),vxi (Int.ofNat n0),vxi 0,uu,uu,uu,uu,uu,uu,uu,uu,uu],[]⟩
theorem t201v1 :
  loopN (eB A37v3 (C9 u) u) N201v1 u (s201v3 n0 f0) k =
  L201v1 u n0 f0 (Int.ofNat n0) u 0 (fun x0 => k .ret (s201v1 x0)) (k (.exit 0) s201v2) :=
 Eq.trans (loopN_at (by kernel_rfl)) (q201v1 ..)
theorem g201v2 :
  (kBlk 0 (kSeq (C9 u) u (2 :: (rl 5 12 [])) A37v4 (finish A37))) .ret (s201v1 i0) =
  (some [.v (vi i0)]) := by kernel_rfl
theorem g201v3 :
  (kBlk 0 (kSeq (C9 u) u (2 :: (rl 5 12 [])) A37v4 (finish A37))) (.exit 0) s201v2 =
  (some [.v (vi 0)]) := by kernel_rfl
theorem e201 : evalF (C9 u) u A37 [.v (ro (.pr (.int .i64) .nil) n0 f0)] = ob (F201 u n0 f0) fun t => some [.v (vi t)] := Eq.trans (b := (loopN (eB A37v3 (C9 u) u) N201v1 u (s201v3 n0 f0) (kBlk 0 (kSeq (C9 u) u (2 :: (rl 5 12 [])) A37v4 (finish A37))))) (by kernel_rfl) (by
 simp only [F201,ob_bif,ob_ob,ob_none,ob_some,nl201v1,t201v1,g201v2,g201v3])
def O201 : Ora := mkO (q1 (av (cL (.pr (.int .i64) .nil)))) (fun x => F201 u x.1 x.2) fun t => [.v (vi t)]
theorem d201 : DO (O201 u) (C9 u) 37 A37 := dO u (fun x => by exact e201 u x.1 x.2)
def C10 : Oracle := (C9 u).add 37 (fun _ => true) (O201 u)
def A36 : AF := ⟨17,[.tmp 4],
 (.seq (.region 0 [o1 2 (bx 0 31 0),o1 3 (bx 1 31 1),o1 4 (sk 0)] 2 none) []
 (.seq (.region 1 [o1 5 (.indexAddrA 31 3 2 1 (tm 2) (ic 0)),o1 6 (lo 3 5),o1 7 (.indexAddrA 31 3 2 1 (tm 3) (ic 0)),o1 8 (lo 3 7),o1 9 (cs 38 [6,8] [3,3]),o1 10 (.indexAddrA 31 3 2 1 (tm 2) (ic 1)),o1 11 (lo 3 10),o1 12 (.indexAddrA 31 3 2 1 (tm 3) (ic 1)),o1 13 (lo 3 12),o1 14 (cs 38 [11,13] [3,3]),o1 15 (.buildSlice 0 25 3 (.pr (.int .i64) .nil) 2 [vci 0] [(0,(tm 9)),(1,(tm 14))]),o1 16 (cs 37 [15] [25]),o1 4 (sg 16)] 1 (some [[],[0],[],[2],(rl 0 4 []),[],[5],[],[7],(rl 0 9 []),(rl 0 10 []),(rl 0 11 []),(rl 0 12 [])])) []
 (.ret (rl 0 4 (rl 5 12 [])))))⟩
def F238 (x0 x1 x2 x3 : Int) : Option (Int) :=
 (ob (F89 u x0 x2) fun x4 => (ob (F89 u x1 x3) fun x5 => (ob (F201 u 2 (rowsF 1 [(.i .i64 x4),(.i .i64 x5)])) fun x6 => (some x6))))
theorem e238 : evalF (C10 u) u A36 [.agg [(vi i0),(vi i1)],.agg [(vi i2),(vi i3)]] = ob (F238 u i0 i1 i2 i3) fun t => some [.v (vi t)] := Eq.trans (b := (ob (F89 u i0 i2) fun x0 => (ob (F89 u i1 i3) fun x1 => (ob (F201 u 2 (rowsF 1 [(vi x0),(vi x1)])) fun x2 => (some [.v (vi x2)]))))) (by kernel_rfl) (by
 simp only [F238,ob_bif,ob_ob,ob_none,ob_some])
def O238 : Ora := mkO (qc (ag (tc ci (t1 ci))) (q1 (ag (tc ci (t1 ci))))) (fun x => F238 u x.1.1 x.1.2 x.2.1 x.2.2) fun t => [.v (vi t)]
theorem d238 : DO (O238 u) (C10 u) 36 A36 := dO u (fun x => by exact e238 u x.1.1 x.1.2 x.2.1 x.2.2)
def C11 : Oracle := (C10 u).add 36 (fun _ => true) (O238 u)
def F239 (u : Nat) (n : Nat) (g : FF) : Option FF := sortT n g
def C12 : Oracle := (C11 u).addT 35 (fun r n g rest => bif r.beq kP && isClo 36 rest then F239 u n g else none)
def A29v1 : AC := (.region 12 [o1 57 (bk .add 3 32 1),mv 32 57] 0 none)
def A29v2 : AC := (.seq (.block 3
 (.seq (.region 8 [o1 34 (.indexAddr 22 31 2 (tm 30) (tm 32)),o1 35 (ln 31 2 34),o1 11 (.alloc 0 31 [vci 0,vci 0]),o0 (.store 31 2 (tm 11) (tm 35))] 1 none) []
  (.seq (.region 9 [o1 36 (.indexAddrA 31 3 2 1 (tm 11) (ic 0)),o1 37 (lo 3 36),mv 38 9,o1 39 (bt .eql 3 37 38),mv 40 39,og 41 (.move (tm 7)) 40 true,og 42 (.indexAddrA 31 3 2 1 (tm 11) (ic 1)) 40 true,og 43 (lo 3 42) 40 true,og 44 (.indexAddr 42 4 1 (tm 41) (tm 43)) 40 true,og 45 (lo 4 44) 40 true,og 46 (.unOp .not 4 (tm 45)) 40 true,o1 47 (po 40 46)] 0 none) []
  (.cond (tm 47)
  (.seq (.region 10 [mv 48 7,o1 49 (.indexAddrA 31 3 2 1 (tm 11) (ic 1)),o1 50 (lo 3 49),o1 51 (.indexAddr 42 4 1 (tm 48) (tm 50)),o0 (.store 4 1 (tm 51) (.const (.bool true)))] 0 none) []
   (.region 11 [mv 52 8,o1 53 (.indexAddrA 31 3 2 1 (tm 11) (ic 1)),o1 54 (lo 3 53),o1 55 (.buildSlice 0 25 3 (.pr (.int .i64) .nil) 1 [vci 0] [(0,(tm 54))]),o1 56 (.append 1 25 3 (.pr (.int .i64) .nil) 8 (tm 52) (tm 55)),o1 8 (sg 56)] 2 none))
  .skip)))) (11 :: (rl 34 23 []))
 A29v1)
def A29v3 : AC := (.seq (.region 7 [o1 33 (bt .lss 3 32 31)] 0 none) []
 (.seq (.cond (tm 33)
 .skip
 (.exit 2 (0 :: (rl 2 5 (rl 9 50 []))))) []
 A29v2))
def A29v4 : AC := (.block 1
 (.seq (.region 4 [mv 19 8,mv 20 8,o1 21 (.len 25 false (tm 20)),o1 22 (bk .sub 3 21 1),o1 23 (.indexAddr 25 3 1 (tm 19) (tm 22)),o1 24 (lo 3 23),o1 9 (sg 24)] 0 none) []
  (.seq (.region 5 [mv 25 8,mv 26 8,o1 27 (.len 25 false (tm 26)),o1 28 (bk .sub 3 27 1),o1 29 (.slice 25 3 1 (tm 25) none (some (tm 28)) none),o1 8 (sg 29)] 0 none) []
  (.seq (.region 6 [mv 30 1,o1 31 (.len 22 false (tm 30)),o1 32 (.move (ic 0))] 0 none) []
  (.block 2
  (.loop [.slot 8 (.pr (.int .i64) .nil)] (0 :: (rl 2 5 (rl 10 20 (rl 33 26 []))))
   A29v3))))))
def A29v5 : AC := (.seq (.seq (.region 3 [mv 16 8,o1 17 (.len 25 false (tm 16)),o1 18 (bk .gtr 3 17 0)] 0 none) []
 (.cond (tm 18)
 .skip
 (.exit 0 (rl 0 7 (rl 8 51 []))))) [16,17,18]
 A29v4)
def A29v6 : AC := (.seq (.region 13 [mv 58 7,o1 6 (sg 58)] 0 none) []
 (.ret (rl 0 6 (rl 7 52 []))))
def A29 : AF := ⟨59,[.tmp 6],
 (.seq (.region 0 [o1 6 (.assign (.const (.slice none 0 0)))] 0 none) []
 (.seq (.region 1 [mv 12 0,o1 13 (.makeSlice 0 42 4 (.pr .bool .nil) 1 [(.b false)] (tm 12) (tm 12)),o1 7 (sg 13)] 1 none) []
 (.seq (.region 2 [mv 14 2,o1 15 (.buildSlice 0 25 3 (.pr (.int .i64) .nil) 1 [vci 0] [(0,(tm 14))]),o1 8 (sg 15)] 1 none) []
 (.seq (.block 0
 (.loop [.slot 8 (.pr (.int .i64) .nil)] (0 :: (rl 2 5 (rl 9 50 [])))
  A29v5)) (8 :: 9 :: 11 :: (rl 16 42 []))
 A29v6))))⟩
def N231v2 : St → Option St := nN 2 (0 :: (rl 2 5 (rl 10 20 (rl 33 26 []))))
def s231v0 : St := ⟨(.u :: .x (.c (ro kP n0 f0)) :: (us 5 (.x (.own 0 0 n1) :: .x (.own 1 0 n2) :: vxi i0 :: (us 20 (.x (.c (ro kP n0 f0)) :: vxi i1 :: vxi i2 :: (us 26 [])))))),[.arr (.pr .bool .nil) n1 f1,.arr (.pr (.int .i64) .nil) n3 f2]⟩
def s231v1 : St := ⟨(.u :: .x (.c (ro kP n0 f0)) :: (us 5 (.x (.own 0 0 n1) :: .x (.own 1 0 n2) :: (us 50 [])))),[.arr (.pr .bool .nil) n1 f1,.arr (.pr (.int .i64) .nil) n3 f2]⟩
def L231v2 {ρ : Type} (u : Nat) (x0 : Nat) (x1 : FF) (x2 : Nat) (x3 x4 : Int) : Nat → Nat → Int → FF → Nat → FF → (Nat → FF → Nat → FF → Option ρ) → Option ρ
 | 0,_,_,_,_,_,_ => none
 | m + 1,x5,x6,x7,x8,x9,k0 =>
  (bif (decide (x6 < x4)) then (bif (inb x6 x0) then (bif (((x1 x6.toNat 0).int == x3) == true) then (bif (inb (x1 x6.toNat 1).int x2) then (bif (!(CV.bool (x7 (0 + (Int.toNat (x1 x6.toNat 1).int)) 0))) then (bif (inb (x1 x6.toNat 1).int x2) then (bif (Nat.ble (x5 + 1) 1073741824) then (L231v2 u x0 x1 x2 x3 x4 m (x5 + 1) (w64 (x6 + 1)) (setF x7 (0 + (Int.toNat (x1 x6.toNat 1).int)) 0 1 (listF [(.b true)])) (x5 + 1) (joinF x5 x9 (rowsF 1 [(.i .i64 (x1 x6.toNat 1).int)])) k0) else none) else none) else (L231v2 u x0 x1 x2 x3 x4 m x5 (w64 (x6 + 1)) x7 x8 x9 k0)) else none) else (L231v2 u x0 x1 x2 x3 x4 m x5 (w64 (x6 + 1)) x7 x8 x9 k0)) else none) else (k0 x5 x7 x8 x9))
theorem nl231v2 : ∀ (m : Nat) (x0 : Nat) (x1 : Int) (x2 : FF) (x3 : Nat) (x4 : FF) (k0 : Nat → FF → Nat → FF → Option ρ),ob (L231v2 u n0 f0 n1 i0 i1 m x0 x1 x2 x3 x4 k0) ng = L231v2 u n0 f0 n1 i0 i1 m x0 x1 x2 x3 x4 (fun x5 x6 x7 x8 => ob (k0 x5 x6 x7 x8) ng)
 | 0,_,_,_,_,_,_ => rfl
 | m + 1,x0,x1,x2,x3,x4,k0 => by
  simp only [L231v2,ob_bif,ob_ob,ob_none,nl231v2 m]
theorem r231v2 :
  loopH (eB A29v3 (C12 u) u) N231v2 (m + 1) (s231v0 n0 n1 n2 n3 f0 f1 f2 i0 i1 i2) k =
  (bif (decide (i2 < i1)) then (bif (inb i2 n0) then (bif (((f0 i2.toNat 0).int == i0) == true) then (bif (inb (f0 i2.toNat 1).int n1) then (bif (!(CV.bool (f1 (0 + (Int.toNat (f0 i2.toNat 1).int)) 0))) then (bif (inb (f0 i2.toNat 1).int n1) then (bif (Nat.ble (n2 + 1) 1073741824) then (loopH (eB A29v3 (C12 u) u) N231v2 m (s231v0 n0 n1 (n2 + 1) (n2 + 1) f0 (setF f1 (0 + (Int.toNat (f0 i2.toNat 1).int)) 0 1 (listF [(.b true)])) (joinF n2 f2 (rowsF 1 [(vi (f0 i2.toNat 1).int)])) i0 i1 (w64 (i2 + 1))) k) else none) else none) else (loopH (eB A29v3 (C12 u) u) N231v2 m (s231v0 n0 n1 n2 n3 f0 f1 f2 i0 i1 (w64 (i2 + 1))) k)) else none) else (loopH (eB A29v3 (C12 u) u) N231v2 m (s231v0 n0 n1 n2 n3 f0 f1 f2 i0 i1 (w64 (i2 + 1))) k)) else none) else (k (.exit 2) (s231v1 n0 n1 n2 n3 f0 f1 f2))) := by kernel_rfl
theorem q231v2 : ∀ (m : Nat) (x0 : Nat) (x1 : Int) (x2 : FF) (x3 : Nat) (x4 : FF),
  loopH (eB A29v3 (C12 u) u) N231v2 m (s231v0 n0 n1 x0 x3 f0 x2 x4 i0 i1 x1) k = L231v2 u n0 f0 n1 i0 i1 m x0 x1 x2 x3 x4 (fun x5 x6 x7 x8 => k (.exit 2) (s231v1 n0 n1 x5 x7 f0 x6 x8))
 | 0,_,_,_,_,_ => rfl
 | m + 1,x0,x1,x2,x3,x4 => by
  rw [r231v2]
  simp only [L231v2,q231v2 m]
def N231v3 : St → Option St := nN 2 (0 :: (rl 2 5 (rl 9 50 [])))
def s231v2 : St := ⟨(.u :: .x (.c (ro kP n0 f0)) :: (us 5 (.x (.own 0 0 n1) :: .x (.own 1 0 n2) :: (us 50 [])))),[.arr (.pr .bool .nil) n1 f1,.arr (.pr (.int .i64) .nil) n3 f2]⟩
def s231v3 : St := ⟨(us 7 (.x (.own 0 0 n0) :: (us 51 []))),[.arr (.pr .bool .nil) n0 f0,.arr (.pr (.int .i64) .nil) n1 f1]⟩
def L231v3 {ρ : Type} (u : Nat) (x0 : Nat) (x1 : FF) (x2 : Nat) : Nat → Nat → FF → Nat → FF → (FF → Nat → FF → Option ρ) → Option ρ
 | 0,_,_,_,_,_ => none
 | m + 1,x3,x4,x5,x6,k0 =>
  (bif (decide ((Int.ofNat x3) > 0)) then (bif (inb (w64 ((Int.ofNat x3) - 1)) x3) then (bif (inbe (w64 ((Int.ofNat x3) - 1)) x3) then (L231v2 u x0 x1 x2 (CV.int (x6 (0 + (Int.toNat (w64 ((Int.ofNat x3) - 1)))) 0)) (Int.ofNat x0) u ((Int.toNat (w64 ((Int.ofNat x3) - 1))) - 0) 0 x4 x5 x6
  (fun x7 x8 x9 xA => (L231v3 u x0 x1 x2 m x7 x8 x9 xA k0))) else none) else none) else (k0 x4 x5 x6))
theorem nl231v3 : ∀ (m : Nat) (x0 : Nat) (x1 : FF) (x2 : Nat) (x3 : FF) (k0 : FF → Nat → FF → Option ρ),ob (L231v3 u n0 f0 n1 m x0 x1 x2 x3 k0) ng = L231v3 u n0 f0 n1 m x0 x1 x2 x3 (fun x4 x5 x6 => ob (k0 x4 x5 x6) ng)
 | 0,_,_,_,_,_ => rfl
 | m + 1,x0,x1,x2,x3,k0 => by
  simp only [L231v3,ob_bif,ob_ob,ob_none,nl231v3 m,nl231v2]
def s231v4 : St := ⟨(.u :: .x (.c (ro kP n0 f0)) :: (us 5 (.x (.own 0 0 n1) :: .x (.own 1 0 ((Int.toNat (w64 ((Int.ofNat n2) - 1))) - 0)) :: vxi (CV.int (f1 (0 + (Int.toNat (w64 ((Int.ofNat n2) - 1)))) 0)) :: (us 9 (.x (.own 1 0 n2) :: .x (.own 1 0 n2) :: vxi (Int.ofNat n2) :: vxi (w64 ((Int.ofNat n2) - 1)) :: .x (.aptr 1 (0 + (Int.toNat (w64 ((Int.ofNat n2) - 1)))) 0) :: vxi (CV.int (f1 (0 + (Int.toNat (w64 ((Int.ofNat n2) - 1)))) 0)) :: .x (.own 1 0 n2) :: .x (.own 1 0 n2) :: vxi (Int.ofNat n2) :: vxi (w64 ((Int.ofNat n2) - 1)) :: .x (.own 1 0 ((Int.toNat (w64 ((Int.ofNat n2) - 1))) - 0)) :: .x (.c (ro kP n0 f0)) :: vxi (Int.ofNat n0) :: vxi 0 :: (us 26 [])))))),[.arr (.pr .bool .nil) n1 f2,.arr (.pr (.int .i64) .nil) n3 f1]⟩
theorem r231v3 :
  loopH (eB A29v5 (C12 u) u) N231v3 (m + 1) (s231v2 n0 n1 n2 n3 f0 f1 f2) k =
  (bif (decide ((Int.ofNat n2) > 0)) then (bif (inb (w64 ((Int.ofNat n2) - 1)) n2) then (bif (inbe (w64 ((Int.ofNat n2) - 1)) n2) then (loopN (eB A29v3 (C12 u) u) N231v2 u (s231v4 n0 n1 n2 n3 f0 f2 f1) (kBlk 2 (kBlk 1 (kLoop (eB A29v5 (C12 u) u) N231v3 m k)))) else none) else none) else (k (.exit 0) (s231v3 n1 n3 f1 f2))) := by kernel_rfl
theorem t231v1 :
  loopN (eB A29v3 (C12 u) u) N231v2 u (s231v4 n0 n1 n2 n3 f0 f1 f2) k =
  L231v2 u n0 f0 n1 (CV.int (f1 (0 + (Int.toNat (w64 ((Int.ofNat n2) - 1)))) 0)) (Int.ofNat n0) u ((Int.toNat (w64 ((Int.ofNat n2) - 1))) - 0) 0 f2 n3 f1 (fun x0 x1 x2 x3 => k (.exit 2) (s231v1 n0 n1 x0 x2 f0 x1 x3)) :=
 Eq.trans (loopN_at (by kernel_rfl)) (q231v2 ..)
theorem g231v2 :
  (kBlk 2 (kBlk 1 (kLoop (eB A29v5 (C12 u) u) N231v3 m k))) (.exit 2) (s231v1 n0 n1 n2 n3 f0 f1 f2) =
  (loopH (eB A29v5 (C12 u) u) N231v3 m (s231v2 n0 n1 n2 n3 f0 f1 f2) k) := by kernel_rfl
theorem q231v3 : ∀ (m : Nat) (x0 : Nat) (x1 : FF) (x2 : Nat) (x3 : FF),
  loopH (eB A29v5 (C12 u) u) N231v3 m (s231v2 n0 n1 x0 x2 f0 x1 x3) k = L231v3 u n0 f0 n1 m x0 x1 x2 x3 (fun x4 x5 x6 => k (.exit 0) (s231v3 n1 x5 x4 x6))
 | 0,_,_,_,_ => rfl
 | m + 1,x0,x1,x2,x3 => by
  rw [r231v3]
  simp only [L231v3,q231v3 m,t231v1,g231v2]
def F231 (x0 : Int) (x1 : Nat) (x2 : FF) (x3 : Int) : Option (Nat × FF) :=
 (bif (decide (0 ≤ x0) && decide (x0 ≤ x0) && decide (x0 ≤ 1073741824) && true) then (L231v3 u x1 x2 x0.toNat u 1 (fun _ j => listF [(.b false)] j) 1 (rowsF 1 [(.i .i64 x3)])
  (fun x4 x5 x6 => (some (x0.toNat,x4)))) else none)
def s231v5 : St := ⟨[vxi i0,.x (.c (ro kP n0 f0)),vxi i1,uu,uu,uu,.x (vcn),.x (.own 0 0 i0.toNat),.x (.own 1 0 1),uu,uu,uu,vxi i0,.x (.own 0 0 i0.toNat),vxi i1,.x (.own 1 0 1),uu,uu,uu,uu,uu,uu,uu,uu,uu,uu,uu,uu,uu,uu,uu,uu,uu,uu,uu,uu,uu,uu,uu,uu,uu,uu,uu,uu,uu,uu,uu,uu,uu,uu,uu,uu,uu,uu,uu,uu,uu,uu,uu],[.arr (.pr .bool .nil) i0.toNat (fun _ j => listF [(.b false)] j),.arr (.pr (.int .i64) .nil) 1 (rowsF 1 [(vi i1)])]⟩
theorem t231v3 :
  loopN (eB A29v5 (C12 u) u) N231v3 u (s231v5 n0 f0 i0 i1) k =
  L231v3 u n0 f0 i0.toNat u 1 (fun _ j => listF [(.b false)] j) 1 (rowsF 1 [(vi i1)]) (fun x0 x1 x2 => k (.exit 0) (s231v3 i0.toNat x1 x0 x2)) :=
 Eq.trans (loopN_at (by kernel_rfl)) (q231v3 ..)
theorem g231v4 :
  (kBlk 0 (kSeq (C12 u) u (8 :: 9 :: 11 :: (rl 16 42 [])) A29v6 (finish A29))) (.exit 0) (s231v3 i0.toNat n0 f0 f1) =
  (some [.v (ro (.pr .bool .nil) i0.toNat f0)]) := by kernel_rfl
theorem e231 : evalF (C12 u) u A29 [.v (vi i0),.v (ro kP n0 f0),.v (vi i1)] = ob (F231 u i0 n0 f0 i1) fun t => some [.v (ro (.pr .bool .nil) t.1 t.2)] := Eq.trans (b := (bif (decide (0 ≤ i0) && decide (i0 ≤ i0) && decide (i0 ≤ 1073741824) && true) then (loopN (eB A29v5 (C12 u) u) N231v3 u (s231v5 n0 f0 i0 i1) (kBlk 0 (kSeq (C12 u) u (8 :: 9 :: 11 :: (rl 16 42 [])) A29v6 (finish A29)))) else none)) (by kernel_rfl) (by
 simp only [F231,ob_bif,ob_ob,ob_none,ob_some,nl231v3,t231v3,g231v4])
def O231 : Ora := mkO (qc (av ci) (qc (av (cL kP)) (q1 (av ci)))) (fun x => F231 u x.1 x.2.1.1 x.2.1.2 x.2.2) fun t => [.v (ro (.pr .bool .nil) t.1 t.2)]
theorem d231 : DO (O231 u) (C12 u) 29 A29 := dO u (fun x => by exact e231 u x.2.1.1 x.2.1.2 x.1 x.2.2)
def C13 : Oracle := (C12 u).add 29 (fun _ => true) (O231 u)
def A24v1 : AC := (.seq (.block 5
 (.seq (.region 18 [mv 57 55,o1 58 (.indexAddr 42 4 1 (tm 53) (tm 55)),o1 59 (lo 4 58),o1 14 (sg 57),o1 15 (sg 59)] 0 none) []
  (.region 19 [mv 60 11,mv 61 14,mv 62 11,mv 63 14,o1 64 (.indexAddr 42 4 1 (tm 62) (tm 63)),o1 65 (lo 4 64),mv 66 65,og 67 (.move (tm 15)) 66 false,o1 68 (pa 66 67),o1 69 (.indexAddr 42 4 1 (tm 60) (tm 61)),o0 (.store 4 1 (tm 69) (tm 68))] 0 none))) []
 (.region 20 [o1 70 (bk .add 3 55 1),mv 55 70] 0 none))
def A24v2 : AC := (.seq (.region 17 [o1 56 (bt .lss 3 55 54)] 0 none) []
 (.seq (.cond (tm 56)
 .skip
 (.exit 4 (rl 1 7 (rl 12 21 (rl 35 4 (rl 42 55 [])))))) []
 A24v1))
def A24v3 : AC := (.seq (.region 16 [mv 49 0,mv 50 8,o1 51 (.indexAddrA 31 3 2 1 (tm 13) (ic 1)),o1 52 (lo 3 51),o1 53 (cf 29 [49,50,52] [3,22,3]),o1 54 (.len 42 false (tm 53)),o1 55 (.move (ic 0))] 0 none) []
 (.block 4
 (.loop [] (rl 1 7 (rl 12 21 (rl 35 4 (rl 42 11 (rl 56 41 [])))))
  A24v2)))
def A24v4 : AC := (.region 21 [o1 71 (bk .add 3 41 1),mv 41 71] 0 none)
def A24v5 : AC := (.seq (.block 3
 (.seq (.region 14 [o1 43 (.indexAddr 22 31 2 (tm 39) (tm 41)),o1 44 (ln 31 2 43),o1 13 (.alloc 0 31 [vci 0,vci 0]),o0 (.store 31 2 (tm 13) (tm 44))] 1 none) []
  (.seq (.seq (.region 15 [o1 45 (.indexAddrA 31 3 2 1 (tm 13) (ic 0)),o1 46 (lo 3 45),mv 47 10,o1 48 (bt .neq 3 46 47)] 0 none) []
  (.cond (tm 48)
  (.exit 3 (rl 1 7 (rl 12 21 (rl 35 4 (rl 42 55 [])))))
  .skip)) (rl 45 4 [])
  A24v3))) (13 :: 14 :: 15 :: (rl 43 28 []))
 A24v4)
def A24v6 : AC := (.seq (.region 13 [o1 42 (bt .lss 3 41 40)] 0 none) []
 (.seq (.cond (tm 42)
 .skip
 (.exit 2 (rl 1 7 (rl 12 21 (rl 35 62 []))))) []
 A24v5))
def A24v7 : AC := (.region 27 [o1 94 (bk .add 3 74 1),mv 74 94] 0 none)
def A24v8 : AC := (.seq (.block 7
 (.seq (.region 24 [o1 76 (.indexAddr 22 31 2 (tm 72) (tm 74)),o1 77 (ln 31 2 76),o1 17 (.alloc 0 31 [vci 0,vci 0]),o0 (.store 31 2 (tm 17) (tm 77))] 1 none) []
  (.seq (.region 25 [o1 78 (.indexAddrA 31 3 2 1 (tm 17) (ic 0)),o1 79 (lo 3 78),mv 80 10,o1 81 (bt .eql 3 79 80),mv 82 81,og 83 (.move (tm 11)) 82 true,og 84 (.indexAddrA 31 3 2 1 (tm 17) (ic 1)) 82 true,og 85 (lo 3 84) 82 true,og 86 (.indexAddr 42 4 1 (tm 83) (tm 85)) 82 true,og 87 (lo 4 86) 82 true,og 88 (.unOp .not 4 (tm 87)) 82 true,o1 89 (po 82 88)] 0 none) []
  (.cond (tm 89)
  (.region 26 [mv 90 9,o1 91 (ln 31 2 17),o1 92 (.buildSlice 0 22 31 kP 1 [vci 0,vci 0] [(0,(tm 91))]),o1 93 (.append 1 22 31 kP 16 (tm 90) (tm 92)),o1 9 (sg 93)] 2 none)
  .skip)))) (17 :: (rl 76 18 []))
 A24v7)
def A24v9 : AC := (.seq (.region 23 [o1 75 (bt .lss 3 74 73)] 0 none) []
 (.seq (.cond (tm 75)
 .skip
 (.exit 6 (rl 1 7 (rl 10 23 (rl 35 62 []))))) []
 A24v8))
def A24v10 : AC := (.seq (.region 22 [mv 72 8,o1 73 (.len 22 false (tm 72)),o1 74 (.move (ic 0))] 0 none) []
 (.block 6
 (.loop [.slot 9 kP] (rl 1 7 (rl 12 21 (rl 35 37 (rl 75 22 []))))
  A24v9)))
def A24v11 : AC := (.region 28 [o1 95 (bk .add 3 34 1),mv 34 95] 0 none)
def A24v12 : AC := (.seq (.block 1
 (.seq (.region 10 [mv 36 34,o1 10 (sg 36)] 0 none) []
  (.seq (.region 11 [mv 37 0,o1 38 (.makeSlice 0 42 4 (.pr .bool .nil) 1 [(.b false)] (tm 37) (tm 37)),o1 11 (sg 38)] 1 none) []
  (.seq (.seq (.region 12 [mv 39 8,o1 40 (.len 22 false (tm 39)),o1 41 (.move (ic 0))] 0 none) []
  (.block 2
  (.ghost [1] (.loop [] (rl 1 7 (rl 12 21 (rl 35 4 (rl 42 55 []))))
   A24v6)))) (13 :: 14 :: 15 :: (rl 39 33 []))
  A24v10)))) (10 :: 11 :: 13 :: 14 :: 15 :: 17 :: (rl 36 59 []))
 A24v11)
def A24v13 : AC := (.seq (.region 9 [o1 35 (bt .lss 3 34 33)] 0 none) []
 (.seq (.cond (tm 35)
 .skip
 (.exit 0 (rl 0 9 (rl 10 87 [])))) []
 A24v12))
def A24v14 : AC := (.seq (.region 29 [mv 96 9,o1 4 (sg 96),o1 5 (sk 0)] 0 none) []
 (.ret (rl 0 4 (rl 6 91 []))))
def A24v15 : AC := (.seq (.region 4 [mv 27 1,o1 28 (.callo 0 34 [(tm 27)] [22] kP),o1 8 (sg 28)] 1 none) []
 (.seq (.region 5 [mv 29 8,o1 30 (.turn 35 (tm 29) [(.func 36)] [22,55])] 0 none) []
 (.seq (.region 6 [mv 31 8,o1 32 (.cut 0 39 (tm 31) [] [22] kP),o1 8 (sg 32)] 1 none) []
 (.seq (.region 7 [o1 9 (.assign (.const (.slice none 0 0)))] 0 none) []
 (.seq (.seq (.region 8 [mv 33 0,o1 34 (.move (ic 0))] 0 none) []
 (.block 0
 (.ghost [1] (.loop [.slot 9 kP] (rl 1 7 (rl 10 23 (rl 35 62 [])))
  A24v13)))) (10 :: 11 :: 13 :: 14 :: 15 :: 17 :: (rl 33 63 []))
 A24v14)))))
def A24 : AF := ⟨97,[.tmp 4,.tmp 5],
 (.seq (.region 0 [o1 4 (.assign (.const (.slice none 0 0))),o1 5 (sk 0)] 0 none) []
 (.seq (.seq (.region 1 [mv 19 0,mv 20 1,o1 21 (cf 13 [19,20] [3,22]),mv 18 21,o1 22 (.extract (tm 18) 0),o1 23 (.extract (tm 18) 1),o1 6 (sg 22),o1 7 (sg 23)] 0 none) []
 (.seq (.region 2 [mv 24 7,o1 25 (bk .neq 26 24 0)] 0 none) []
 (.cond (tm 25)
 (.seq (.region 3 [mv 26 7,o1 4 (.assign (.const (.slice none 0 0))),o1 5 (sg 26)] 0 none) []
  (.ret (rl 0 4 (rl 6 91 []))))
 .skip))) (rl 4 4 (rl 18 9 []))
 A24v15))⟩
def N242v6 : St → Option St := nN 5 (rl 1 7 (rl 12 21 (rl 35 4 (rl 42 11 (rl 56 41 [])))))
def s242v0 : St := ⟨(vxi i0 :: (us 7 (.x (.c (ro kP n0 f0)) :: .x (.own 2 0 n1) :: vxi i1 :: .x (.own 3 0 n2) :: (us 21 (vxi i0 :: vxi i1 :: (us 4 (.x (.c (ro kP n0 f0)) :: vxi i2 :: vxi i3 :: (us 11 (.x (.c (ro (.pr .bool .nil) n3 f1)) :: vxi i4 :: vxi i5 :: (us 41 [])))))))))),[.dead,.dead,.arr kP n1 f2,.arr (.pr .bool .nil) n2 f3,.box [(vci i6),(vci i7)]]⟩
def s242v1 : St := ⟨(vxi i0 :: (us 7 (.x (.c (ro kP n0 f0)) :: .x (.own 2 0 n1) :: vxi i1 :: .x (.own 3 0 n2) :: (us 21 (vxi i0 :: vxi i1 :: (us 4 (.x (.c (ro kP n0 f0)) :: vxi i2 :: vxi i3 :: (us 55 [])))))))),[.dead,.dead,.arr kP n1 f1,.arr (.pr .bool .nil) n2 f2,.box [(vci i4),(vci i5)]]⟩
def L242v6 {ρ : Type} (u : Nat) (x0 : Int) (x1 : Nat) (x2 : FF) (x3 : Nat) (x4 : Int) (x5 : Nat) (x6 x7 : Int) (x8 : Nat) (x9 : FF) (xA : Int) (xB : FF) (xC xD : Int) : Nat → Int → FF → (FF → Option ρ) → Option ρ
 | 0,_,_,_ => none
 | m + 1,xE,xF,k0 =>
  (bif (decide (xE < xA)) then (bif (inb xE x8) then (bif (inb xE x5) then (bif ((xF (0 + xE.toNat) 0).bool == false) then (bif (inb xE x5) then (L242v6 u x0 x1 x2 x3 x4 x5 x6 x7 x8 x9 xA xB xC xD m (w64 (xE + 1)) (setF xF (0 + xE.toNat) 0 1 (listF [(.b (x9 xE.toNat 0).bool)])) k0) else none) else (bif (inb xE x5) then (L242v6 u x0 x1 x2 x3 x4 x5 x6 x7 x8 x9 xA xB xC xD m (w64 (xE + 1)) (setF xF (0 + xE.toNat) 0 1 (listF [(.b true)])) k0) else none)) else none) else none) else (k0 xF))
theorem nl242v6 : ∀ (m : Nat) (x0 : Int) (x1 : FF) (k0 : FF → Option ρ),ob (L242v6 u i0 n0 f0 n1 i1 n2 i2 i3 n3 f1 i4 f2 i5 i6 m x0 x1 k0) ng = L242v6 u i0 n0 f0 n1 i1 n2 i2 i3 n3 f1 i4 f2 i5 i6 m x0 x1 (fun x2 => ob (k0 x2) ng)
 | 0,_,_,_ => rfl
 | m + 1,x0,x1,k0 => by
  simp only [L242v6,ob_bif,ob_ob,ob_none,nl242v6 m]
theorem r242v6 :
  loopH (eB A24v2 (C13 u) u) N242v6 (m + 1) (s242v0 n0 n1 n2 n3 f0 f1 f2 f3 i0 i1 i2 i3 i4 i7 i5 i6) k =
  (bif (decide (i7 < i4)) then (bif (inb i7 n3) then (bif (inb i7 n2) then (bif ((f3 (0 + i7.toNat) 0).bool == false) then (bif (inb i7 n2) then (loopH (eB A24v2 (C13 u) u) N242v6 m (s242v0 n0 n1 n2 n3 f0 f1 f2 (setF f3 (0 + i7.toNat) 0 1 (listF [(.b (f1 i7.toNat 0).bool)])) i0 i1 i2 i3 i4 (w64 (i7 + 1)) i5 i6) k) else none) else (bif (inb i7 n2) then (loopH (eB A24v2 (C13 u) u) N242v6 m (s242v0 n0 n1 n2 n3 f0 f1 f2 (setF f3 (0 + i7.toNat) 0 1 (listF [(.b true)])) i0 i1 i2 i3 i4 (w64 (i7 + 1)) i5 i6) k) else none)) else none) else none) else (k (.exit 4) (s242v1 n0 n1 n2 f0 f2 f3 i0 i1 i2 i3 i5 i6))) := by kernel_rfl
theorem q242v6 : ∀ (m : Nat) (x0 : Int) (x1 : FF),
  loopH (eB A24v2 (C13 u) u) N242v6 m (s242v0 n0 n1 n2 n3 f0 f1 f2 x1 i0 i1 i2 i3 i4 x0 i5 i6) k = L242v6 u i0 n0 f0 n1 i1 n2 i2 i3 n3 f1 i4 f2 i5 i6 m x0 x1 (fun x2 => k (.exit 4) (s242v1 n0 n1 n2 f0 f2 x2 i0 i1 i2 i3 i5 i6))
 | 0,_,_ => rfl
 | m + 1,x0,x1 => by
  rw [r242v6]
  simp only [L242v6,q242v6 m]
def N242v7 : St → Option St := nN 4 (rl 1 7 (rl 12 21 (rl 35 4 (rl 42 55 []))))
def s242v2 : St := ⟨(vxi i0 :: (us 7 (.x (.c (ro kP n0 f0)) :: .x (.own 2 0 n1) :: vxi i1 :: .x (.own 3 0 n2) :: (us 21 (vxi i0 :: vxi i1 :: (us 4 (.x (.c (ro kP n0 f0)) :: vxi i2 :: vxi i3 :: (us 55 [])))))))),[.dead,.dead,.arr kP n1 f1,.arr (.pr .bool .nil) n2 f2]⟩
def s242v3 : St := ⟨(vxi i0 :: (us 7 (.x (.c (ro kP n0 f0)) :: .x (.own 2 0 n1) :: vxi i1 :: .x (.own 3 0 n2) :: (us 21 (vxi i0 :: vxi i1 :: (us 62 [])))))),[.dead,.dead,.arr kP n1 f1,.arr (.pr .bool .nil) n2 f2]⟩
def L242v7 {ρ : Type} (u : Nat) (x0 : Int) (x1 : Nat) (x2 : FF) (x3 : Nat) (x4 : Int) (x5 : Nat) (x6 : Int) (x7 : FF) : Nat → Int → FF → (FF → Option ρ) → Option ρ
 | 0,_,_,_ => none
 | m + 1,x8,x9,k0 =>
  (bif (decide (x8 < x6)) then (bif (inb x8 x1) then (bif ((x2 x8.toNat 0).int != x4) then (L242v7 u x0 x1 x2 x3 x4 x5 x6 x7 m (w64 (x8 + 1)) x9 k0) else (ob (F231 u x0 x1 x2 (x2 x8.toNat 1).int) fun xA => (L242v6 u x0 x1 x2 x3 x4 x5 x6 x8 xA.1 xA.2 (Int.ofNat xA.1) x7 (x2 x8.toNat 0).int (x2 x8.toNat 1).int u 0 x9
  (fun xB => (L242v7 u x0 x1 x2 x3 x4 x5 x6 x7 m (w64 (x8 + 1)) xB k0))))) else none) else (k0 x9))
theorem nl242v7 : ∀ (m : Nat) (x0 : Int) (x1 : FF) (k0 : FF → Option ρ),ob (L242v7 u i0 n0 f0 n1 i1 n2 i2 f1 m x0 x1 k0) ng = L242v7 u i0 n0 f0 n1 i1 n2 i2 f1 m x0 x1 (fun x2 => ob (k0 x2) ng)
 | 0,_,_,_ => rfl
 | m + 1,x0,x1,k0 => by
  simp only [L242v7,ob_bif,ob_ob,ob_none,nl242v7 m,nl242v6]
def s242v4 (x0 : Nat × FF) : St := ⟨(vxi i0 :: (us 7 (.x (.c (ro kP n0 f0)) :: .x (.own 2 0 n1) :: vxi i1 :: .x (.own 3 0 n2) :: .u :: .x (.ptr 4 0) :: (us 19 (vxi i0 :: vxi i1 :: (us 4 (.x (.c (ro kP n0 f0)) :: vxi i2 :: vxi i3 :: vxb true :: .x (.c (.rp kP (f0 i3.toNat))) :: .agg [(vci (f0 i3.toNat 0).int),(vci (f0 i3.toNat 1).int)] :: (us 4 (vxi i0 :: .x (.c (ro kP n0 f0)) :: .x (.ptr 4 1) :: vxi (f0 i3.toNat 1).int :: .x (.c (ro (.pr .bool .nil) x0.1 x0.2)) :: vxi (Int.ofNat x0.1) :: vxi 0 :: (us 41 [])))))))))),[.dead,.dead,.arr kP n1 f1,.arr (.pr .bool .nil) n2 f2,.box [(vci (f0 i3.toNat 0).int),(vci (f0 i3.toNat 1).int)]]⟩
theorem r242v7 :
  loopH (eB A24v6 (C13 u) u) N242v7 (m + 1) (s242v2 n0 n1 n2 f0 f1 f2 i0 i1 i2 i3) k =
  (bif (decide (i3 < i2)) then (bif (inb i3 n0) then (bif ((f0 i3.toNat 0).int != i1) then (loopH (eB A24v6 (C13 u) u) N242v7 m (s242v2 n0 n1 n2 f0 f1 f2 i0 i1 i2 (w64 (i3 + 1))) k) else (ob (F231 u i0 n0 f0 (f0 i3.toNat 1).int) fun x0 => (loopN (eB A24v2 (C13 u) u) N242v6 u (s242v4 n0 n1 n2 f0 f1 f2 i0 i1 i2 i3 x0) (kBlk 4 (kBlk 3 (kSeq (C13 u) u (13 :: 14 :: 15 :: (rl 43 28 [])) A24v4 (kLoop (eB A24v6 (C13 u) u) N242v7 m k))))))) else none) else (k (.exit 2) (s242v3 n0 n1 n2 f0 f1 f2 i0 i1))) := by kernel_rfl
theorem t242v1 (x0 : Nat × FF) :
  loopN (eB A24v2 (C13 u) u) N242v6 u (s242v4 n0 n1 n2 f0 f1 f2 i0 i1 i2 i3 x0) k =
  L242v6 u i0 n0 f0 n1 i1 n2 i2 i3 x0.1 x0.2 (Int.ofNat x0.1) f1 (f0 i3.toNat 0).int (f0 i3.toNat 1).int u 0 f2 (fun x1 => k (.exit 4) (s242v1 n0 n1 n2 f0 f1 x1 i0 i1 i2 i3 (f0 i3.toNat 0).int (f0 i3.toNat 1).int)) :=
 Eq.trans (loopN_at (by kernel_rfl)) (q242v6 ..)
theorem g242v2 :
  (kBlk 4 (kBlk 3 (kSeq (C13 u) u (13 :: 14 :: 15 :: (rl 43 28 [])) A24v4 (kLoop (eB A24v6 (C13 u) u) N242v7 m k)))) (.exit 4) (s242v1 n0 n1 n2 f0 f1 f2 i0 i1 i2 i3 (f0 i3.toNat 0).int (f0 i3.toNat 1).int) =
  (loopH (eB A24v6 (C13 u) u) N242v7 m (s242v2 n0 n1 n2 f0 f1 f2 i0 i1 i2 (w64 (i3 + 1))) k) := by kernel_rfl
theorem q242v7 : ∀ (m : Nat) (x0 : Int) (x1 : FF),
  loopH (eB A24v6 (C13 u) u) N242v7 m (s242v2 n0 n1 n2 f0 f1 x1 i0 i1 i2 x0) k = L242v7 u i0 n0 f0 n1 i1 n2 i2 f1 m x0 x1 (fun x2 => k (.exit 2) (s242v3 n0 n1 n2 f0 f1 x2 i0 i1))
 | 0,_,_ => rfl
 | m + 1,x0,x1 => by
  rw [r242v7]
  simp only [L242v7,q242v7 m,t242v1,g242v2]
def N242v8 : St → Option St := nN 4 (rl 1 7 (rl 12 21 (rl 35 37 (rl 75 22 []))))
def s242v5 : St := ⟨(vxi i0 :: (us 7 (.x (.c (ro kP n0 f0)) :: .x (.own 2 0 n1) :: vxi i1 :: .x (.own 3 0 n2) :: (us 21 (vxi i0 :: vxi i1 :: (us 37 (.x (.c (ro kP n0 f0)) :: vxi i2 :: vxi i3 :: (us 22 [])))))))),[.dead,.dead,.arr kP n1 f1,.arr (.pr .bool .nil) n2 f2]⟩
def s242v6 : St := ⟨(vxi i0 :: (us 7 (.x (.c (ro kP n0 f0)) :: .x (.own 2 0 n1) :: (us 23 (vxi i0 :: vxi i1 :: (us 62 [])))))),[.dead,.dead,.arr kP n1 f1,.arr (.pr .bool .nil) n2 f2]⟩
def L242v8 {ρ : Type} (u : Nat) (x0 : Int) (x1 : Nat) (x2 : FF) (x3 : Int) (x4 : Nat) (x5 : Int) (x6 : FF) : Nat → Nat → Int → FF → (Nat → FF → Option ρ) → Option ρ
 | 0,_,_,_,_ => none
 | m + 1,x7,x8,x9,k0 =>
  (bif (decide (x8 < x5)) then (bif (inb x8 x1) then (bif (((x2 x8.toNat 0).int == x3) == true) then (bif (inb (x2 x8.toNat 1).int x4) then (bif (!(CV.bool (x6 (0 + (Int.toNat (x2 x8.toNat 1).int)) 0))) then (bif (Nat.ble (x7 + 1) 1073741824) then (L242v8 u x0 x1 x2 x3 x4 x5 x6 m (x7 + 1) (w64 (x8 + 1)) (joinF x7 x9 (rowsF 2 [(.i .i64 (x2 x8.toNat 0).int),(.i .i64 (x2 x8.toNat 1).int)])) k0) else none) else (L242v8 u x0 x1 x2 x3 x4 x5 x6 m x7 (w64 (x8 + 1)) x9 k0)) else none) else (L242v8 u x0 x1 x2 x3 x4 x5 x6 m x7 (w64 (x8 + 1)) x9 k0)) else none) else (k0 x7 x9))
theorem nl242v8 : ∀ (m : Nat) (x0 : Nat) (x1 : Int) (x2 : FF) (k0 : Nat → FF → Option ρ),ob (L242v8 u i0 n0 f0 i1 n1 i2 f1 m x0 x1 x2 k0) ng = L242v8 u i0 n0 f0 i1 n1 i2 f1 m x0 x1 x2 (fun x3 x4 => ob (k0 x3 x4) ng)
 | 0,_,_,_,_ => rfl
 | m + 1,x0,x1,x2,k0 => by
  simp only [L242v8,ob_bif,ob_ob,ob_none,nl242v8 m]
theorem r242v8 :
  loopH (eB A24v9 (C13 u) u) N242v8 (m + 1) (s242v5 n0 n2 n1 f0 f2 f1 i0 i1 i2 i3) k =
  (bif (decide (i3 < i2)) then (bif (inb i3 n0) then (bif (((f0 i3.toNat 0).int == i1) == true) then (bif (inb (f0 i3.toNat 1).int n1) then (bif (!(CV.bool (f1 (0 + (Int.toNat (f0 i3.toNat 1).int)) 0))) then (bif (Nat.ble (n2 + 1) 1073741824) then (loopH (eB A24v9 (C13 u) u) N242v8 m (s242v5 n0 (n2 + 1) n1 f0 (joinF n2 f2 (rowsF 2 [(vi (f0 i3.toNat 0).int),(vi (f0 i3.toNat 1).int)])) f1 i0 i1 i2 (w64 (i3 + 1))) k) else none) else (loopH (eB A24v9 (C13 u) u) N242v8 m (s242v5 n0 n2 n1 f0 f2 f1 i0 i1 i2 (w64 (i3 + 1))) k)) else none) else (loopH (eB A24v9 (C13 u) u) N242v8 m (s242v5 n0 n2 n1 f0 f2 f1 i0 i1 i2 (w64 (i3 + 1))) k)) else none) else (k (.exit 6) (s242v6 n0 n2 n1 f0 f2 f1 i0 i1))) := by kernel_rfl
theorem q242v8 : ∀ (m : Nat) (x0 : Nat) (x1 : Int) (x2 : FF),
  loopH (eB A24v9 (C13 u) u) N242v8 m (s242v5 n0 x0 n1 f0 x2 f1 i0 i1 i2 x1) k = L242v8 u i0 n0 f0 i1 n1 i2 f1 m x0 x1 x2 (fun x3 x4 => k (.exit 6) (s242v6 n0 x3 n1 f0 x4 f1 i0 i1))
 | 0,_,_,_ => rfl
 | m + 1,x0,x1,x2 => by
  rw [r242v8]
  simp only [L242v8,q242v8 m]
def N242v9 : St → Option St := nN 3 (rl 1 7 (rl 10 23 (rl 35 62 [])))
def s242v7 : St := ⟨(vxi i0 :: (us 7 (.x (.c (ro kP n0 f0)) :: .x (.own 2 0 n1) :: (us 23 (vxi i0 :: vxi i1 :: (us 62 [])))))),[.dead,.dead,.arr kP n1 f1]⟩
def s242v8 : St := ⟨(us 9 (.x (.own 2 0 n0) :: (us 87 []))),[.dead,.dead,.arr kP n0 f0]⟩
def L242v9 {ρ : Type} (u : Nat) (x0 : Int) (x1 : Nat) (x2 : FF) : Nat → Nat → Int → FF → (Nat → FF → Option ρ) → Option ρ
 | 0,_,_,_,_ => none
 | m + 1,x3,x4,x5,k0 =>
  (bif (decide (x4 < x0)) then (bif (decide (0 ≤ x0) && decide (x0 ≤ x0) && decide (x0 ≤ 1073741824) && true) then (L242v7 u x0 x1 x2 x3 x4 x0.toNat (Int.ofNat x1) x5 u 0 (fun _ j => listF [(.b false)] j)
  (fun x6 => (L242v8 u x0 x1 x2 x4 x0.toNat (Int.ofNat x1) x6 u x3 0 x5
  (fun x7 x8 => (L242v9 u x0 x1 x2 m x7 (w64 (x4 + 1)) x8 k0))))) else none) else (k0 x3 x5))
theorem nl242v9 : ∀ (m : Nat) (x0 : Nat) (x1 : Int) (x2 : FF) (k0 : Nat → FF → Option ρ),ob (L242v9 u i0 n0 f0 m x0 x1 x2 k0) ng = L242v9 u i0 n0 f0 m x0 x1 x2 (fun x3 x4 => ob (k0 x3 x4) ng)
 | 0,_,_,_,_ => rfl
 | m + 1,x0,x1,x2,k0 => by
  simp only [L242v9,ob_bif,ob_ob,ob_none,nl242v9 m,nl242v7,nl242v8]
def s242v9 : St := ⟨(vxi i0 :: (us 7 (.x (.c (ro kP n0 f0)) :: .x (.own 2 0 n1) :: vxi i1 :: .x (.own 3 0 i0.toNat) :: (us 21 (vxi i0 :: vxi i1 :: vxb true :: vxi i1 :: vxi i0 :: .x (.own 3 0 i0.toNat) :: .x (.c (ro kP n0 f0)) :: vxi (Int.ofNat n0) :: vxi 0 :: (us 55 [])))))),[.dead,.dead,.arr kP n1 f1,.arr (.pr .bool .nil) i0.toNat (fun _ j => listF [(.b false)] j)]⟩
theorem r242v9 :
  loopH (eB A24v13 (C13 u) u) N242v9 (m + 1) (s242v7 n0 n1 f0 f1 i0 i1) k =
  (bif (decide (i1 < i0)) then (bif (decide (0 ≤ i0) && decide (i0 ≤ i0) && decide (i0 ≤ 1073741824) && true) then (loopN (eB A24v6 (C13 u) u) N242v7 u (s242v9 n0 n1 f0 f1 i0 i1) (kBlk 2 (kSeq (C13 u) u (13 :: 14 :: 15 :: (rl 39 33 [])) A24v10 (kBlk 1 (kSeq (C13 u) u (10 :: 11 :: 13 :: 14 :: 15 :: 17 :: (rl 36 59 [])) A24v11 (kLoop (eB A24v13 (C13 u) u) N242v9 m k)))))) else none) else (k (.exit 0) (s242v8 n1 f1))) := by kernel_rfl
theorem t242v3 :
  loopN (eB A24v6 (C13 u) u) N242v7 u (s242v9 n0 n1 f0 f1 i0 i1) k =
  L242v7 u i0 n0 f0 n1 i1 i0.toNat (Int.ofNat n0) f1 u 0 (fun _ j => listF [(.b false)] j) (fun x0 => k (.exit 2) (s242v3 n0 n1 i0.toNat f0 f1 x0 i0 i1)) :=
 Eq.trans (loopN_at (by kernel_rfl)) (q242v7 ..)
def s242v10 : St := ⟨(vxi i0 :: (us 7 (.x (.c (ro kP n0 f0)) :: .x (.own 2 0 n1) :: vxi i1 :: .x (.own 3 0 i0.toNat) :: (us 21 (vxi i0 :: vxi i1 :: (us 37 (.x (.c (ro kP n0 f0)) :: vxi (Int.ofNat n0) :: vxi 0 :: (us 22 [])))))))),[.dead,.dead,.arr kP n1 f1,.arr (.pr .bool .nil) i0.toNat f2]⟩
theorem g242v4 :
  (kBlk 2 (kSeq (C13 u) u (13 :: 14 :: 15 :: (rl 39 33 [])) A24v10 (kBlk 1 (kSeq (C13 u) u (10 :: 11 :: 13 :: 14 :: 15 :: 17 :: (rl 36 59 [])) A24v11 (kLoop (eB A24v13 (C13 u) u) N242v9 m k))))) (.exit 2) (s242v3 n0 n1 i0.toNat f0 f1 f2 i0 i1) =
  (loopN (eB A24v9 (C13 u) u) N242v8 u (s242v10 n0 n1 f0 f1 f2 i0 i1) (kBlk 6 (kBlk 1 (kSeq (C13 u) u (10 :: 11 :: 13 :: 14 :: 15 :: 17 :: (rl 36 59 [])) A24v11 (kLoop (eB A24v13 (C13 u) u) N242v9 m k))))) := by kernel_rfl
theorem t242v5 :
  loopN (eB A24v9 (C13 u) u) N242v8 u (s242v10 n0 n1 f0 f1 f2 i0 i1) k =
  L242v8 u i0 n0 f0 i1 i0.toNat (Int.ofNat n0) f2 u n1 0 f1 (fun x0 x1 => k (.exit 6) (s242v6 n0 x0 i0.toNat f0 x1 f2 i0 i1)) :=
 Eq.trans (loopN_at (by kernel_rfl)) (q242v8 ..)
theorem g242v6 :
  (kBlk 6 (kBlk 1 (kSeq (C13 u) u (10 :: 11 :: 13 :: 14 :: 15 :: 17 :: (rl 36 59 [])) A24v11 (kLoop (eB A24v13 (C13 u) u) N242v9 m k)))) (.exit 6) (s242v6 n0 n1 i0.toNat f0 f1 f2 i0 i1) =
  (loopH (eB A24v13 (C13 u) u) N242v9 m (s242v7 n0 n1 f0 f1 i0 (w64 (i1 + 1))) k) := by kernel_rfl
theorem q242v9 : ∀ (m : Nat) (x0 : Nat) (x1 : Int) (x2 : FF),
  loopH (eB A24v13 (C13 u) u) N242v9 m (s242v7 n0 x0 f0 x2 i0 x1) k = L242v9 u i0 n0 f0 m x0 x1 x2 (fun x3 x4 => k (.exit 0) (s242v8 x3 x4))
 | 0,_,_,_ => rfl
 | m + 1,x0,x1,x2 => by
  rw [r242v9]
  simp only [L242v9,q242v9 m,t242v3,g242v4,t242v5,g242v6]
def FT242 (x0 : Int) (x1 : Nat) (x2 : FF) : Option (Bool × Nat × FF × Int) :=
 (ob (F225 u x0 x1 x2) fun x3 => (bif (x3.2.2 != 0) then (some (true,0,(fun _ _ => .any),x3.2.2)) else (bif (Nat.ble x1 1073741824) then (ob (F239 u x1 x2) fun x4 => (bif (Nat.beq x1 x1) then (bif (Nat.beq x1 0) then (bif (Nat.beq x1 x1 && Nat.ble (cutN x1 x2) x1) then (L242v9 u x0 (cutN x1 x2) (cutF x1 x2) u 0 0 (fun _ _ => .any)
  (fun x5 x6 => (some (false,x5,x6,0)))) else none) else (bif (Nat.beq x1 x1 && Nat.ble (cutN x1 x4) x1) then (L242v9 u x0 (cutN x1 x4) (cutF x1 x4) u 0 0 (fun _ _ => .any)
  (fun x7 x8 => (some (false,x7,x8,0)))) else none)) else none)) else none)))
def s242v11 : St := ⟨(vxi i0 :: .x (.c (ro kP n0 f0)) :: uu :: uu :: (us 4 (.x (.c (ro kP (cutN n0 f0) (cutF n0 f0))) :: .x (.own 2 0 0) :: uu :: uu :: uu :: uu :: uu :: uu :: uu :: uu :: (us 9 [.x (.c (ro kP n0 f0)),.x (.own 0 0 n0),.x (.own 0 0 n0),.u,.x (.own 0 0 n0),.x (.c (ro kP (cutN n0 f0) (cutF n0 f0))),vxi i0,vxi 0,uu,uu,uu,uu,uu,uu,uu,uu,uu,uu,uu,uu,uu,uu,uu,uu,uu,uu,uu,uu,uu,uu,uu,uu,uu,uu,uu,uu,uu,uu,uu,uu,uu,uu,uu,uu,uu,uu,uu,uu,uu,uu,uu,uu,uu,uu,uu,uu,uu,uu,uu,uu,uu,uu,uu,uu,uu,uu,uu,uu,uu,uu])))),[.dead,.dead,.arr kP 0 nilF]⟩
def s242v12 : St := ⟨(vxi i0 :: .x (.c (ro kP n0 f0)) :: uu :: uu :: (us 4 (.x (.c (ro kP (cutN n0 f1) (cutF n0 f1))) :: .x (.own 2 0 0) :: uu :: uu :: uu :: uu :: uu :: uu :: uu :: uu :: (us 9 [.x (.c (ro kP n0 f0)),.x (.own 0 0 n0),.x (.own 0 0 n0),.u,.x (.own 0 0 n0),.x (.c (ro kP (cutN n0 f1) (cutF n0 f1))),vxi i0,vxi 0,uu,uu,uu,uu,uu,uu,uu,uu,uu,uu,uu,uu,uu,uu,uu,uu,uu,uu,uu,uu,uu,uu,uu,uu,uu,uu,uu,uu,uu,uu,uu,uu,uu,uu,uu,uu,uu,uu,uu,uu,uu,uu,uu,uu,uu,uu,uu,uu,uu,uu,uu,uu,uu,uu,uu,uu,uu,uu,uu,uu,uu,uu])))),[.dead,.dead,.arr kP 0 nilF]⟩
theorem t242v7 :
  loopN (eB A24v13 (C13 u) u) N242v9 u (s242v11 n0 f0 i0) k =
  L242v9 u i0 (cutN n0 f0) (cutF n0 f0) u 0 0 nilF (fun x0 x1 => k (.exit 0) (s242v8 x0 x1)) :=
 Eq.trans (loopN_at (by kernel_rfl)) (q242v9 ..)
theorem g242v8 :
  (kBlk 0 (kSeq (C13 u) u (10 :: 11 :: 13 :: 14 :: 15 :: 17 :: (rl 33 63 [])) A24v14 (finish A24))) (.exit 0) (s242v8 n0 f0) =
  (some [.v (ro kP n0 f0),.v (vi 0)]) := by kernel_rfl
theorem t242v9 :
  loopN (eB A24v13 (C13 u) u) N242v9 u (s242v12 n0 f0 f1 i0) k =
  L242v9 u i0 (cutN n0 f1) (cutF n0 f1) u 0 0 nilF (fun x0 x1 => k (.exit 0) (s242v8 x0 x1)) :=
 Eq.trans (loopN_at (by kernel_rfl)) (q242v9 ..)
theorem g242v10 :
  (kBlk 0 (kSeq (C13 u) u (10 :: 11 :: 13 :: 14 :: 15 :: 17 :: (rl 33 63 [])) A24v14 (finish A24))) (.exit 0) (s242v8 n0 f0) =
  (some [.v (ro kP n0 f0),.v (vi 0)]) := by kernel_rfl
theorem e242 : evalF (C13 u) u A24 [.v (vi i0),.v (ro kP n0 f0)] = ob (FT242 u i0 n0 f0) fun t => some (bif t.1 then [.v (.ro true .nil 0 nilF),.v (vi t.2.2.2)] else [.v (ro kP t.2.1 t.2.2.1),.v (vi 0)]) := Eq.trans (b := (ob (F225 u i0 n0 f0) fun x0 => (bif (x0.2.2 != 0) then (some [.v (.ro true .nil 0 nilF),.v (vi x0.2.2)]) else (bif (Nat.ble n0 1073741824) then (ob (F239 u n0 f0) fun x1 => (bif (Nat.beq n0 n0) then (bif (Nat.beq n0 0) then (bif (Nat.beq n0 n0 && Nat.ble (cutN n0 f0) n0) then (loopN (eB A24v13 (C13 u) u) N242v9 u (s242v11 n0 f0 i0) (kBlk 0 (kSeq (C13 u) u (10 :: 11 :: 13 :: 14 :: 15 :: 17 :: (rl 33 63 [])) A24v14 (finish A24)))) else none) else (bif (Nat.beq n0 n0 && Nat.ble (cutN n0 x1) n0) then (loopN (eB A24v13 (C13 u) u) N242v9 u (s242v12 n0 f0 x1 i0) (kBlk 0 (kSeq (C13 u) u (10 :: 11 :: 13 :: 14 :: 15 :: 17 :: (rl 33 63 [])) A24v14 (finish A24)))) else none)) else none)) else none)))) (by kernel_rfl) (by
 simp only [FT242,ob_bif,ob_ob,ob_none,ob_some,nl242v9,t242v7,g242v8,t242v9,g242v10,cond_true,cond_false])
def F242 (x0 : Int) (x1 : Nat) (x2 : FF) : Option (Nat × FF × Int) := ob (FT242 u x0 x1 x2) fun t => some (bif t.1 then (0,(fun _ _ => .any),t.2.2.2) else (t.2.1,t.2.2.1,0))
def O242 : Ora := mkO (qc (av ci) (q1 (av (cL kP)))) (fun x => F242 u x.1 x.2.1 x.2.2) fun t => [.v (ro kP t.1 t.2.1),.v (vi t.2.2)]
theorem d242 : DO (O242 u) (C13 u) 24 A24 := dW u (fun x => by exact e242 u x.2.1 x.2.2 x.1) (fun _ => rfl) fun t => by
 obtain ⟨b,t⟩ := t
 cases b with
 | true => exact (.cons (WkA.v (Wk.ro (by rfl))) (.cons (WkA.v (Wk.refl _)) .nil))
 | false =>
  exact (.cons (WkA.v (Wk.refl _)) (.cons (WkA.v (Wk.refl _)) .nil))
def C14 : Oracle := (C13 u).add 24 (fun _ => true) (O242 u)
def A15v1 : AC := (.region 5 [mv 15 5,o1 16 (bk .add 3 15 1),o1 5 (sg 16)] 0 none)
def A15v2 : AC := (.seq (.block 1
 (.seq (.region 6 [mv 17 0,mv 18 5,o1 19 (.indexAddr 25 3 1 (tm 17) (tm 18)),o1 20 (lo 3 19),mv 21 1,mv 22 5,o1 23 (.indexAddr 25 3 1 (tm 21) (tm 22)),o1 24 (lo 3 23),o1 25 (bt .neq 3 20 24)] 0 (some [[],[],[0,1],[0,1,2],[],[],[4,5],[4,5,6],(rl 0 8 [])])) []
  (.cond (tm 25)
  (.seq (.region 7 [o1 4 (sb false)] 0 none) []
   (.ret (rl 0 4 (rl 5 21 []))))
  .skip))) (4 :: (rl 17 9 []))
 A15v1)
def A15v3 : AC := (.seq (.seq (.region 4 [mv 11 5,mv 12 0,o1 13 (.len 25 false (tm 12)),o1 14 (bt .lss 3 11 13)] 0 none) []
 (.cond (tm 14)
 .skip
 (.exit 0 (rl 0 26 [])))) (rl 11 4 [])
 A15v2)
def A15v4 : AC := (.seq (.region 8 [o1 4 (sb true)] 0 none) []
 (.ret (rl 0 4 (rl 5 21 []))))
def A15v5 : AC := (.seq (.seq (.region 3 [o1 5 (sk 0)] 0 none) []
 (.block 0
 (.loop [] (2 :: 3 :: 4 :: (rl 6 20 []))
  A15v3))) (4 :: 5 :: (rl 11 15 []))
 A15v4)
def A15 : AF := ⟨26,[.tmp 4],
 (.seq (.region 0 [o1 4 (sb false)] 0 none) []
 (.seq (.seq (.region 1 [mv 6 0,o1 7 (.len 25 false (tm 6)),mv 8 1,o1 9 (.len 25 false (tm 8)),o1 10 (bt .neq 3 7 9)] 0 none) []
 (.cond (tm 10)
 (.seq (.region 2 [o1 4 (sb false)] 0 none) []
  (.ret (rl 0 4 (rl 5 21 []))))
 .skip)) (4 :: (rl 6 5 []))
 A15v5))⟩
def N230v1 : St → Option St := nN 0 (2 :: 3 :: 4 :: (rl 6 20 []))
def s230v0 : St := ⟨(.x (.c (ro (.pr (.int .i64) .nil) n0 f0)) :: .x (.c (ro (.pr (.int .i64) .nil) n1 f1)) :: (us 3 (vxi i0 :: (us 20 [])))),[]⟩
def s230v1 : St := ⟨(us 4 (vxb false :: (us 21 []))),[]⟩
def s230v2 : St := ⟨(us 26 []),[]⟩
def L230v1 {ρ : Type} (u : Nat) (x0 : Nat) (x1 : FF) (x2 : Nat) (x3 : FF) : Nat → Int → (Option ρ) → (Option ρ) → Option ρ
 | 0,_,_,_ => none
 | m + 1,x4,k0,k1 =>
  (bif (decide (x4 < (Int.ofNat x0))) then (bif (inb x4 x0) then (bif (inb x4 x2) then (bif ((x1 x4.toNat 0).int != (x3 x4.toNat 0).int) then k0 else (L230v1 u x0 x1 x2 x3 m (w64 (x4 + 1)) k0 k1)) else none) else none) else k1)
theorem nl230v1 : ∀ (m : Nat) (x0 : Int) (k0 : Option ρ) (k1 : Option ρ),ob (L230v1 u n0 f0 n1 f1 m x0 k0 k1) ng = L230v1 u n0 f0 n1 f1 m x0 (ob k0 ng) (ob k1 ng)
 | 0,_,_,_ => rfl
 | m + 1,x0,k0,k1 => by
  simp only [L230v1,ob_bif,ob_ob,ob_none,nl230v1 m]
theorem r230v1 :
  loopH (eB A15v3 (C14 u) u) N230v1 (m + 1) (s230v0 n0 n1 f0 f1 i0) k =
  (bif (decide (i0 < (Int.ofNat n0))) then (bif (inb i0 n0) then (bif (inb i0 n1) then (bif ((f0 i0.toNat 0).int != (f1 i0.toNat 0).int) then (k .ret s230v1) else (loopH (eB A15v3 (C14 u) u) N230v1 m (s230v0 n0 n1 f0 f1 (w64 (i0 + 1))) k)) else none) else none) else (k (.exit 0) s230v2)) := by kernel_rfl
theorem q230v1 : ∀ (m : Nat) (x0 : Int),
  loopH (eB A15v3 (C14 u) u) N230v1 m (s230v0 n0 n1 f0 f1 x0) k = L230v1 u n0 f0 n1 f1 m x0 (k .ret s230v1) (k (.exit 0) s230v2)
 | 0,_ => rfl
 | m + 1,x0 => by
  rw [r230v1]
  simp only [L230v1,q230v1 m]
def F230 (x0 : Nat) (x1 : FF) (x2 : Nat) (x3 : FF) : Option (Bool) :=
 (bif ((Int.ofNat x0) != (Int.ofNat x2)) then (some false) else (L230v1 u x0 x1 x2 x3 u 0
  (some false)
  (some true)))
def s230v3 : St := ⟨(.x (.c (ro (.pr (.int .i64) .nil) n0 f0)) :: .x (.c (ro (.pr (.int .i64) .nil) n1 f1)) :: uu :: uu :: .u :: vxi 0 :: (us 5 [uu,uu,uu,uu,uu,uu,uu,uu,uu,uu,uu,uu,uu,uu,uu])),[]⟩
theorem t230v1 :
  loopN (eB A15v3 (C14 u) u) N230v1 u (s230v3 n0 n1 f0 f1) k =
  L230v1 u n0 f0 n1 f1 u 0 (k .ret s230v1) (k (.exit 0) s230v2) :=
 Eq.trans (loopN_at (by kernel_rfl)) (q230v1 ..)
theorem g230v2 :
  (kBlk 0 (kSeq (C14 u) u (4 :: 5 :: (rl 11 15 [])) A15v4 (finish A15))) .ret s230v1 =
  (some [.v (.b false)]) := by kernel_rfl
theorem g230v3 :
  (kBlk 0 (kSeq (C14 u) u (4 :: 5 :: (rl 11 15 [])) A15v4 (finish A15))) (.exit 0) s230v2 =
  (some [.v (.b true)]) := by kernel_rfl
theorem e230 : evalF (C14 u) u A15 [.v (ro (.pr (.int .i64) .nil) n0 f0),.v (ro (.pr (.int .i64) .nil) n1 f1)] = ob (F230 u n0 f0 n1 f1) fun t => some [.v (.b t)] := Eq.trans (b := (bif ((Int.ofNat n0) != (Int.ofNat n1)) then (some [.v (.b false)]) else (loopN (eB A15v3 (C14 u) u) N230v1 u (s230v3 n0 n1 f0 f1) (kBlk 0 (kSeq (C14 u) u (4 :: 5 :: (rl 11 15 [])) A15v4 (finish A15)))))) (by kernel_rfl) (by
 simp only [F230,ob_bif,ob_ob,ob_none,ob_some,nl230v1,t230v1,g230v2,g230v3])
def O230 : Ora := mkO (qc (av (cL (.pr (.int .i64) .nil))) (q1 (av (cL (.pr (.int .i64) .nil))))) (fun x => F230 u x.1.1 x.1.2 x.2.1 x.2.2) fun t => [.v (.b t)]
theorem d230 : DO (O230 u) (C14 u) 15 A15 := dO u (fun x => by exact e230 u x.1.1 x.2.1 x.1.2 x.2.2)
def C15 : Oracle := (C14 u).add 15 (fun _ => true) (O230 u)
def A26v1 : AC := (.region 5 [mv 15 5,o1 16 (bk .add 3 15 1),o1 5 (sg 16)] 0 none)
def A26v2 : AC := (.seq (.block 1
 (.seq (.region 6 [mv 17 0,mv 18 5,o1 19 (.indexAddr 22 31 2 (tm 17) (tm 18)),o1 20 (ln 31 2 19),mv 21 1,mv 22 5,o1 23 (.indexAddr 22 31 2 (tm 21) (tm 22)),o1 24 (ln 31 2 23),o1 25 (.eqA true kP 31 (tm 20) (tm 24) 31)] 0 (some [[],[],[0,1],[0,1,2],[],[],[4,5],[4,5,6],(rl 0 8 [])])) []
  (.cond (tm 25)
  (.seq (.region 7 [o1 4 (sb false)] 0 none) []
   (.ret (rl 0 4 (rl 5 21 []))))
  .skip))) (4 :: (rl 17 9 []))
 A26v1)
def A26v3 : AC := (.seq (.seq (.region 4 [mv 11 5,mv 12 0,o1 13 (.len 22 false (tm 12)),o1 14 (bt .lss 3 11 13)] 0 none) []
 (.cond (tm 14)
 .skip
 (.exit 0 (rl 0 26 [])))) (rl 11 4 [])
 A26v2)
def A26v4 : AC := (.seq (.region 8 [o1 4 (sb true)] 0 none) []
 (.ret (rl 0 4 (rl 5 21 []))))
def A26v5 : AC := (.seq (.seq (.region 3 [o1 5 (sk 0)] 0 none) []
 (.block 0
 (.loop [] (2 :: 3 :: 4 :: (rl 6 20 []))
  A26v3))) (4 :: 5 :: (rl 11 15 []))
 A26v4)
def A26 : AF := ⟨26,[.tmp 4],
 (.seq (.region 0 [o1 4 (sb false)] 0 none) []
 (.seq (.seq (.region 1 [mv 6 0,o1 7 (.len 22 false (tm 6)),mv 8 1,o1 9 (.len 22 false (tm 8)),o1 10 (bt .neq 3 7 9)] 0 none) []
 (.cond (tm 10)
 (.seq (.region 2 [o1 4 (sb false)] 0 none) []
  (.ret (rl 0 4 (rl 5 21 []))))
 .skip)) (4 :: (rl 6 5 []))
 A26v5))⟩
def N240v1 : St → Option St := nN 0 (2 :: 3 :: 4 :: (rl 6 20 []))
def s240v0 : St := ⟨(.x (.c (ro kP n0 f0)) :: .x (.c (ro kP n1 f1)) :: (us 3 (vxi i0 :: (us 20 [])))),[]⟩
def s240v1 : St := ⟨(us 4 (vxb false :: (us 21 []))),[]⟩
def s240v2 : St := ⟨(us 26 []),[]⟩
def L240v1 {ρ : Type} (u : Nat) (x0 : Nat) (x1 : FF) (x2 : Nat) (x3 : FF) : Nat → Int → (Option ρ) → (Option ρ) → Option ρ
 | 0,_,_,_ => none
 | m + 1,x4,k0,k1 =>
  (bif (decide (x4 < (Int.ofNat x0))) then (bif (inb x4 x0) then (bif (inb x4 x2) then (bif (!(((x1 x4.toNat 0).int == (x3 x4.toNat 0).int) && (((x1 x4.toNat 1).int == (x3 x4.toNat 1).int) && true))) then k0 else (L240v1 u x0 x1 x2 x3 m (w64 (x4 + 1)) k0 k1)) else none) else none) else k1)
theorem nl240v1 : ∀ (m : Nat) (x0 : Int) (k0 : Option ρ) (k1 : Option ρ),ob (L240v1 u n0 f0 n1 f1 m x0 k0 k1) ng = L240v1 u n0 f0 n1 f1 m x0 (ob k0 ng) (ob k1 ng)
 | 0,_,_,_ => rfl
 | m + 1,x0,k0,k1 => by
  simp only [L240v1,ob_bif,ob_ob,ob_none,nl240v1 m]
theorem r240v1 :
  loopH (eB A26v3 (C15 u) u) N240v1 (m + 1) (s240v0 n0 n1 f0 f1 i0) k =
  (bif (decide (i0 < (Int.ofNat n0))) then (bif (inb i0 n0) then (bif (inb i0 n1) then (bif (!(((f0 i0.toNat 0).int == (f1 i0.toNat 0).int) && (((f0 i0.toNat 1).int == (f1 i0.toNat 1).int) && true))) then (k .ret s240v1) else (loopH (eB A26v3 (C15 u) u) N240v1 m (s240v0 n0 n1 f0 f1 (w64 (i0 + 1))) k)) else none) else none) else (k (.exit 0) s240v2)) := by kernel_rfl
theorem q240v1 : ∀ (m : Nat) (x0 : Int),
  loopH (eB A26v3 (C15 u) u) N240v1 m (s240v0 n0 n1 f0 f1 x0) k = L240v1 u n0 f0 n1 f1 m x0 (k .ret s240v1) (k (.exit 0) s240v2)
 | 0,_ => rfl
 | m + 1,x0 => by
  rw [r240v1]
  simp only [L240v1,q240v1 m]
def F240 (x0 : Nat) (x1 : FF) (x2 : Nat) (x3 : FF) : Option (Bool) :=
 (bif ((Int.ofNat x0) != (Int.ofNat x2)) then (some false) else (L240v1 u x0 x1 x2 x3 u 0
  (some false)
  (some true)))
def s240v3 : St := ⟨(.x (.c (ro kP n0 f0)) :: .x (.c (ro kP n1 f1)) :: uu :: uu :: .u :: vxi 0 :: (us 5 [uu,uu,uu,uu,uu,uu,uu,uu,uu,uu,uu,uu,uu,uu,uu])),[]⟩
theorem t240v1 :
  loopN (eB A26v3 (C15 u) u) N240v1 u (s240v3 n0 n1 f0 f1) k =
  L240v1 u n0 f0 n1 f1 u 0 (k .ret s240v1) (k (.exit 0) s240v2) :=
 Eq.trans (loopN_at (by kernel_rfl)) (q240v1 ..)
theorem g240v2 :
  (kBlk 0 (kSeq (C15 u) u (4 :: 5 :: (rl 11 15 [])) A26v4 (finish A26))) .ret s240v1 =
  (some [.v (.b false)]) := by kernel_rfl
theorem g240v3 :
  (kBlk 0 (kSeq (C15 u) u (4 :: 5 :: (rl 11 15 [])) A26v4 (finish A26))) (.exit 0) s240v2 =
  (some [.v (.b true)]) := by kernel_rfl
theorem e240 : evalF (C15 u) u A26 [.v (ro kP n0 f0),.v (ro kP n1 f1)] = ob (F240 u n0 f0 n1 f1) fun t => some [.v (.b t)] := Eq.trans (b := (bif ((Int.ofNat n0) != (Int.ofNat n1)) then (some [.v (.b false)]) else (loopN (eB A26v3 (C15 u) u) N240v1 u (s240v3 n0 n1 f0 f1) (kBlk 0 (kSeq (C15 u) u (4 :: 5 :: (rl 11 15 [])) A26v4 (finish A26)))))) (by kernel_rfl) (by
 simp only [F240,ob_bif,ob_ob,ob_none,ob_some,nl240v1,t240v1,g240v2,g240v3])
def O240 : Ora := mkO (qc (av (cL kP)) (q1 (av (cL kP)))) (fun x => F240 u x.1.1 x.1.2 x.2.1 x.2.2) fun t => [.v (.b t)]
theorem d240 : DO (O240 u) (C15 u) 26 A26 := dO u (fun x => by exact e240 u x.1.1 x.2.1 x.1.2 x.2.2)
def C16 : Oracle := (C15 u).add 26 (fun _ => true) (O240 u)
def A16v1 : AC := (.seq (.region 4 [mv 37 0,mv 38 1,mv 39 2,o1 40 (cf 29 [37,38,39] [3,22,3]),mv 41 3,o1 42 (.indexAddr 42 4 1 (tm 40) (tm 41)),o1 43 (lo 4 42),o1 8 (sg 43)] 0 none) []
 (.ret (rl 0 8 (rl 9 35 []))))
def A16 : AF := ⟨44,[.tmp 8],
 (.seq (.region 0 [o1 8 (sb false)] 0 none) []
 (.seq (.seq (.region 1 [mv 12 0,mv 13 1,o1 14 (cf 13 [12,13] [3,22]),mv 11 14,o1 15 (.extract (tm 11) 0),o1 16 (.extract (tm 11) 1),o1 9 (sg 15),o1 10 (sg 16)] 0 none) []
 (.seq (.region 2 [mv 17 10,o1 18 (bk .neq 26 17 0),mv 19 18,og 20 (.move (tm 2)) 19 false,og 21 (bk .lss 3 20 0) 19 false,o1 22 (pa 19 21),mv 23 22,og 24 (.move (tm 2)) 23 false,og 25 (.move (tm 0)) 23 false,og 26 (bt .geq 3 24 25) 23 false,o1 27 (pa 23 26),mv 28 27,og 29 (.move (tm 3)) 28 false,og 30 (bk .lss 3 29 0) 28 false,o1 31 (pa 28 30),mv 32 31,og 33 (.move (tm 3)) 32 false,og 34 (.move (tm 0)) 32 false,og 35 (bt .geq 3 33 34) 32 false,o1 36 (pa 32 35)] 0 none) []
 (.cond (tm 36)
 (.seq (.region 3 [o1 8 (sb false)] 0 none) []
  (.ret (rl 0 8 (rl 9 35 []))))
 .skip))) (rl 8 29 [])
 A16v1))⟩
def F232 (x0 : Int) (x1 : Nat) (x2 : FF) (x3 x4 : Int) : Option (Bool) :=
 (ob (F225 u x0 x1 x2) fun x5 => (bif ((x5.2.2 != 0) == false) then (bif ((decide (x3 < 0)) == false) then (bif ((decide (x3 ≥ x0)) == false) then (bif ((decide (x4 < 0)) == false) then (bif (decide (x4 ≥ x0)) then (some false) else (ob (F231 u x0 x1 x2 x3) fun x6 => (bif (inb x4 x6.1) then (some (x6.2 x4.toNat 0).bool) else none))) else (some false)) else (some false)) else (some false)) else (some false)))
theorem e232 : evalF (C16 u) u A16 [.v (vi i0),.v (ro kP n0 f0),.v (vi i1),.v (vi i2)] = ob (F232 u i0 n0 f0 i1 i2) fun t => some [.v (.b t)] := Eq.trans (b := (ob (F225 u i0 n0 f0) fun x0 => (bif ((x0.2.2 != 0) == false) then (bif ((decide (i1 < 0)) == false) then (bif ((decide (i1 ≥ i0)) == false) then (bif ((decide (i2 < 0)) == false) then (bif (decide (i2 ≥ i0)) then (some [.v (.b false)]) else (ob (F231 u i0 n0 f0 i1) fun x1 => (bif (inb i2 x1.1) then (some [.v (.b (x1.2 i2.toNat 0).bool)]) else none))) else (some [.v (.b false)])) else (some [.v (.b false)])) else (some [.v (.b false)])) else (some [.v (.b false)])))) (by kernel_rfl) (by
 simp only [F232,ob_bif,ob_ob,ob_none,ob_some])
def O232 : Ora := mkO (qc (av ci) (qc (av (cL kP)) (qc (av ci) (q1 (av ci))))) (fun x => F232 u x.1 x.2.1.1 x.2.1.2 x.2.2.1 x.2.2.2) fun t => [.v (.b t)]
theorem d232 : DO (O232 u) (C16 u) 16 A16 := dO u (fun x => by exact e232 u x.2.1.1 x.2.1.2 x.1 x.2.2.1 x.2.2.2)
def C17 : Oracle := (C16 u).add 16 (fun _ => true) (O232 u)
def A12 : AF := ⟨111,[.tmp 0],
 (.seq (.region 0 [o1 0 (sb false)] 0 none) []
 (.seq (.region 1 [o1 14 (.build 31 [vci 0,vci 0] [] 1 [(0,(ic 0)),(1,(ic 2))]),o1 15 (.build 31 [vci 0,vci 0] [] 1 [(0,(ic 1)),(1,(ic 2))]),o1 16 (.buildSlice 0 22 31 kP 2 [vci 0,vci 0] [(0,(tm 14)),(1,(tm 15))]),o1 1 (sg 16)] 1 none) []
 (.seq (.region 2 [o1 18 (.build 31 [vci 0,vci 0] [] 1 [(0,(ic 2)),(1,(ic 0))]),o1 19 (.buildSlice 0 22 31 kP 1 [vci 0,vci 0] [(0,(tm 18))]),o1 20 (.call 13 [(ic 3),(tm 19)] [3,22] .freeze),mv 17 20,o1 21 (.extract (tm 17) 0),o1 22 (.extract (tm 17) 1),o1 2 (sg 21),o1 3 (sg 22)] 1 none) []
 (.seq (.region 3 [o1 24 (.build 31 [vci 0,vci 0] [] 1 [(0,(ic 0)),(1,(ic 1))]),o1 25 (.build 31 [vci 0,vci 0] [] 1 [(0,(ic 1)),(1,(ic 0))]),o1 26 (.buildSlice 0 22 31 kP 2 [vci 0,vci 0] [(0,(tm 24)),(1,(tm 25))]),o1 27 (.call 13 [(ic 2),(tm 26)] [3,22] .freeze),mv 23 27,o1 28 (.extract (tm 23) 0),o1 29 (.extract (tm 23) 1),o1 4 (sg 28),o1 5 (sg 29)] 1 none) []
 (.seq (.region 4 [o1 31 (.buildSlice 0 25 3 (.pr (.int .i64) .nil) 3 [vci 0] [(0,(ic 3)),(1,(ic 2)),(2,(ic 4))]),mv 32 1,o1 33 (cf 18 [31,32] [25,22]),mv 30 33,o1 34 (.extract (tm 30) 0),o1 35 (.extract (tm 30) 1),o1 6 (sg 34),o1 7 (sg 35)] 1 none) []
 (.seq (.region 5 [o1 37 (.buildSlice 0 25 3 (.pr (.int .i64) .nil) 3 [vci 0] [(0,(ic 3)),(1,(ic 2)),(2,(ic 4))]),mv 38 1,o1 39 (.call 20 [(tm 37),(tm 38),(ic 8)] [25,22,3] .freeze),mv 36 39,o1 40 (.extract (tm 36) 0),o1 41 (.extract (tm 36) 1),o1 8 (sg 40),o1 9 (sg 41)] 1 none) []
 (.seq (.region 6 [o1 43 (.buildSlice 0 25 3 (.pr (.int .i64) .nil) 3 [vci 0] [(0,(ic 3)),(1,(ic 2)),(2,(ic 4))]),mv 44 1,o1 45 (cs 22 [43,44] [25,22]),mv 42 45,o1 46 (.extract (tm 42) 0),o1 47 (.extract (tm 42) 1),o1 10 (sg 46),o1 11 (sg 47)] 1 none) []
 (.seq (.region 7 [o1 49 (.build 31 [vci 0,vci 0] [] 1 [(0,(ic 0)),(1,(ic 2))]),o1 50 (.build 31 [vci 0,vci 0] [] 1 [(0,(ic 0)),(1,(ic 1))]),o1 51 (.build 31 [vci 0,vci 0] [] 1 [(0,(ic 1)),(1,(ic 2))]),o1 52 (.build 31 [vci 0,vci 0] [] 1 [(0,(ic 0)),(1,(ic 1))]),o1 53 (.buildSlice 0 22 31 kP 4 [vci 0,vci 0] [(0,(tm 49)),(1,(tm 50)),(2,(tm 51)),(3,(tm 52))]),o1 54 (.call 24 [(ic 3),(tm 53)] [3,22] .freeze),mv 48 54,o1 55 (.extract (tm 48) 0),o1 56 (.extract (tm 48) 1),o1 12 (sg 55),o1 13 (sg 56)] 1 none) []
 (.seq (.region 8 [mv 57 2,o1 58 (.buildSlice 0 25 3 (.pr (.int .i64) .nil) 3 [vci 0] [(0,(ic 1)),(1,(ic 2)),(2,(ic 0))]),o1 59 (cs 15 [57,58] [25,25]),mv 60 59,og 61 (.move (tm 3)) 60 true,og 62 (bk .eql 26 61 0) 60 true,o1 63 (po 60 62),mv 64 63,og 65 (.move (tm 5)) 64 true,og 66 (bk .eql 26 65 20) 64 true,o1 67 (po 64 66),mv 68 67,og 69 (.move (tm 6)) 68 true,og 70 (.buildSlice 1 25 3 (.pr (.int .i64) .nil) 3 [vci 0] [(0,(ic 0)),(1,(ic 0)),(2,(ic 3))]) 68 true,og 71 (cs 15 [69,70] [25,25]) 68 true,o1 72 (po 68 71),mv 73 72,og 74 (.move (tm 7)) 73 true,og 75 (bk .eql 26 74 0) 73 true,o1 76 (po 73 75),mv 77 76,og 78 (.move (tm 8)) 77 true,og 79 (.buildSlice 2 25 3 (.pr (.int .i64) .nil) 3 [vci 0] [(0,(ic 1)),(1,(ic 2)),(2,(ic 4))]) 77 true,og 80 (cs 15 [78,79] [25,25]) 77 true,o1 81 (po 77 80),mv 82 81,og 83 (.move (tm 9)) 82 true,og 84 (bk .eql 26 83 0) 82 true,o1 85 (po 82 84),mv 86 85,og 87 (.move (tm 10)) 86 true,og 88 (bk .eql 3 87 7) 86 true,o1 89 (po 86 88),mv 90 89,og 91 (.move (tm 11)) 90 true,og 92 (bk .eql 26 91 0) 90 true,o1 93 (po 90 92),mv 94 93,og 95 (.move (tm 12)) 94 true,og 96 (.build 31 [vci 0,vci 0] [] 1 [(0,(ic 0)),(1,(ic 1))]) 94 true,og 97 (.build 31 [vci 0,vci 0] [] 1 [(0,(ic 1)),(1,(ic 2))]) 94 true,og 98 (.buildSlice 3 22 31 kP 2 [vci 0,vci 0] [(0,(tm 96)),(1,(tm 97))]) 94 true,og 99 (cs 26 [95,98] [22,22]) 94 true,o1 100 (po 94 99),mv 101 100,og 102 (.move (tm 13)) 101 true,og 103 (bk .eql 26 102 0) 101 true,o1 104 (po 101 103),mv 105 104,og 106 (.build 31 [vci 0,vci 0] [] 1 [(0,(ic 0)),(1,(ic 1))]) 105 true,og 107 (.build 31 [vci 0,vci 0] [] 1 [(0,(ic 1)),(1,(ic 2))]) 105 true,og 108 (.buildSlice 4 22 31 kP 2 [vci 0,vci 0] [(0,(tm 106)),(1,(tm 107))]) 105 true,og 109 (.call 16 [(ic 3),(tm 108),(ic 0),(ic 2)] [3,22,3,3] .snap) 105 true,o1 110 (po 105 109),o1 0 (sg 110)] 5 none) []
 (.ghost (5 :: (rl 7 5 [])) (.ret (rl 1 110 []))))))))))))⟩
def F243 : Option (Bool) :=
 (ob (F225 u 3 1 (rowsF 2 [(.i .i64 2),(.i .i64 0)])) fun x0 => (ob (F225 u 2 2 (rowsF 2 [(.i .i64 0),(.i .i64 1),(.i .i64 1),(.i .i64 0)])) fun x1 => (ob (F227 u 3 (rowsF 1 [(.i .i64 3),(.i .i64 2),(.i .i64 4)]) 2 (rowsF 2 [(.i .i64 0),(.i .i64 2),(.i .i64 1),(.i .i64 2)])) fun x2 => (ob (F241 u 3 (rowsF 1 [(.i .i64 3),(.i .i64 2),(.i .i64 4)]) 2 (rowsF 2 [(.i .i64 0),(.i .i64 2),(.i .i64 1),(.i .i64 2)]) 8) fun x3 => (ob (F236 u 3 (rowsF 1 [(.i .i64 3),(.i .i64 2),(.i .i64 4)]) 2 (rowsF 2 [(.i .i64 0),(.i .i64 2),(.i .i64 1),(.i .i64 2)])) fun x4 => (ob (F242 u 3 4 (rowsF 2 [(.i .i64 0),(.i .i64 2),(.i .i64 0),(.i .i64 1),(.i .i64 1),(.i .i64 2),(.i .i64 0),(.i .i64 1)])) fun x5 => (ob (F230 u x0.1 x0.2.1 3 (rowsF 1 [(.i .i64 1),(.i .i64 2),(.i .i64 0)])) fun x6 => (bif (x6 == true) then (bif ((x0.2.2 == 0) == true) then (bif ((x1.2.2 == 20) == true) then (ob (F230 u x2.1 x2.2.1 3 (rowsF 1 [(.i .i64 0),(.i .i64 0),(.i .i64 3)])) fun x7 => (bif (x7 == true) then (bif ((x2.2.2 == 0) == true) then (ob (F230 u x3.1 x3.2.1 3 (rowsF 1 [(.i .i64 1),(.i .i64 2),(.i .i64 4)])) fun x8 => (bif (x8 == true) then (bif ((x3.2.2 == 0) == true) then (bif ((x4.1 == 7) == true) then (bif ((x4.2 == 0) == true) then (ob (F240 u x5.1 x5.2.1 2 (rowsF 2 [(.i .i64 0),(.i .i64 1),(.i .i64 1),(.i .i64 2)])) fun x9 => (bif (x9 == true) then (bif ((x5.2.2 == 0) == true) then (ob (F232 u 3 2 (rowsF 2 [(.i .i64 0),(.i .i64 1),(.i .i64 1),(.i .i64 2)]) 0 2) fun xA => (some xA)) else (some false)) else (some false))) else (some false)) else (some false)) else (some false)) else (some false))) else (some false)) else (some false))) else (some false)) else (some false)) else (some false)))))))))
theorem e243 : evalF (C17 u) u A12 [] = ob (F243 u) fun t => some [.v (.b t)] := Eq.trans (b := (ob (F225 u 3 1 (rowsF 2 [(vi 2),(vi 0)])) fun x0 => (ob (F225 u 2 2 (rowsF 2 [(vi 0),(vi 1),(vi 1),(vi 0)])) fun x1 => (ob (F227 u 3 (rowsF 1 [(vi 3),(vi 2),(vi 4)]) 2 (rowsF 2 [(vi 0),(vi 2),(vi 1),(vi 2)])) fun x2 => (ob (F241 u 3 (rowsF 1 [(vi 3),(vi 2),(vi 4)]) 2 (rowsF 2 [(vi 0),(vi 2),(vi 1),(vi 2)]) 8) fun x3 => (ob (F236 u 3 (rowsF 1 [(vi 3),(vi 2),(vi 4)]) 2 (rowsF 2 [(vi 0),(vi 2),(vi 1),(vi 2)])) fun x4 => (ob (F242 u 3 4 (rowsF 2 [(vi 0),(vi 2),(vi 0),(vi 1),(vi 1),(vi 2),(vi 0),(vi 1)])) fun x5 => (ob (F230 u x0.1 x0.2.1 3 (rowsF 1 [(vi 1),(vi 2),(vi 0)])) fun x6 => (bif (x6 == true) then (bif ((x0.2.2 == 0) == true) then (bif ((x1.2.2 == 20) == true) then (ob (F230 u x2.1 x2.2.1 3 (rowsF 1 [(vi 0),(vi 0),(vi 3)])) fun x7 => (bif (x7 == true) then (bif ((x2.2.2 == 0) == true) then (ob (F230 u x3.1 x3.2.1 3 (rowsF 1 [(vi 1),(vi 2),(vi 4)])) fun x8 => (bif (x8 == true) then (bif ((x3.2.2 == 0) == true) then (bif ((x4.1 == 7) == true) then (bif ((x4.2 == 0) == true) then (ob (F240 u x5.1 x5.2.1 2 (rowsF 2 [(vi 0),(vi 1),(vi 1),(vi 2)])) fun x9 => (bif (x9 == true) then (bif ((x5.2.2 == 0) == true) then (ob (F232 u 3 2 (rowsF 2 [(vi 0),(vi 1),(vi 1),(vi 2)]) 0 2) fun xA => (some [.v (.b xA)])) else (some [.v (.b false)])) else (some [.v (.b false)]))) else (some [.v (.b false)])) else (some [.v (.b false)])) else (some [.v (.b false)])) else (some [.v (.b false)]))) else (some [.v (.b false)])) else (some [.v (.b false)]))) else (some [.v (.b false)])) else (some [.v (.b false)])) else (some [.v (.b false)])))))))))) (by kernel_rfl) (by
 simp only [F243,ob_bif,ob_ob,ob_none,ob_some])
def O243 : Ora := mkO q0 (fun x => F243 u) fun t => [.v (.b t)]
theorem d243 : DO (O243 u) (C17 u) 12 A12 := dO u (fun x => by exact e243 u)
def C18 : Oracle := (C17 u).add 12 (fun _ => true) (O243 u)
def A28v1 : AC := (.seq (.region 7 [mv 40 6,mv 41 7,o1 42 (bt .eql 3 40 41)] 0 none) []
 (.cond (tm 42)
 (.seq (.region 8 [o1 4 (sk 2)] 0 none) []
  (.ret (rl 0 4 (rl 5 38 []))))
 .skip))
def A28v2 : AC := (.region 3 [mv 12 5,o1 13 (bk .add 3 12 1),o1 5 (sg 13)] 0 none)
def A28v3 : AC := (.seq (.block 1
 (.seq (.region 4 [mv 14 1,mv 15 5,o1 16 (.indexAddr 22 31 2 (tm 14) (tm 15)),o1 17 (.indexAddrA 31 3 2 1 (tm 16) (ic 0)),o1 18 (lo 3 17),mv 19 1,mv 20 5,o1 21 (.indexAddr 22 31 2 (tm 19) (tm 20)),o1 22 (.indexAddrA 31 3 2 1 (tm 21) (ic 1)),o1 23 (lo 3 22),o1 6 (sg 18),o1 7 (sg 23)] 0 (some [[],[],[0,1],[0,1,2],(rl 0 4 []),[],[],[5,6],[5,6,7],(rl 5 4 []),(rl 0 5 []),(rl 0 11 [])])) []
  (.seq (.seq (.region 5 [mv 24 6,o1 25 (bk .lss 3 24 0),mv 26 25,og 27 (.move (tm 6)) 26 false,og 28 (.move (tm 0)) 26 false,og 29 (bt .geq 3 27 28) 26 false,o1 30 (pa 26 29),mv 31 30,og 32 (.move (tm 7)) 31 false,og 33 (bk .lss 3 32 0) 31 false,o1 34 (pa 31 33),mv 35 34,og 36 (.move (tm 7)) 35 false,og 37 (.move (tm 0)) 35 false,og 38 (bt .geq 3 36 37) 35 false,o1 39 (pa 35 38)] 0 none) []
  (.cond (tm 39)
  (.seq (.region 6 [o1 4 (sk 9)] 0 none) []
   (.ret (rl 0 4 (rl 5 38 []))))
  .skip)) (4 :: (rl 24 16 []))
  A28v1))) (4 :: 6 :: 7 :: (rl 14 29 []))
 A28v2)
def A28v4 : AC := (.seq (.seq (.region 2 [mv 8 5,mv 9 1,o1 10 (.len 22 false (tm 9)),o1 11 (bt .lss 3 8 10)] 0 none) []
 (.cond (tm 11)
 .skip
 (.exit 0 (rl 0 43 [])))) (rl 8 4 [])
 A28v3)
def A28v5 : AC := (.seq (.region 9 [o1 4 (sk 0)] 0 none) []
 (.ret (rl 0 4 (rl 5 38 []))))
def A28 : AF := ⟨43,[.tmp 4],
 (.seq (.region 0 [o1 4 (sk 0)] 0 none) []
 (.seq (.seq (.region 1 [o1 5 (sk 0)] 0 none) []
 (.block 0
 (.loop [] (2 :: 3 :: 4 :: (rl 6 37 []))
  A28v4))) (rl 4 39 [])
 A28v5))⟩
def N228v1 : St → Option St := nN 0 (2 :: 3 :: 4 :: (rl 6 37 []))
def s228v0 : St := ⟨(vxi i0 :: .x (.c (ro kP n0 f0)) :: (us 3 (vxi i1 :: (us 37 [])))),[]⟩
def s228v1 : St := ⟨(us 4 (vxi i0 :: (us 38 []))),[]⟩
def s228v2 : St := ⟨(us 43 []),[]⟩
def L228v1 {ρ : Type} (u : Nat) (x0 : Int) (x1 : Nat) (x2 : FF) : Nat → Int → (Int → Option ρ) → (Option ρ) → Option ρ
 | 0,_,_,_ => none
 | m + 1,x3,k0,k1 =>
  (bif (decide (x3 < (Int.ofNat x1))) then (bif (inb x3 x1) then (bif (inb x3 x1) then (bif ((decide ((x2 x3.toNat 0).int < 0)) == false) then (bif ((decide ((x2 x3.toNat 0).int ≥ x0)) == false) then (bif ((decide ((x2 x3.toNat 1).int < 0)) == false) then (bif (decide ((x2 x3.toNat 1).int ≥ x0)) then (k0 9) else (bif ((x2 x3.toNat 0).int == (x2 x3.toNat 1).int) then (k0 2) else (L228v1 u x0 x1 x2 m (w64 (x3 + 1)) k0 k1))) else (k0 9)) else (k0 9)) else (k0 9)) else none) else none) else k1)
theorem nl228v1 : ∀ (m : Nat) (x0 : Int) (k0 : Int → Option ρ) (k1 : Option ρ),ob (L228v1 u i0 n0 f0 m x0 k0 k1) ng = L228v1 u i0 n0 f0 m x0 (fun x1 => ob (k0 x1) ng) (ob k1 ng)
 | 0,_,_,_ => rfl
 | m + 1,x0,k0,k1 => by
  simp only [L228v1,ob_bif,ob_ob,ob_none,nl228v1 m]
theorem r228v1 :
  loopH (eB A28v4 (C18 u) u) N228v1 (m + 1) (s228v0 n0 f0 i0 i1) k =
  (bif (decide (i1 < (Int.ofNat n0))) then (bif (inb i1 n0) then (bif (inb i1 n0) then (bif ((decide ((f0 i1.toNat 0).int < 0)) == false) then (bif ((decide ((f0 i1.toNat 0).int ≥ i0)) == false) then (bif ((decide ((f0 i1.toNat 1).int < 0)) == false) then (bif (decide ((f0 i1.toNat 1).int ≥ i0)) then (k .ret (s228v1 9)) else (bif ((f0 i1.toNat 0).int == (f0 i1.toNat 1).int) then (k .ret (s228v1 2)) else (loopH (eB A28v4 (C18 u) u) N228v1 m (s228v0 n0 f0 i0 (w64 (i1 + 1))) k))) else (k .ret (s228v1 9))) else (k .ret (s228v1 9))) else (k .ret (s228v1 9))) else none) else none) else (k (.exit 0) s228v2)) := by kernel_rfl
theorem q228v1 : ∀ (m : Nat) (x0 : Int),
  loopH (eB A28v4 (C18 u) u) N228v1 m (s228v0 n0 f0 i0 x0) k = L228v1 u i0 n0 f0 m x0 (fun x1 => k .ret (s228v1 x1)) (k (.exit 0) s228v2)
 | 0,_ => rfl
 | m + 1,x0 => by
  rw [r228v1]
  simp only [L228v1,q228v1 m]
def F228 (x0 : Int) (x1 : Nat) (x2 : FF) : Option (Int) :=
 (L228v1 u x0 x1 x2 u 0
  (fun x3 => (some x3))
  (some 0))
def s228v3 : St := ⟨[vxi i0,.x (.c (ro kP n0 f0)),uu,uu,vxi 0,vxi 0,uu,uu,uu,uu,uu,uu,uu,uu,uu,uu,uu,uu,uu,uu,uu,uu,uu,uu,uu,uu,uu,uu,uu,uu,uu,uu,uu,uu,uu,uu,uu,uu,uu,uu,uu,uu,uu],[]⟩
theorem t228v1 :
  loopN (eB A28v4 (C18 u) u) N228v1 u (s228v3 n0 f0 i0) k =
  L228v1 u i0 n0 f0 u 0 (fun x0 => k .ret (s228v1 x0)) (k (.exit 0) s228v2) :=
 Eq.trans (loopN_at (by kernel_rfl)) (q228v1 ..)
theorem g228v2 :
  (kBlk 0 (kSeq (C18 u) u (rl 4 39 []) A28v5 (finish A28))) .ret (s228v1 i0) =
  (some [.v (vi i0)]) := by kernel_rfl
theorem g228v3 :
  (kBlk 0 (kSeq (C18 u) u (rl 4 39 []) A28v5 (finish A28))) (.exit 0) s228v2 =
  (some [.v (vi 0)]) := by kernel_rfl
theorem e228 : evalF (C18 u) u A28 [.v (vi i0),.v (ro kP n0 f0)] = ob (F228 u i0 n0 f0) fun t => some [.v (vi t)] := Eq.trans (b := (loopN (eB A28v4 (C18 u) u) N228v1 u (s228v3 n0 f0 i0) (kBlk 0 (kSeq (C18 u) u (rl 4 39 []) A28v5 (finish A28))))) (by kernel_rfl) (by
 simp only [F228,ob_bif,ob_ob,ob_none,ob_some,nl228v1,t228v1,g228v2,g228v3])
def O228 : Ora := mkO (qc (av ci) (q1 (av (cL kP)))) (fun x => F228 u x.1 x.2.1 x.2.2) fun t => [.v (vi t)]
theorem d228 : DO (O228 u) (C18 u) 28 A28 := dO u (fun x => by exact e228 u x.2.1 x.2.2 x.1)
def C19 : Oracle := (C18 u).add 28 (fun _ => true) (O228 u)
def A14v1 : AC := (.region 12 [mv 37 10,o1 38 (bk .add 3 37 1),o1 10 (sg 38)] 0 none)
def A14v2 : AC := (.seq (.block 3
 (.seq (.region 13 [mv 39 8,mv 40 1,mv 41 10,o1 42 (.indexAddr 22 31 2 (tm 40) (tm 41)),o1 43 (.indexAddrA 31 3 2 1 (tm 42) (ic 0)),o1 44 (lo 3 43),o1 45 (.indexAddr 42 4 1 (tm 39) (tm 44)),o1 46 (lo 4 45),o1 47 (.unOp .not 4 (tm 46))] 0 none) []
  (.cond (tm 47)
  (.region 14 [mv 48 9,mv 49 1,mv 50 10,o1 51 (.indexAddr 22 31 2 (tm 49) (tm 50)),o1 52 (.indexAddrA 31 3 2 1 (tm 51) (ic 1)),o1 53 (lo 3 52),o1 54 (.indexAddr 42 4 1 (tm 48) (tm 53)),o0 (.store 4 1 (tm 54) (.const (.bool true)))] 0 none)
  .skip))) (rl 39 16 [])
 A14v1)
def A14v3 : AC := (.seq (.seq (.region 11 [mv 33 10,mv 34 1,o1 35 (.len 22 false (tm 34)),o1 36 (bt .lss 3 33 35)] 0 none) []
 (.cond (tm 36)
 .skip
 (.exit 2 (rl 2 5 (rl 10 74 []))))) (rl 33 4 [])
 A14v2)
def A14v4 : AC := (.region 18 [mv 59 12,o1 60 (bk .sub 3 59 1),o1 12 (sg 60)] 0 none)
def A14v5 : AC := (.seq (.block 5
 (.seq (.region 19 [mv 61 8,mv 62 12,o1 63 (.indexAddr 42 4 1 (tm 61) (tm 62)),o1 64 (lo 4 63),o1 65 (.unOp .not 4 (tm 64)),mv 66 65,og 67 (.move (tm 9)) 66 true,og 68 (.move (tm 12)) 66 true,og 69 (.indexAddr 42 4 1 (tm 67) (tm 68)) 66 true,og 70 (lo 4 69) 66 true,og 71 (.unOp .not 4 (tm 70)) 66 true,o1 72 (po 66 71)] 0 none) []
  (.cond (tm 72)
  (.region 20 [mv 73 12,o1 11 (sg 73)] 0 none)
  .skip))) (rl 61 13 [])
 A14v4)
def A14v6 : AC := (.seq (.seq (.region 17 [mv 57 12,o1 58 (bk .geq 3 57 0)] 0 none) []
 (.cond (tm 58)
 .skip
 (.exit 4 (rl 2 5 (9 :: 10 :: (rl 12 72 [])))))) [57,58]
 A14v5)
def A14v7 : AC := (.seq (.region 23 [mv 76 8,mv 77 11,o1 78 (.indexAddr 42 4 1 (tm 76) (tm 77)),o0 (.store 4 1 (tm 78) (.const (.bool true)))] 0 none) []
 (.region 24 [mv 79 7,mv 80 11,o1 81 (.buildSlice 0 25 3 (.pr (.int .i64) .nil) 1 [vci 0] [(0,(tm 80))]),o1 82 (.append 1 25 3 (.pr (.int .i64) .nil) 8 (tm 79) (tm 81)),o1 7 (sg 82)] 2 none))
def A14v8 : AC := (.seq (.seq (.region 21 [mv 74 11,o1 75 (bk .lss 3 74 0)] 0 none) []
 (.cond (tm 75)
 (.seq (.region 22 [o1 4 (.assign (.const (.slice none 0 0))),o1 5 (sk 20)] 0 none) []
  (.ret (rl 0 4 (rl 6 78 []))))
 .skip)) [4,5,74,75]
 A14v7)
def A14v9 : AC := (.seq (.region 15 [o1 11 (sk (-1))] 0 none) []
 (.seq (.seq (.region 16 [mv 55 0,o1 56 (bk .sub 3 55 1),o1 12 (sg 56)] 0 none) []
 (.block 4
 (.loop [] (rl 2 5 (10 :: (rl 13 71 [])))
  A14v6))) (12 :: (rl 55 19 []))
 A14v8))
def A14v10 : AC := (.block 1
 (.seq (.region 9 [mv 31 0,o1 32 (.makeSlice 0 42 4 (.pr .bool .nil) 1 [(.b false)] (tm 31) (tm 31)),o1 9 (sg 32)] 1 none) []
  (.seq (.seq (.region 10 [o1 10 (sk 0)] 0 none) []
  (.block 2
  (.loop [] (rl 2 5 (rl 11 73 []))
   A14v3))) (10 :: (rl 33 22 []))
  A14v9)))
def A14v11 : AC := (.seq (.seq (.region 8 [mv 27 7,o1 28 (.len 25 false (tm 27)),mv 29 0,o1 30 (bt .lss 3 28 29)] 0 none) []
 (.cond (tm 30)
 .skip
 (.exit 0 (rl 0 7 (rl 8 76 []))))) (rl 27 4 [])
 A14v10)
def A14v12 : AC := (.seq (.region 25 [mv 83 7,o1 4 (sg 83),o1 5 (sk 0)] 0 none) []
 (.ret (rl 0 4 (rl 6 78 []))))
def A14v13 : AC := (.seq (.region 6 [o1 7 (.assign (.const (.slice none 0 0)))] 0 none) []
 (.seq (.region 7 [mv 25 0,o1 26 (.makeSlice 0 42 4 (.pr .bool .nil) 1 [(.b false)] (tm 25) (tm 25)),o1 8 (sg 26)] 1 none) []
 (.seq (.block 0
 (.loop [.slot 7 (.pr (.int .i64) .nil)] (rl 2 5 (rl 9 75 []))
  A14v11)) (4 :: 5 :: (rl 9 4 (rl 27 56 [])))
 A14v12)))
def A14v14 : AC := (.seq (.seq (.region 3 [mv 19 0,mv 20 1,o1 21 (cs 28 [19,20] [3,22]),o1 6 (sg 21)] 0 none) []
 (.seq (.region 4 [mv 22 6,o1 23 (bk .neq 26 22 0)] 0 none) []
 (.cond (tm 23)
 (.seq (.region 5 [mv 24 6,o1 4 (.assign (.const (.slice none 0 0))),o1 5 (sg 24)] 0 none) []
  (.ret (rl 0 4 (rl 6 78 []))))
 .skip))) (4 :: 5 :: 6 :: (rl 19 6 []))
 A14v13)
def A14 : AF := ⟨84,[.tmp 4,.tmp 5],
 (.seq (.region 0 [o1 4 (.assign (.const (.slice none 0 0))),o1 5 (sk 0)] 0 none) []
 (.seq (.seq (.region 1 [mv 13 0,o1 14 (bk .lss 3 13 0),mv 15 14,og 16 (.move (tm 0)) 15 false,og 17 (bk .gtr 3 16 256) 15 false,o1 18 (pa 15 17)] 0 none) []
 (.cond (tm 18)
 (.seq (.region 2 [o1 4 (.assign (.const (.slice none 0 0))),o1 5 (sk 9)] 0 none) []
  (.ret (rl 0 4 (rl 6 78 []))))
 .skip)) (4 :: 5 :: (rl 13 6 []))
 A14v14))⟩
def N229v3 : St → Option St := nN 3 (rl 2 5 (rl 11 73 []))
def s229v0 : St := ⟨(vxi i0 :: .x (.c (ro kP n0 f0)) :: (us 5 (.x (.own 1 0 n1) :: .x (.own 0 0 n2) :: .x (.own 2 0 n3) :: vxi i1 :: (us 73 [])))),[.arr (.pr .bool .nil) n2 f1,.arr (.pr (.int .i64) .nil) n1 f2,.arr (.pr .bool .nil) n3 f3]⟩
def s229v1 : St := ⟨(vxi i0 :: .x (.c (ro kP n0 f0)) :: (us 5 (.x (.own 1 0 n1) :: .x (.own 0 0 n2) :: .x (.own 2 0 n3) :: (us 74 [])))),[.arr (.pr .bool .nil) n2 f1,.arr (.pr (.int .i64) .nil) n1 f2,.arr (.pr .bool .nil) n3 f3]⟩
def L229v3 {ρ : Type} (u : Nat) (x0 : Int) (x1 : Nat) (x2 : FF) (x3 x4 x5 : Nat) (x6 x7 : FF) : Nat → Int → FF → (FF → Option ρ) → Option ρ
 | 0,_,_,_ => none
 | m + 1,x8,x9,k0 =>
  (bif (decide (x8 < (Int.ofNat x1))) then (bif (inb x8 x1) then (bif (inb (x2 x8.toNat 0).int x4) then (bif (!(CV.bool (x6 (0 + (Int.toNat (x2 x8.toNat 0).int)) 0))) then (bif (inb x8 x1) then (bif (inb (x2 x8.toNat 1).int x5) then (L229v3 u x0 x1 x2 x3 x4 x5 x6 x7 m (w64 (x8 + 1)) (setF x9 (0 + (Int.toNat (x2 x8.toNat 1).int)) 0 1 (listF [(.b true)])) k0) else none) else none) else (L229v3 u x0 x1 x2 x3 x4 x5 x6 x7 m (w64 (x8 + 1)) x9 k0)) else none) else none) else (k0 x9))
theorem nl229v3 : ∀ (m : Nat) (x0 : Int) (x1 : FF) (k0 : FF → Option ρ),ob (L229v3 u i0 n0 f0 n1 n2 n3 f1 f2 m x0 x1 k0) ng = L229v3 u i0 n0 f0 n1 n2 n3 f1 f2 m x0 x1 (fun x2 => ob (k0 x2) ng)
 | 0,_,_,_ => rfl
 | m + 1,x0,x1,k0 => by
  simp only [L229v3,ob_bif,ob_ob,ob_none,nl229v3 m]
theorem r229v3 :
  loopH (eB A14v3 (C19 u) u) N229v3 (m + 1) (s229v0 n0 n1 n2 n3 f0 f1 f2 f3 i0 i1) k =
  (bif (decide (i1 < (Int.ofNat n0))) then (bif (inb i1 n0) then (bif (inb (f0 i1.toNat 0).int n2) then (bif (!(CV.bool (f1 (0 + (Int.toNat (f0 i1.toNat 0).int)) 0))) then (bif (inb i1 n0) then (bif (inb (f0 i1.toNat 1).int n3) then (loopH (eB A14v3 (C19 u) u) N229v3 m (s229v0 n0 n1 n2 n3 f0 f1 f2 (setF f3 (0 + (Int.toNat (f0 i1.toNat 1).int)) 0 1 (listF [(.b true)])) i0 (w64 (i1 + 1))) k) else none) else none) else (loopH (eB A14v3 (C19 u) u) N229v3 m (s229v0 n0 n1 n2 n3 f0 f1 f2 f3 i0 (w64 (i1 + 1))) k)) else none) else none) else (k (.exit 2) (s229v1 n0 n1 n2 n3 f0 f1 f2 f3 i0))) := by kernel_rfl
theorem q229v3 : ∀ (m : Nat) (x0 : Int) (x1 : FF),
  loopH (eB A14v3 (C19 u) u) N229v3 m (s229v0 n0 n1 n2 n3 f0 f1 f2 x1 i0 x0) k = L229v3 u i0 n0 f0 n1 n2 n3 f1 f2 m x0 x1 (fun x2 => k (.exit 2) (s229v1 n0 n1 n2 n3 f0 f1 f2 x2 i0))
 | 0,_,_ => rfl
 | m + 1,x0,x1 => by
  rw [r229v3]
  simp only [L229v3,q229v3 m]
def N229v4 : St → Option St := nN 3 (rl 2 5 (10 :: (rl 13 71 [])))
def s229v2 : St := ⟨(vxi i0 :: .x (.c (ro kP n0 f0)) :: (us 5 (.x (.own 1 0 n1) :: .x (.own 0 0 n2) :: .x (.own 2 0 n3) :: .u :: vxi i1 :: vxi i2 :: (us 71 [])))),[.arr (.pr .bool .nil) n2 f1,.arr (.pr (.int .i64) .nil) n1 f2,.arr (.pr .bool .nil) n3 f3]⟩
def s229v3 : St := ⟨(vxi i0 :: .x (.c (ro kP n0 f0)) :: (us 5 (.x (.own 1 0 n1) :: .x (.own 0 0 n2) :: .u :: .u :: vxi i1 :: (us 72 [])))),[.arr (.pr .bool .nil) n2 f1,.arr (.pr (.int .i64) .nil) n1 f2,.arr (.pr .bool .nil) n3 f3]⟩
def L229v4 {ρ : Type} (u : Nat) (x0 : Int) (x1 : Nat) (x2 : FF) (x3 x4 x5 : Nat) (x6 x7 x8 : FF) : Nat → Int → Int → (Int → Option ρ) → Option ρ
 | 0,_,_,_ => none
 | m + 1,x9,xA,k0 =>
  (bif (decide (xA ≥ 0)) then (bif (inb xA x4) then (bif ((!(x6 (0 + xA.toNat) 0).bool) == true) then (bif (inb xA x5) then (bif (!(x8 (0 + xA.toNat) 0).bool) then (L229v4 u x0 x1 x2 x3 x4 x5 x6 x7 x8 m xA (w64 (xA - 1)) k0) else (L229v4 u x0 x1 x2 x3 x4 x5 x6 x7 x8 m x9 (w64 (xA - 1)) k0)) else none) else (L229v4 u x0 x1 x2 x3 x4 x5 x6 x7 x8 m x9 (w64 (xA - 1)) k0)) else none) else (k0 x9))
theorem nl229v4 : ∀ (m : Nat) (x0 x1 : Int) (k0 : Int → Option ρ),ob (L229v4 u i0 n0 f0 n1 n2 n3 f1 f2 f3 m x0 x1 k0) ng = L229v4 u i0 n0 f0 n1 n2 n3 f1 f2 f3 m x0 x1 (fun x2 => ob (k0 x2) ng)
 | 0,_,_,_ => rfl
 | m + 1,x0,x1,k0 => by
  simp only [L229v4,ob_bif,ob_ob,ob_none,nl229v4 m]
theorem r229v4 :
  loopH (eB A14v6 (C19 u) u) N229v4 (m + 1) (s229v2 n0 n1 n2 n3 f0 f1 f2 f3 i0 i1 i2) k =
  (bif (decide (i2 ≥ 0)) then (bif (inb i2 n2) then (bif ((!(f1 (0 + i2.toNat) 0).bool) == true) then (bif (inb i2 n3) then (bif (!(f3 (0 + i2.toNat) 0).bool) then (loopH (eB A14v6 (C19 u) u) N229v4 m (s229v2 n0 n1 n2 n3 f0 f1 f2 f3 i0 i2 (w64 (i2 - 1))) k) else (loopH (eB A14v6 (C19 u) u) N229v4 m (s229v2 n0 n1 n2 n3 f0 f1 f2 f3 i0 i1 (w64 (i2 - 1))) k)) else none) else (loopH (eB A14v6 (C19 u) u) N229v4 m (s229v2 n0 n1 n2 n3 f0 f1 f2 f3 i0 i1 (w64 (i2 - 1))) k)) else none) else (k (.exit 4) (s229v3 n0 n1 n2 n3 f0 f1 f2 f3 i0 i1))) := by kernel_rfl
theorem q229v4 : ∀ (m : Nat) (x0 x1 : Int),
  loopH (eB A14v6 (C19 u) u) N229v4 m (s229v2 n0 n1 n2 n3 f0 f1 f2 f3 i0 x0 x1) k = L229v4 u i0 n0 f0 n1 n2 n3 f1 f2 f3 m x0 x1 (fun x2 => k (.exit 4) (s229v3 n0 n1 n2 n3 f0 f1 f2 f3 i0 x2))
 | 0,_,_ => rfl
 | m + 1,x0,x1 => by
  rw [r229v4]
  simp only [L229v4,q229v4 m]
def N229v5 : St → Option St := nN 2 (rl 2 5 (rl 9 75 []))
def s229v4 : St := ⟨(vxi i0 :: .x (.c (ro kP n0 f0)) :: (us 5 (.x (.own 1 0 n1) :: .x (.own 0 0 n2) :: (us 75 [])))),[.arr (.pr .bool .nil) n2 f1,.arr (.pr (.int .i64) .nil) n1 f2]⟩
def s229v5 : St := ⟨(us 4 (.x (vcn) :: vxi 20 :: (us 78 []))),[.arr (.pr .bool .nil) n0 f0,.arr (.pr (.int .i64) .nil) n1 f1,.arr (.pr .bool .nil) i0.toNat f2]⟩
def s229v6 : St := ⟨(us 7 (.x (.own 1 0 n0) :: (us 76 []))),[.arr (.pr .bool .nil) n1 f0,.arr (.pr (.int .i64) .nil) n0 f1]⟩
def L229v5 {ρ : Type} (u : Nat) (x0 : Int) (x1 : Nat) (x2 : FF) (x3 : Nat) : Nat → Nat → FF → FF → (FF → Nat → FF → FF → Option ρ) → (Nat → FF → FF → Option ρ) → Option ρ
 | 0,_,_,_,_,_ => none
 | m + 1,x4,x5,x6,k0,k1 =>
  (bif (decide ((Int.ofNat x4) < x0)) then (bif (decide (0 ≤ x0) && decide (x0 ≤ x0) && decide (x0 ≤ 1073741824) && true) then (L229v3 u x0 x1 x2 x4 x3 x0.toNat x5 x6 u 0 (fun _ j => listF [(.b false)] j)
  (fun x7 => (L229v4 u x0 x1 x2 x4 x3 x0.toNat x5 x6 x7 u (-1) (w64 (x0 - 1))
  (fun x8 => (bif (decide (x8 < 0)) then (k0 x5 x4 x6 x7) else (bif (inb x8 x3) then (bif (Nat.ble (x4 + 1) 1073741824) then (L229v5 u x0 x1 x2 x3 m (x4 + 1) (setF x5 (0 + x8.toNat) 0 1 (listF [(.b true)])) (joinF x4 x6 (rowsF 1 [(.i .i64 x8)])) k0 k1) else none) else none)))))) else none) else (k1 x4 x5 x6))
theorem nl229v5 : ∀ (m : Nat) (x0 : Nat) (x1 x2 : FF) (k0 : FF → Nat → FF → FF → Option ρ) (k1 : Nat → FF → FF → Option ρ),ob (L229v5 u i0 n0 f0 n1 m x0 x1 x2 k0 k1) ng = L229v5 u i0 n0 f0 n1 m x0 x1 x2 (fun x3 x4 x5 x6 => ob (k0 x3 x4 x5 x6) ng) (fun x7 x8 x9 => ob (k1 x7 x8 x9) ng)
 | 0,_,_,_,_,_ => rfl
 | m + 1,x0,x1,x2,k0,k1 => by
  simp only [L229v5,ob_bif,ob_ob,ob_none,nl229v5 m,nl229v3,nl229v4]
def s229v7 : St := ⟨(vxi i0 :: .x (.c (ro kP n0 f0)) :: (us 5 (.x (.own 1 0 n1) :: .x (.own 0 0 n2) :: .x (.own 2 0 i0.toNat) :: vxi 0 :: (us 20 (vxi i0 :: .x (.own 2 0 i0.toNat) :: (us 51 [])))))),[.arr (.pr .bool .nil) n2 f1,.arr (.pr (.int .i64) .nil) n1 f2,.arr (.pr .bool .nil) i0.toNat (fun _ j => listF [(.b false)] j)]⟩
theorem r229v5 :
  loopH (eB A14v11 (C19 u) u) N229v5 (m + 1) (s229v4 n0 n2 n1 f0 f1 f2 i0) k =
  (bif (decide ((Int.ofNat n2) < i0)) then (bif (decide (0 ≤ i0) && decide (i0 ≤ i0) && decide (i0 ≤ 1073741824) && true) then (loopN (eB A14v3 (C19 u) u) N229v3 u (s229v7 n0 n2 n1 f0 f1 f2 i0) (kBlk 2 (kSeq (C19 u) u (10 :: (rl 33 22 [])) A14v9 (kBlk 1 (kLoop (eB A14v11 (C19 u) u) N229v5 m k))))) else none) else (k (.exit 0) (s229v6 n2 n1 f1 f2))) := by kernel_rfl
theorem t229v1 :
  loopN (eB A14v3 (C19 u) u) N229v3 u (s229v7 n0 n1 n2 f0 f1 f2 i0) k =
  L229v3 u i0 n0 f0 n1 n2 i0.toNat f1 f2 u 0 (fun _ j => listF [(.b false)] j) (fun x0 => k (.exit 2) (s229v1 n0 n1 n2 i0.toNat f0 f1 f2 x0 i0)) :=
 Eq.trans (loopN_at (by kernel_rfl)) (q229v3 ..)
def s229v8 : St := ⟨(vxi i0 :: .x (.c (ro kP n0 f0)) :: (us 5 (.x (.own 1 0 n1) :: .x (.own 0 0 n2) :: .x (.own 2 0 i0.toNat) :: .u :: vxi (-1) :: vxi (w64 (i0 - 1)) :: (us 42 (vxi i0 :: vxi (w64 (i0 - 1)) :: (us 27 [])))))),[.arr (.pr .bool .nil) n2 f1,.arr (.pr (.int .i64) .nil) n1 f2,.arr (.pr .bool .nil) i0.toNat f3]⟩
theorem g229v2 :
  (kBlk 2 (kSeq (C19 u) u (10 :: (rl 33 22 [])) A14v9 (kBlk 1 (kLoop (eB A14v11 (C19 u) u) N229v5 m k)))) (.exit 2) (s229v1 n0 n1 n2 i0.toNat f0 f1 f2 f3 i0) =
  (loopN (eB A14v6 (C19 u) u) N229v4 u (s229v8 n0 n1 n2 f0 f1 f2 f3 i0) (kBlk 4 (kSeq (C19 u) u (12 :: (rl 55 19 [])) A14v8 (kBlk 1 (kLoop (eB A14v11 (C19 u) u) N229v5 m k))))) := by kernel_rfl
theorem t229v3 :
  loopN (eB A14v6 (C19 u) u) N229v4 u (s229v8 n0 n1 n2 f0 f1 f2 f3 i0) k =
  L229v4 u i0 n0 f0 n1 n2 i0.toNat f1 f2 f3 u (-1) (w64 (i0 - 1)) (fun x0 => k (.exit 4) (s229v3 n0 n1 n2 i0.toNat f0 f1 f2 f3 i0 x0)) :=
 Eq.trans (loopN_at (by kernel_rfl)) (q229v4 ..)
theorem g229v4 :
  (kBlk 4 (kSeq (C19 u) u (12 :: (rl 55 19 [])) A14v8 (kBlk 1 (kLoop (eB A14v11 (C19 u) u) N229v5 m k)))) (.exit 4) (s229v3 n0 n1 n2 i0.toNat f0 f1 f2 f3 i0 i1) =
  (bif (decide (i1 < 0)) then (k .ret (s229v5 n2 n1 f1 f2 f3 i0)) else (bif (inb i1 n2) then (bif (Nat.ble (n1 + 1) 1073741824) then (loopH (eB A14v11 (C19 u) u) N229v5 m (s229v4 n0 (n1 + 1) n2 f0 (setF f1 (0 + i1.toNat) 0 1 (listF [(.b true)])) (joinF n1 f2 (rowsF 1 [(vi i1)])) i0) k) else none) else none)) := by kernel_rfl
theorem q229v5 : ∀ (m : Nat) (x0 : Nat) (x1 x2 : FF),
  loopH (eB A14v11 (C19 u) u) N229v5 m (s229v4 n0 x0 n1 f0 x1 x2 i0) k = L229v5 u i0 n0 f0 n1 m x0 x1 x2 (fun x3 x4 x5 x6 => k .ret (s229v5 n1 x4 x3 x5 x6 i0)) (fun x7 x8 x9 => k (.exit 0) (s229v6 x7 n1 x8 x9))
 | 0,_,_,_ => rfl
 | m + 1,x0,x1,x2 => by
  rw [r229v5]
  simp only [L229v5,q229v5 m,t229v1,g229v2,t229v3,g229v4]
def FT229 (x0 : Int) (x1 : Nat) (x2 : FF) : Option (Bool × Nat × FF × Int) :=
 (bif ((decide (x0 < 0)) == false) then (bif (decide (x0 > 256)) then (some (true,0,(fun _ _ => .any),9)) else (ob (F228 u x0 x1 x2) fun x3 => (bif (x3 != 0) then (some (true,0,(fun _ _ => .any),x3)) else (bif (decide (0 ≤ x0) && decide (x0 ≤ x0) && decide (x0 ≤ 1073741824) && true) then (L229v5 u x0 x1 x2 x0.toNat u 0 (fun _ j => listF [(.b false)] j) (fun _ _ => .any)
  (fun x4 x5 x6 x7 => (some (true,0,(fun _ _ => .any),20)))
  (fun x8 x9 xA => (some (false,x8,xA,0)))) else none)))) else (some (true,0,(fun _ _ => .any),9)))
def s229v9 : St := ⟨(vxi i0 :: .x (.c (ro kP n0 f0)) :: uu :: uu :: (us 3 (.x (.own 1 0 0) :: .x (.own 0 0 i0.toNat) :: uu :: uu :: uu :: uu :: (us 12 [vxi i0,.x (.own 0 0 i0.toNat),uu,uu,uu,uu,uu,uu,uu,uu,uu,uu,uu,uu,uu,uu,uu,uu,uu,uu,uu,uu,uu,uu,uu,uu,uu,uu,uu,uu,uu,uu,uu,uu,uu,uu,uu,uu,uu,uu,uu,uu,uu,uu,uu,uu,uu,uu,uu,uu,uu,uu,uu,uu,uu,uu,uu,uu,uu])))),[.arr (.pr .bool .nil) i0.toNat (fun _ j => listF [(.b false)] j),.arr (.pr (.int .i64) .nil) 0 nilF]⟩
theorem t229v5 :
  loopN (eB A14v11 (C19 u) u) N229v5 u (s229v9 n0 f0 i0) k =
  L229v5 u i0 n0 f0 i0.toNat u 0 (fun _ j => listF [(.b false)] j) nilF (fun x0 x1 x2 x3 => k .ret (s229v5 i0.toNat x1 x0 x2 x3 i0)) (fun x4 x5 x6 => k (.exit 0) (s229v6 x4 i0.toNat x5 x6)) :=
 Eq.trans (loopN_at (by kernel_rfl)) (q229v5 ..)
theorem g229v6 :
  (kBlk 0 (kSeq (C19 u) u (4 :: 5 :: (rl 9 4 (rl 27 56 []))) A14v12 (finish A14))) .ret (s229v5 i0.toNat n0 f0 f1 f2 i0) =
  (some [.v (.ro true .nil 0 nilF),.v (vi 20)]) := by kernel_rfl
theorem g229v7 :
  (kBlk 0 (kSeq (C19 u) u (4 :: 5 :: (rl 9 4 (rl 27 56 []))) A14v12 (finish A14))) (.exit 0) (s229v6 n0 i0.toNat f0 f1) =
  (some [.v (ro (.pr (.int .i64) .nil) n0 f1),.v (vi 0)]) := by kernel_rfl
theorem e229 : evalF (C19 u) u A14 [.v (vi i0),.v (ro kP n0 f0)] = ob (FT229 u i0 n0 f0) fun t => some (bif t.1 then [.v (.ro true .nil 0 nilF),.v (vi t.2.2.2)] else [.v (ro (.pr (.int .i64) .nil) t.2.1 t.2.2.1),.v (vi 0)]) := Eq.trans (b := (bif ((decide (i0 < 0)) == false) then (bif (decide (i0 > 256)) then (some [.v (.ro true .nil 0 nilF),.v (vi 9)]) else (ob (F228 u i0 n0 f0) fun x0 => (bif (x0 != 0) then (some [.v (.ro true .nil 0 nilF),.v (vi x0)]) else (bif (decide (0 ≤ i0) && decide (i0 ≤ i0) && decide (i0 ≤ 1073741824) && true) then (loopN (eB A14v11 (C19 u) u) N229v5 u (s229v9 n0 f0 i0) (kBlk 0 (kSeq (C19 u) u (4 :: 5 :: (rl 9 4 (rl 27 56 []))) A14v12 (finish A14)))) else none)))) else (some [.v (.ro true .nil 0 nilF),.v (vi 9)]))) (by kernel_rfl) (by
 simp only [FT229,ob_bif,ob_ob,ob_none,ob_some,nl229v5,t229v5,g229v6,g229v7,cond_true,cond_false])
def F229 (x0 : Int) (x1 : Nat) (x2 : FF) : Option (Nat × FF × Int) := ob (FT229 u x0 x1 x2) fun t => some (bif t.1 then (0,(fun _ _ => .any),t.2.2.2) else (t.2.1,t.2.2.1,0))
def O229 : Ora := mkO (qc (av ci) (q1 (av (cL kP)))) (fun x => F229 u x.1 x.2.1 x.2.2) fun t => [.v (ro (.pr (.int .i64) .nil) t.1 t.2.1),.v (vi t.2.2)]
theorem d229 : DO (O229 u) (C19 u) 14 A14 := dW u (fun x => by exact e229 u x.2.1 x.2.2 x.1) (fun _ => rfl) fun t => by
 obtain ⟨b,t⟩ := t
 cases b with
 | true => exact (.cons (WkA.v (Wk.ro (by rfl))) (.cons (WkA.v (Wk.refl _)) .nil))
 | false =>
  exact (.cons (WkA.v (Wk.refl _)) (.cons (WkA.v (Wk.refl _)) .nil))
def C20 : Oracle := (C19 u).add 14 (fun _ => true) (O229 u)
def A30v1 : AC := (.seq (.block 5
 (.region 16 [mv 59 7,mv 60 9,o1 61 (.indexAddr 46 42 1 (tm 59) (tm 60)),o1 62 (lo 42 61),mv 63 12,mv 64 7,mv 65 9,o1 66 (.indexAddr 46 42 1 (tm 64) (tm 65)),o1 67 (lo 42 66),mv 68 12,o1 69 (.indexAddr 42 4 1 (tm 67) (tm 68)),o1 70 (lo 4 69),mv 71 70,og 72 (.move (tm 7)) 71 false,og 73 (.move (tm 11)) 71 false,og 74 (.indexAddr 46 42 1 (tm 72) (tm 73)) 71 false,og 75 (lo 42 74) 71 false,og 76 (.move (tm 12)) 71 false,og 77 (.indexAddr 42 4 1 (tm 75) (tm 76)) 71 false,og 78 (lo 4 77) 71 false,o1 79 (pa 71 78),o1 80 (.indexAddr 42 4 1 (tm 62) (tm 63)),o0 (.store 4 1 (tm 80) (tm 79))] 0 (some [[],[],[0,1],[0,1,2],[],[],[],[5,6],[5,6,7],[],(rl 5 5 []),(rl 5 6 []),(rl 5 7 []),(rl 5 8 []),(rl 5 8 []),(rl 5 10 []),(rl 5 11 []),(rl 5 8 []),(rl 5 13 []),(rl 5 14 []),(rl 5 15 []),(rl 0 21 []),(rl 0 22 [])]))) []
 (.region 15 [mv 57 12,o1 58 (bk .add 3 57 1),o1 12 (sg 58)] 0 none))
def A30v2 : AC := (.seq (.seq (.region 14 [mv 54 12,mv 55 0,o1 56 (bt .lss 3 54 55)] 0 none) []
 (.cond (tm 56)
 .skip
 (.exit 4 (rl 3 4 (rl 11 71 []))))) [54,55,56]
 A30v1)
def A30v3 : AC := (.seq (.region 11 [mv 43 1,mv 44 10,o1 45 (.indexAddr 22 31 2 (tm 43) (tm 44)),o1 46 (.indexAddrA 31 3 2 1 (tm 45) (ic 1)),o1 47 (lo 3 46),o1 11 (sg 47)] 0 none) []
 (.seq (.region 12 [mv 48 7,mv 49 9,o1 50 (.indexAddr 46 42 1 (tm 48) (tm 49)),o1 51 (lo 42 50),mv 52 11,o1 53 (.indexAddr 42 4 1 (tm 51) (tm 52)),o0 (.store 4 1 (tm 53) (.const (.bool true)))] 0 none) []
 (.seq (.region 13 [o1 12 (sk 0)] 0 none) []
 (.block 4
 (.loop [] (rl 3 4 (rl 13 69 []))
  A30v2)))))
def A30v4 : AC := (.region 9 [mv 34 10,o1 35 (bk .add 3 34 1),o1 10 (sg 35)] 0 none)
def A30v5 : AC := (.seq (.block 3
 (.seq (.seq (.region 10 [mv 36 1,mv 37 10,o1 38 (.indexAddr 22 31 2 (tm 36) (tm 37)),o1 39 (.indexAddrA 31 3 2 1 (tm 38) (ic 0)),o1 40 (lo 3 39),mv 41 9,o1 42 (bt .neq 3 40 41)] 0 none) []
  (.cond (tm 42)
  (.exit 3 (rl 3 4 (rl 11 71 [])))
  .skip)) (rl 36 7 [])
  A30v3)) (11 :: 12 :: (rl 36 45 []))
 A30v4)
def A30v6 : AC := (.seq (.seq (.region 8 [mv 30 10,mv 31 1,o1 32 (.len 22 false (tm 31)),o1 33 (bt .lss 3 30 32)] 0 none) []
 (.cond (tm 33)
 .skip
 (.exit 2 (rl 3 4 (rl 9 73 []))))) (rl 30 4 [])
 A30v5)
def A30v7 : AC := (.region 4 [mv 19 8,o1 20 (bk .sub 3 19 1),o1 8 (sg 20)] 0 none)
def A30v8 : AC := (.seq (.block 1
 (.seq (.region 5 [mv 21 2,mv 22 8,o1 23 (.indexAddr 25 3 1 (tm 21) (tm 22)),o1 24 (lo 3 23),o1 9 (sg 24)] 0 none) []
  (.seq (.region 6 [mv 25 7,mv 26 9,mv 27 0,o1 28 (.makeSlice 0 42 4 (.pr .bool .nil) 1 [(.b false)] (tm 27) (tm 27)),o1 29 (.indexAddr 46 42 1 (tm 25) (tm 26)),o0 (.storeRow 42 (tm 29) (tm 28))] 1 none) []
  (.seq (.region 7 [o1 10 (sk 0)] 0 none) []
  (.block 2
  (.loop [] (rl 3 4 (rl 11 71 []))
   A30v6)))))) (rl 9 4 (rl 21 60 []))
 A30v7)
def A30v9 : AC := (.seq (.seq (.region 3 [mv 17 8,o1 18 (bk .geq 3 17 0)] 0 none) []
 (.cond (tm 18)
 .skip
 (.exit 0 (rl 0 7 (rl 8 74 []))))) [17,18]
 A30v8)
def A30v10 : AC := (.seq (.region 17 [mv 81 7,o1 6 (sg 81)] 0 none) []
 (.ret (rl 0 6 (rl 7 75 []))))
def A30 : AF := ⟨82,[.mat 6 .bool],
 (.seq (.region 0 [o1 6 (.assign (.const (.slice none 0 0)))] 0 none) []
 (.seq (.region 1 [mv 13 0,o1 14 (.makeMat 0 46 42 .bool 24 (tm 13) (tm 13)),o1 7 (sg 14)] 1 none) []
 (.seq (.seq (.region 2 [mv 15 0,o1 16 (bk .sub 3 15 1),o1 8 (sg 16)] 0 none) []
 (.block 0
 (.loop [] (rl 3 4 (rl 9 73 []))
  A30v9))) (rl 8 5 (rl 15 66 []))
 A30v10)))⟩
def N295v2 : St → Option St := nN 2 (rl 3 4 (rl 13 69 []))
def s295v0 : St := ⟨(vxi i0 :: .x (.c (ro kP n0 f0)) :: .x (.c (ro (.pr (.int .i64) .nil) n1 f1)) :: (us 4 (.x (.own 0 0 n2) :: vxi i1 :: vxi i2 :: vxi i3 :: vxi i4 :: vxi i5 :: (us 69 [])))),[.mat .bool n2 u0 f2,.dead]⟩
def s295v1 : St := ⟨(vxi i0 :: .x (.c (ro kP n0 f0)) :: .x (.c (ro (.pr (.int .i64) .nil) n1 f1)) :: (us 4 (.x (.own 0 0 n2) :: vxi i1 :: vxi i2 :: vxi i3 :: (us 71 [])))),[.mat .bool n2 u0 f2,.dead]⟩
def L295v2 {ρ : Type} (u : Nat) (x0 : Int) (x1 : Nat) (x2 : FF) (x3 : Nat) (x4 : FF) (x5 : Nat) (x6 x7 x8 x9 : Int) (xA : Nat → Nat) : Nat → Int → FF → (FF → Option ρ) → Option ρ
 | 0,_,_,_ => none
 | m + 1,xB,xC,k0 =>
  (bif (decide (xB < x0)) then (bif (inb x7 x5) then (bif (Nat.blt x7.toNat x5 && true) then (bif (inb x7 x5) then (bif (Nat.blt x7.toNat x5 && true) then (bif (inb xB (xA x7.toNat)) then (bif ((xC x7.toNat xB.toNat).bool == false) then (bif (inb x9 x5) then (bif (Nat.blt x9.toNat x5 && true) then (bif (inb xB (xA x9.toNat)) then (bif (inb xB (xA x7.toNat)) then (L295v2 u x0 x1 x2 x3 x4 x5 x6 x7 x8 x9 xA m (w64 (xB + 1)) (setM xC x7.toNat xB.toNat (.b (xC x9.toNat xB.toNat).bool)) k0) else none) else none) else none) else none) else (bif (inb xB (xA x7.toNat)) then (L295v2 u x0 x1 x2 x3 x4 x5 x6 x7 x8 x9 xA m (w64 (xB + 1)) (setM xC x7.toNat xB.toNat (.b true)) k0) else none)) else none) else none) else none) else none) else none) else (k0 xC))
theorem nl295v2 : ∀ (m : Nat) (x0 : Int) (x1 : FF) (k0 : FF → Option ρ),ob (L295v2 u i0 n0 f0 n1 f1 n2 i1 i2 i3 i4 u0 m x0 x1 k0) ng = L295v2 u i0 n0 f0 n1 f1 n2 i1 i2 i3 i4 u0 m x0 x1 (fun x2 => ob (k0 x2) ng)
 | 0,_,_,_ => rfl
 | m + 1,x0,x1,k0 => by
  simp only [L295v2,ob_bif,ob_ob,ob_none,nl295v2 m]
theorem r295v2 :
  loopH (eB A30v2 (C20 u) u) N295v2 (m + 1) (s295v0 n0 n1 n2 f0 f1 f2 i0 i1 i2 i3 i4 i5 u0) k =
  (bif (decide (i5 < i0)) then (bif (inb i2 n2) then (bif (Nat.blt i2.toNat n2 && true) then (bif (inb i2 n2) then (bif (Nat.blt i2.toNat n2 && true) then (bif (inb i5 (u0 i2.toNat)) then (bif ((f2 i2.toNat i5.toNat).bool == false) then (bif (inb i4 n2) then (bif (Nat.blt i4.toNat n2 && true) then (bif (inb i5 (u0 i4.toNat)) then (bif (inb i5 (u0 i2.toNat)) then (loopH (eB A30v2 (C20 u) u) N295v2 m (s295v0 n0 n1 n2 f0 f1 (setM f2 i2.toNat i5.toNat (.b (f2 i4.toNat i5.toNat).bool)) i0 i1 i2 i3 i4 (w64 (i5 + 1)) u0) k) else none) else none) else none) else none) else (bif (inb i5 (u0 i2.toNat)) then (loopH (eB A30v2 (C20 u) u) N295v2 m (s295v0 n0 n1 n2 f0 f1 (setM f2 i2.toNat i5.toNat (.b true)) i0 i1 i2 i3 i4 (w64 (i5 + 1)) u0) k) else none)) else none) else none) else none) else none) else none) else (k (.exit 4) (s295v1 n0 n1 n2 f0 f1 f2 i0 i1 i2 i3 u0))) := by kernel_rfl
theorem q295v2 : ∀ (m : Nat) (x0 : Int) (x1 : FF),
  loopH (eB A30v2 (C20 u) u) N295v2 m (s295v0 n0 n1 n2 f0 f1 x1 i0 i1 i2 i3 i4 x0 u0) k = L295v2 u i0 n0 f0 n1 f1 n2 i1 i2 i3 i4 u0 m x0 x1 (fun x2 => k (.exit 4) (s295v1 n0 n1 n2 f0 f1 x2 i0 i1 i2 i3 u0))
 | 0,_,_ => rfl
 | m + 1,x0,x1 => by
  rw [r295v2]
  simp only [L295v2,q295v2 m]
def N295v3 : St → Option St := nN 2 (rl 3 4 (rl 11 71 []))
def s295v2 : St := ⟨(vxi i0 :: .x (.c (ro kP n0 f0)) :: .x (.c (ro (.pr (.int .i64) .nil) n1 f1)) :: (us 4 (.x (.own 0 0 n2) :: vxi i1 :: vxi i2 :: vxi i3 :: (us 71 [])))),[.mat .bool n2 u0 f2,.dead]⟩
def s295v3 : St := ⟨(vxi i0 :: .x (.c (ro kP n0 f0)) :: .x (.c (ro (.pr (.int .i64) .nil) n1 f1)) :: (us 4 (.x (.own 0 0 n2) :: vxi i1 :: (us 73 [])))),[.mat .bool n2 u0 f2,.dead]⟩
def L295v3 {ρ : Type} (u : Nat) (x0 : Int) (x1 : Nat) (x2 : FF) (x3 : Nat) (x4 : FF) (x5 : Nat) (x6 x7 : Int) (x8 : Nat → Nat) : Nat → Int → FF → (FF → Option ρ) → Option ρ
 | 0,_,_,_ => none
 | m + 1,x9,xA,k0 =>
  (bif (decide (x9 < (Int.ofNat x1))) then (bif (inb x9 x1) then (bif ((x2 x9.toNat 0).int != x7) then (L295v3 u x0 x1 x2 x3 x4 x5 x6 x7 x8 m (w64 (x9 + 1)) xA k0) else (bif (inb x9 x1) then (bif (inb x7 x5) then (bif (Nat.blt x7.toNat x5 && true) then (bif (inb (x2 x9.toNat 1).int (x8 x7.toNat)) then (L295v2 u x0 x1 x2 x3 x4 x5 x6 x7 x9 (x2 x9.toNat 1).int x8 u 0 (setM xA x7.toNat (Int.toNat (x2 x9.toNat 1).int) (.b true))
  (fun xB => (L295v3 u x0 x1 x2 x3 x4 x5 x6 x7 x8 m (w64 (x9 + 1)) xB k0))) else none) else none) else none) else none)) else none) else (k0 xA))
theorem nl295v3 : ∀ (m : Nat) (x0 : Int) (x1 : FF) (k0 : FF → Option ρ),ob (L295v3 u i0 n0 f0 n1 f1 n2 i1 i2 u0 m x0 x1 k0) ng = L295v3 u i0 n0 f0 n1 f1 n2 i1 i2 u0 m x0 x1 (fun x2 => ob (k0 x2) ng)
 | 0,_,_,_ => rfl
 | m + 1,x0,x1,k0 => by
  simp only [L295v3,ob_bif,ob_ob,ob_none,nl295v3 m,nl295v2]
def s295v4 : St := ⟨(vxi i0 :: .x (.c (ro kP n0 f0)) :: .x (.c (ro (.pr (.int .i64) .nil) n1 f1)) :: (us 4 (.x (.own 0 0 n2) :: vxi i1 :: vxi i2 :: vxi i3 :: vxi (f0 i3.toNat 1).int :: vxi 0 :: (us 30 (.x (.c (ro kP n0 f0)) :: vxi i3 :: .x (.c (.rp kP (f0 i3.toNat))) :: .x (.c (.rp (.pr (.int .i64) .nil) (fun j => f0 i3.toNat (1 + j)))) :: vxi (f0 i3.toNat 1).int :: .x (.own 0 0 n2) :: vxi i2 :: .x (.aptr 0 i2.toNat 0) :: .x (.mrow 0 i2.toNat) :: vxi (f0 i3.toNat 1).int :: .x (.mptr 0 i2.toNat (Int.toNat (f0 i3.toNat 1).int)) :: (us 28 [])))))),[.mat .bool n2 u0 (setM f2 i2.toNat (Int.toNat (f0 i3.toNat 1).int) (.b true)),.dead]⟩
theorem r295v3 :
  loopH (eB A30v6 (C20 u) u) N295v3 (m + 1) (s295v2 n0 n1 n2 f0 f1 f2 i0 i1 i2 i3 u0) k =
  (bif (decide (i3 < (Int.ofNat n0))) then (bif (inb i3 n0) then (bif ((f0 i3.toNat 0).int != i2) then (loopH (eB A30v6 (C20 u) u) N295v3 m (s295v2 n0 n1 n2 f0 f1 f2 i0 i1 i2 (w64 (i3 + 1)) u0) k) else (bif (inb i3 n0) then (bif (inb i2 n2) then (bif (Nat.blt i2.toNat n2 && true) then (bif (inb (f0 i3.toNat 1).int (u0 i2.toNat)) then (loopN (eB A30v2 (C20 u) u) N295v2 u (s295v4 n0 n1 n2 f0 f1 f2 i0 i1 i2 i3 u0) (kBlk 4 (kBlk 3 (kSeq (C20 u) u (11 :: 12 :: (rl 36 45 [])) A30v4 (kLoop (eB A30v6 (C20 u) u) N295v3 m k))))) else none) else none) else none) else none)) else none) else (k (.exit 2) (s295v3 n0 n1 n2 f0 f1 f2 i0 i1 u0))) := by kernel_rfl
theorem t295v1 :
  loopN (eB A30v2 (C20 u) u) N295v2 u (s295v4 n0 n1 n2 f0 f1 f2 i0 i1 i2 i3 u0) k =
  L295v2 u i0 n0 f0 n1 f1 n2 i1 i2 i3 (f0 i3.toNat 1).int u0 u 0 (setM f2 i2.toNat (Int.toNat (f0 i3.toNat 1).int) (.b true)) (fun x0 => k (.exit 4) (s295v1 n0 n1 n2 f0 f1 x0 i0 i1 i2 i3 u0)) :=
 Eq.trans (loopN_at (by kernel_rfl)) (q295v2 ..)
theorem g295v2 :
  (kBlk 4 (kBlk 3 (kSeq (C20 u) u (11 :: 12 :: (rl 36 45 [])) A30v4 (kLoop (eB A30v6 (C20 u) u) N295v3 m k)))) (.exit 4) (s295v1 n0 n1 n2 f0 f1 f2 i0 i1 i2 i3 u0) =
  (loopH (eB A30v6 (C20 u) u) N295v3 m (s295v2 n0 n1 n2 f0 f1 f2 i0 i1 i2 (w64 (i3 + 1)) u0) k) := by kernel_rfl
theorem q295v3 : ∀ (m : Nat) (x0 : Int) (x1 : FF),
  loopH (eB A30v6 (C20 u) u) N295v3 m (s295v2 n0 n1 n2 f0 f1 x1 i0 i1 i2 x0 u0) k = L295v3 u i0 n0 f0 n1 f1 n2 i1 i2 u0 m x0 x1 (fun x2 => k (.exit 2) (s295v3 n0 n1 n2 f0 f1 x2 i0 i1 u0))
 | 0,_,_ => rfl
 | m + 1,x0,x1 => by
  rw [r295v3]
  simp only [L295v3,q295v3 m,t295v1,g295v2]
def N295v4 : St → Option St := nN 1 (rl 3 4 (rl 9 73 []))
def s295v5 : St := ⟨(vxi i0 :: .x (.c (ro kP n0 f0)) :: .x (.c (ro (.pr (.int .i64) .nil) n1 f1)) :: (us 4 (.x (.own 0 0 n2) :: vxi i1 :: (us 73 [])))),[.mat .bool n2 u0 f2]⟩
def s295v6 : St := ⟨(us 7 (.x (.own 0 0 n0) :: (us 74 []))),[.mat .bool n0 u0 f0]⟩
def L295v4 {ρ : Type} (u : Nat) (x0 : Int) (x1 : Nat) (x2 : FF) (x3 : Nat) (x4 : FF) (x5 : Nat) : Nat → Int → (Nat → Nat) → FF → ((Nat → Nat) → FF → Option ρ) → Option ρ
 | 0,_,_,_,_ => none
 | m + 1,x6,x7,x8,k0 =>
  (bif (decide (x6 ≥ 0)) then (bif (inb x6 x3) then (bif (decide (0 ≤ x0) && decide (x0 ≤ x0) && decide (x0 ≤ 1073741824) && true) then (bif (inb (x4 x6.toNat 0).int x5) then (bif (Nat.beq x0.toNat x0.toNat && Nat.blt (Int.toNat (x4 x6.toNat 0).int) x5) then (L295v3 u x0 x1 x2 x3 x4 x5 x6 (x4 x6.toNat 0).int (updN x7 (Int.toNat (x4 x6.toNat 0).int) x0.toNat) u 0 (updM x8 (Int.toNat (x4 x6.toNat 0).int) (fun _ j => listF [(.b false)] j))
  (fun x9 => (L295v4 u x0 x1 x2 x3 x4 x5 m (w64 (x6 - 1)) (updN x7 (Int.toNat (x4 x6.toNat 0).int) x0.toNat) x9 k0))) else none) else none) else none) else none) else (k0 x7 x8))
theorem nl295v4 : ∀ (m : Nat) (x0 : Int) (x1 : Nat → Nat) (x2 : FF) (k0 : (Nat → Nat) → FF → Option ρ),ob (L295v4 u i0 n0 f0 n1 f1 n2 m x0 x1 x2 k0) ng = L295v4 u i0 n0 f0 n1 f1 n2 m x0 x1 x2 (fun x3 x4 => ob (k0 x3 x4) ng)
 | 0,_,_,_,_ => rfl
 | m + 1,x0,x1,x2,k0 => by
  simp only [L295v4,ob_bif,ob_ob,ob_none,nl295v4 m,nl295v3]
def s295v7 : St := ⟨(vxi i0 :: .x (.c (ro kP n0 f0)) :: .x (.c (ro (.pr (.int .i64) .nil) n1 f1)) :: (us 4 (.x (.own 0 0 n2) :: vxi i1 :: vxi (f1 i1.toNat 0).int :: vxi 0 :: (us 10 (.x (.c (ro (.pr (.int .i64) .nil) n1 f1)) :: vxi i1 :: .x (.c (.rp (.pr (.int .i64) .nil) (f1 i1.toNat))) :: vxi (f1 i1.toNat 0).int :: .x (.own 0 0 n2) :: vxi (f1 i1.toNat 0).int :: vxi i0 :: .x .u :: .x (.aptr 0 (Int.toNat (f1 i1.toNat 0).int) 0) :: (us 52 [])))))),[.mat .bool n2 (updN u0 (Int.toNat (f1 i1.toNat 0).int) i0.toNat) (updM f2 (Int.toNat (f1 i1.toNat 0).int) (fun _ j => listF [(.b false)] j)),.dead]⟩
theorem r295v4 :
  loopH (eB A30v9 (C20 u) u) N295v4 (m + 1) (s295v5 n0 n1 n2 f0 f1 f2 i0 i1 u0) k =
  (bif (decide (i1 ≥ 0)) then (bif (inb i1 n1) then (bif (decide (0 ≤ i0) && decide (i0 ≤ i0) && decide (i0 ≤ 1073741824) && true) then (bif (inb (f1 i1.toNat 0).int n2) then (bif (Nat.beq i0.toNat i0.toNat && Nat.blt (Int.toNat (f1 i1.toNat 0).int) n2) then (loopN (eB A30v6 (C20 u) u) N295v3 u (s295v7 n0 n1 n2 f0 f1 f2 i0 i1 u0) (kBlk 2 (kBlk 1 (kSeq (C20 u) u (rl 9 4 (rl 21 60 [])) A30v7 (kLoop (eB A30v9 (C20 u) u) N295v4 m k))))) else none) else none) else none) else none) else (k (.exit 0) (s295v6 n2 f2 u0))) := by kernel_rfl
theorem t295v3 :
  loopN (eB A30v6 (C20 u) u) N295v3 u (s295v7 n0 n1 n2 f0 f1 f2 i0 i1 u0) k =
  L295v3 u i0 n0 f0 n1 f1 n2 i1 (f1 i1.toNat 0).int (updN u0 (Int.toNat (f1 i1.toNat 0).int) i0.toNat) u 0 (updM f2 (Int.toNat (f1 i1.toNat 0).int) (fun _ j => listF [(.b false)] j)) (fun x0 => k (.exit 2) (s295v3 n0 n1 n2 f0 f1 x0 i0 i1 (updN u0 (Int.toNat (f1 i1.toNat 0).int) i0.toNat))) :=
 Eq.trans (loopN_at (by kernel_rfl)) (q295v3 ..)
theorem g295v4 :
  (kBlk 2 (kBlk 1 (kSeq (C20 u) u (rl 9 4 (rl 21 60 [])) A30v7 (kLoop (eB A30v9 (C20 u) u) N295v4 m k)))) (.exit 2) (s295v3 n0 n1 n2 f0 f1 f2 i0 i1 (updN u0 (Int.toNat (f1 i1.toNat 0).int) i0.toNat)) =
  (loopH (eB A30v9 (C20 u) u) N295v4 m (s295v5 n0 n1 n2 f0 f1 f2 i0 (w64 (i1 - 1)) (updN u0 (Int.toNat (f1 i1.toNat 0).int) i0.toNat)) k) := by kernel_rfl
theorem q295v4 : ∀ (m : Nat) (x0 : Int) (x1 : Nat → Nat) (x2 : FF),
  loopH (eB A30v9 (C20 u) u) N295v4 m (s295v5 n0 n1 n2 f0 f1 x2 i0 x0 x1) k = L295v4 u i0 n0 f0 n1 f1 n2 m x0 x1 x2 (fun x3 x4 => k (.exit 0) (s295v6 n2 x4 x3))
 | 0,_,_,_ => rfl
 | m + 1,x0,x1,x2 => by
  rw [r295v4]
  simp only [L295v4,q295v4 m,t295v3,g295v4]
def F295 (x0 : Int) (x1 : Nat) (x2 : FF) (x3 : Nat) (x4 : FF) : Option (Nat × FF) :=
 (bif (decide (0 ≤ x0) && decide (x0 = x0) && decide (x0 ≤ 1073741824)) then (L295v4 u x0 x1 x2 x3 x4 x0.toNat u (w64 (x0 - 1)) (fun _ => 0) (fun _ _ => .any)
  (fun x5 x6 => (some (x0.toNat,(matF .bool x5 x6))))) else none)
def s295v8 : St := ⟨[vxi i0,.x (.c (ro kP n0 f0)),.x (.c (ro (.pr (.int .i64) .nil) n1 f1)),uu,uu,uu,.x (vcn),.x (.own 0 0 i0.toNat),vxi (w64 (i0 - 1)),uu,uu,uu,uu,vxi i0,.x (.own 0 0 i0.toNat),vxi i0,vxi (w64 (i0 - 1)),uu,uu,uu,uu,uu,uu,uu,uu,uu,uu,uu,uu,uu,uu,uu,uu,uu,uu,uu,uu,uu,uu,uu,uu,uu,uu,uu,uu,uu,uu,uu,uu,uu,uu,uu,uu,uu,uu,uu,uu,uu,uu,uu,uu,uu,uu,uu,uu,uu,uu,uu,uu,uu,uu,uu,uu,uu,uu,uu,uu,uu,uu,uu,uu,uu],[.mat .bool i0.toNat (fun _ => 0) nilF]⟩
theorem t295v5 :
  loopN (eB A30v9 (C20 u) u) N295v4 u (s295v8 n0 n1 f0 f1 i0) k =
  L295v4 u i0 n0 f0 n1 f1 i0.toNat u (w64 (i0 - 1)) (fun _ => 0) nilF (fun x0 x1 => k (.exit 0) (s295v6 i0.toNat x1 x0)) :=
 Eq.trans (loopN_at (by kernel_rfl)) (q295v4 ..)
theorem g295v6 :
  (kBlk 0 (kSeq (C20 u) u (rl 8 5 (rl 15 66 [])) A30v10 (finish A30))) (.exit 0) (s295v6 i0.toNat f0 u0) =
  (some [.v (ro kB i0.toNat (matF .bool u0 f0))]) := by kernel_rfl
theorem e295 : evalF (C20 u) u A30 [.v (vi i0),.v (ro kP n0 f0),.v (ro (.pr (.int .i64) .nil) n1 f1)] = ob (F295 u i0 n0 f0 n1 f1) fun t => some [.v (ro kB t.1 t.2)] := Eq.trans (b := (bif (decide (0 ≤ i0) && decide (i0 = i0) && decide (i0 ≤ 1073741824)) then (loopN (eB A30v9 (C20 u) u) N295v4 u (s295v8 n0 n1 f0 f1 i0) (kBlk 0 (kSeq (C20 u) u (rl 8 5 (rl 15 66 [])) A30v10 (finish A30)))) else none)) (by kernel_rfl) (by
 simp only [F295,ob_bif,ob_ob,ob_none,ob_some,nl295v4,t295v5,g295v6])
def O295 : Ora := mkO (qc (av ci) (qc (av (cL kP)) (q1 (av (cL (.pr (.int .i64) .nil)))))) (fun x => F295 u x.1 x.2.1.1 x.2.1.2 x.2.2.1 x.2.2.2) fun t => [.v (ro kB t.1 t.2)]
theorem d295 : DO (O295 u) (C20 u) 30 A30 := dO u (fun x => by exact e295 u x.2.1.1 x.2.2.1 x.2.1.2 x.2.2.2 x.1)
def C21 : Oracle := (C20 u).add 30 (fun _ => true) (O295 u)
end Go.Eng.R13
