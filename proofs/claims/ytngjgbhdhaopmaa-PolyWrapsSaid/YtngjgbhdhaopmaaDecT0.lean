/-
 The functions of the program,run on symbols; printed by decomp.py.
-/
import Derived.Test.YtngjgbhdhaopmaaEngS
import Derived.Test.YtngjgbhdhaopmaaEngX0
import Derived.Test.YtngjgbhdhaopmaaEngY
set_option linter.all false
set_option maxRecDepth 1000000
set_option maxHeartbeats 4000000
namespace Go.Eng.R13
open Go Go.RowKit Go.Eng
abbrev kA : Kd := (.pr (.int .i64) (.pr (.int .i64) .bool))
abbrev uu : V := .undef
abbrev ro : Kd → Nat → FF → CV := CV.ro false
variable {ρ σ : Type} (u m : Nat) (k : Ex → St → Option ρ) (ng : ρ → Option σ) (n0 n1 n2 : Nat) (f0 f1 f2 : FF) (i0 i1 i2 i3 i4 i5 i6 i7 i8 : Int) (b0 b1 : Bool)
def C0 (u : Nat) : Oracle := ⟨fun _ _ {_} _ => none,fun _ _ {_} _ => rfl,fun f r n g rest => bif ((Nat.beq f 46 && r.beq kP)) && rest.isEmpty then some (revF n g) else none,fun f r args => match args with | [.v (.ro _ r1 n g)] => bif ((Nat.beq f 40 && r.beq kP)) && r.beq r1 then some (n,g) else none | _ => none,fun f r n g rest => bif ((Nat.beq f 44 && r.beq kP)) && rest.isEmpty then some (cutN n g,cutF n g) else none⟩
def CE (u : Nat) : Oracle := ⟨fun _ _ {_} _ => none,fun _ _ {_} _ => rfl,fun _ _ _ _ _ => none,fun _ _ _ => none,fun _ _ _ _ _ => none⟩
theorem soundE {P : Program} : Sound P (CE u) := ⟨fun _ _ _ h => (by cases h),fun _ _ _ _ _ _ h => (by cases h),fun _ _ _ _ _ h => (by cases h),fun _ _ _ _ _ _ _ h => (by cases h)⟩
def A46v1 : AC := (.seq (.block 1
 (.region 3 [mv 14 0,mv 15 2,mv 16 0,mv 17 3,mv 18 0,mv 19 3,o1 20 (.indexAddr 22 31 2 (tm 18) (tm 19)),o1 21 (ln 31 2 20),mv 22 0,mv 23 2,o1 24 (.indexAddr 22 31 2 (tm 22) (tm 23)),o1 25 (ln 31 2 24),o1 26 (.indexAddr 22 31 2 (tm 14) (tm 15)),o0 (.store 31 2 (tm 26) (tm 21)),o1 27 (.indexAddr 22 31 2 (tm 16) (tm 17)),o0 (.store 31 2 (tm 27) (tm 25))] 0 (some [[],[],[],[],[],[],[4,5],[4,5,6],[],[],[8,9],[8,9,10],(0 :: 1 :: (rl 4 8 [])),(0 :: 1 :: (rl 4 9 [])),(rl 0 14 []),(rl 0 15 [])]))) []
 (.region 2 [mv 10 2,o1 11 (bk .add 3 10 1),mv 12 3,o1 13 (bk .sub 3 12 1),o1 2 (sg 11),o1 3 (sg 13)] 0 none))
def A46v2 : AC := (.seq (.seq (.region 1 [mv 7 2,mv 8 3,o1 9 (bt .lss 3 7 8)] 0 none) []
 (.cond (tm 9)
 .skip
 (.exit 0 (rl 0 28 [])))) [7,8,9]
 A46v1)
def A46 : AF := ⟨28,[],
 (.seq (.region 0 [mv 4 0,o1 5 (.len 22 false (tm 4)),o1 6 (bk .sub 3 5 1),o1 2 (sk 0),o1 3 (sg 6)] 0 none) []
 (.block 0
 (.loop [] (1 :: (rl 4 24 []))
  A46v2)))⟩
def N52v1 : St → Option St := nN 1 (1 :: (rl 4 24 []))
def s52v0 : St := ⟨(.x (.own 0 0 n0) :: .u :: vxi i0 :: vxi i1 :: (us 24 [])),[.arr kA n0 f0]⟩
def s52v1 : St := ⟨(us 28 []),[.arr kA n0 f0]⟩
def L52v1 {ρ : Type} (u : Nat) (x0 : Nat) : Nat → Int → Int → FF → (FF → Option ρ) → Option ρ
 | 0,_,_,_,_ => none
 | m + 1,x1,x2,x3,k0 =>
  (bif (decide (x1 < x2)) then (bif (inb x2 x0) then (bif (inb x1 x0) then (bif (inb x1 x0) then (bif (inb x2 x0) then (L52v1 u x0 m (w64 (x1 + 1)) (w64 (x2 - 1)) (setF (setF x3 (0 + x1.toNat) 0 2 (listF [(.i .i64 (x3 (0 + x2.toNat) 0).int),(.i .i64 (x3 (0 + x2.toNat) 1).int)])) (0 + x2.toNat) 0 2 (listF [(.i .i64 (x3 (0 + x1.toNat) 0).int),(.i .i64 (x3 (0 + x1.toNat) 1).int)])) k0) else none) else none) else none) else none) else (k0 x3))
theorem r52v1 :
  loopH (eB A46v2 (CE u) u) N52v1 (m + 1) (s52v0 n0 f0 i0 i1) k =
  (bif (decide (i0 < i1)) then (bif (inb i1 n0) then (bif (inb i0 n0) then (bif (inb i0 n0) then (bif (inb i1 n0) then (loopH (eB A46v2 (CE u) u) N52v1 m (s52v0 n0 (setF (setF f0 (0 + i0.toNat) 0 2 (listF [(vi (f0 (0 + i1.toNat) 0).int),(vi (f0 (0 + i1.toNat) 1).int)])) (0 + i1.toNat) 0 2 (listF [(vi (f0 (0 + i0.toNat) 0).int),(vi (f0 (0 + i0.toNat) 1).int)])) (w64 (i0 + 1)) (w64 (i1 - 1))) k) else none) else none) else none) else none) else (k (.exit 0) (s52v1 n0 f0))) := by kernel_rfl
theorem q52v1 : ∀ (m : Nat) (x0 x1 : Int) (x2 : FF),
  loopH (eB A46v2 (CE u) u) N52v1 m (s52v0 n0 x2 x0 x1) k = L52v1 u n0 m x0 x1 x2 (fun x3 => k (.exit 0) (s52v1 n0 x3))
 | 0,_,_,_ => rfl
 | m + 1,x0,x1,x2 => by
  rw [r52v1]
  simp only [L52v1,q52v1 m]
def D52 (x0 : Nat) (x1 : FF) (k : (Nat × FF) → Option ρ) : Option ρ :=
 (L52v1 u x0 u 0 (w64 ((Int.ofNat x0) - 1)) x1
  (fun x2 => (k (x0,x2))))
def F52 (x0 : Nat) (x1 : FF) : Option (Nat × FF) := D52 u x0 x1 some
def s52v2 : St := ⟨[.x (.own 0 0 n0),uu,vxi 0,vxi (w64 ((Int.ofNat n0) - 1)),.x (.own 0 0 n0),vxi (Int.ofNat n0),vxi (w64 ((Int.ofNat n0) - 1)),uu,uu,uu,uu,uu,uu,uu,uu,uu,uu,uu,uu,uu,uu,uu,uu,uu,uu,uu,uu,uu],[.arr kA n0 f0]⟩
theorem walk52 (x0 : Nat) (x1 : FF) :
  evalT (CE u) u A46 kP x0 x1 [] =
  (loopN (eB A46v2 (CE u) u) N52v1 u (s52v2 x0 x1) (kBlk 0 (finishT (Kd.mark kP)))) := by kernel_rfl
theorem t52v1 :
  loopN (eB A46v2 (CE u) u) N52v1 u (s52v2 n0 f0) k =
  L52v1 u n0 u 0 (w64 ((Int.ofNat n0) - 1)) f0 (fun x0 => k (.exit 0) (s52v1 n0 x0)) :=
 Eq.trans (loopN_at (by kernel_rfl)) (q52v1 ..)
theorem g52v2 :
  (kBlk 0 (finishT (Kd.mark kP))) (.exit 0) (s52v1 n0 f0) =
  (some (n0,f0)) := by kernel_rfl
theorem e52 : evalT (CE u) u A46 kP n0 f0 [] = F52 u n0 f0 := by
 rw [walk52]
 simp only [F52,D52,t52v1,g52v2]
def A44v1 : AC := (.region 10 [mv 33 5,o1 34 (bk .add 3 33 1),o1 5 (sg 34)] 0 none)
def A44v2 : AC := (.seq (.block 3
 (.seq (.region 11 [mv 35 4,mv 36 5,o1 37 (.indexAddr 22 31 2 (tm 35) (tm 36)),o1 38 (ln 31 2 37),mv 39 4,mv 40 5,o1 41 (bk .sub 3 40 1),o1 42 (.indexAddr 22 31 2 (tm 39) (tm 41)),o1 43 (ln 31 2 42),o1 44 (.eqA true kP 31 (tm 38) (tm 43) 31)] 0 (some [[],[],[0,1],[0,1,2],[],[],[5],[4,5,6],(rl 4 4 []),(rl 0 9 [])])) []
  (.cond (tm 44)
  (.seq (.region 12 [mv 45 0,mv 46 3,mv 47 4,mv 48 5,o1 49 (.indexAddr 22 31 2 (tm 47) (tm 48)),o1 50 (ln 31 2 49),o1 51 (.indexAddr 22 31 2 (tm 45) (tm 46)),o0 (.store 31 2 (tm 51) (tm 50))] 0 none) []
   (.region 13 [mv 52 3,o1 53 (bk .add 3 52 1),o1 3 (sg 53)] 0 none))
  .skip))) (rl 35 19 [])
 A44v1)
def A44v3 : AC := (.seq (.seq (.region 9 [mv 29 5,mv 30 4,o1 31 (.len 22 false (tm 30)),o1 32 (bt .lss 3 29 31)] 0 none) []
 (.cond (tm 32)
 .skip
 (.exit 2 (1 :: 2 :: (rl 4 57 []))))) (rl 29 4 [])
 A44v2)
def A44v4 : AC := (.seq (.region 14 [mv 54 0,mv 55 3,o1 56 (.slice 22 31 2 (tm 54) (some (tm 55)) none none),o0 (.clear 22 31 [(vi 0),(vi 0)] (tm 56))] 0 none) []
 (.seq (.region 15 [mv 57 0,mv 58 3,o1 59 (.slice 22 31 2 (tm 57) none (some (tm 58)) none),o1 2 (sg 59)] 0 none) []
 (.ret (0 :: 1 :: (rl 3 58 [])))))
def A44v5 : AC := (.region 5 [mv 14 3,o1 15 (bk .add 3 14 1),o1 3 (sg 15)] 0 none)
def A44v6 : AC := (.seq (.block 1
 (.seq (.region 6 [mv 16 0,mv 17 3,o1 18 (.indexAddr 22 31 2 (tm 16) (tm 17)),o1 19 (ln 31 2 18),mv 20 0,mv 21 3,o1 22 (bk .sub 3 21 1),o1 23 (.indexAddr 22 31 2 (tm 20) (tm 22)),o1 24 (ln 31 2 23),o1 25 (.eqA false kP 31 (tm 19) (tm 24) 31)] 0 (some [[],[],[0,1],[0,1,2],[],[],[5],[4,5,6],(rl 4 4 []),(rl 0 9 [])])) []
  (.cond (tm 25)
  (.seq (.region 7 [mv 26 0,mv 27 3,o1 28 (.slice 22 31 2 (tm 26) (some (tm 27)) none none),o1 4 (sg 28)] 0 none) []
   (.seq (.seq (.region 8 [o1 5 (sk 1)] 0 none) []
   (.block 2
   (.loop [] (1 :: 2 :: (rl 6 55 []))
    A44v3))) (5 :: (rl 29 25 []))
   A44v4))
  .skip))) (2 :: 4 :: 5 :: (rl 16 44 []))
 A44v5)
def A44v7 : AC := (.seq (.seq (.region 4 [mv 10 3,mv 11 0,o1 12 (.len 22 false (tm 11)),o1 13 (bt .lss 3 10 12)] 0 none) []
 (.cond (tm 13)
 .skip
 (.exit 0 (rl 1 60 [])))) (rl 10 4 [])
 A44v6)
def A44v8 : AC := (.seq (.region 16 [mv 60 0,o1 2 (sg 60)] 0 none) []
 (.ret (0 :: 1 :: (rl 3 58 []))))
def A44v9 : AC := (.seq (.seq (.region 3 [o1 3 (sk 1)] 0 none) []
 (.block 0
 (.loop [] (1 :: 2 :: (rl 4 57 []))
  A44v7))) (rl 2 4 (rl 10 50 []))
 A44v8)
def A44 : AF := ⟨61,[.tmp 2],
 (.seq (.region 0 [o1 2 (.assign (.const (.slice none 0 0)))] 0 none) []
 (.seq (.seq (.region 1 [mv 6 0,o1 7 (.len 22 false (tm 6)),o1 8 (bk .lss 3 7 2)] 0 none) []
 (.cond (tm 8)
 (.seq (.region 2 [mv 9 0,o1 2 (sg 9)] 0 none) []
  (.ret (0 :: 1 :: (rl 3 58 []))))
 .skip)) (2 :: (rl 6 4 []))
 A44v9))⟩
def N222v2 : St → Option St := nN 1 (1 :: 2 :: (rl 6 55 []))
def s222v0 : St := ⟨(.x (.own 0 0 n0) :: .u :: .u :: vxi i0 :: .x (.own 0 n1 n2) :: vxi i1 :: (us 55 [])),[.arr kA n0 f0]⟩
def s222v1 : St := ⟨(.x (.own 0 0 n0) :: .u :: .u :: vxi i0 :: (us 57 [])),[.arr kA n0 f0]⟩
def L222v2 {ρ : Type} (u : Nat) (x0 x1 x2 : Nat) : Nat → Int → Int → FF → (Int → FF → Option ρ) → Option ρ
 | 0,_,_,_,_ => none
 | m + 1,x3,x4,x5,k0 =>
  (bif (decide (x4 < (Int.ofNat x2))) then (bif (inb x4 x2) then (bif (inb (w64 (x4 - 1)) x2) then (bif (!(((x5 (x1 + x4.toNat) 0).int == (CV.int (x5 (x1 + (Int.toNat (w64 (x4 - 1)))) 0))) && (((x5 (x1 + x4.toNat) 1).int == (CV.int (x5 (x1 + (Int.toNat (w64 (x4 - 1)))) 1))) && true))) then (bif (inb x4 x2) then (bif (inb x3 x0) then (L222v2 u x0 x1 x2 m (w64 (x3 + 1)) (w64 (x4 + 1)) (setF x5 (0 + x3.toNat) 0 2 (listF [(.i .i64 (x5 (x1 + x4.toNat) 0).int),(.i .i64 (x5 (x1 + x4.toNat) 1).int)])) k0) else none) else none) else (L222v2 u x0 x1 x2 m x3 (w64 (x4 + 1)) x5 k0)) else none) else none) else (k0 x3 x5))
theorem r222v2 :
  loopH (eB A44v3 (CE u) u) N222v2 (m + 1) (s222v0 n0 n1 n2 f0 i0 i1) k =
  (bif (decide (i1 < (Int.ofNat n2))) then (bif (inb i1 n2) then (bif (inb (w64 (i1 - 1)) n2) then (bif (!(((f0 (n1 + i1.toNat) 0).int == (CV.int (f0 (n1 + (Int.toNat (w64 (i1 - 1)))) 0))) && (((f0 (n1 + i1.toNat) 1).int == (CV.int (f0 (n1 + (Int.toNat (w64 (i1 - 1)))) 1))) && true))) then (bif (inb i1 n2) then (bif (inb i0 n0) then (loopH (eB A44v3 (CE u) u) N222v2 m (s222v0 n0 n1 n2 (setF f0 (0 + i0.toNat) 0 2 (listF [(vi (f0 (n1 + i1.toNat) 0).int),(vi (f0 (n1 + i1.toNat) 1).int)])) (w64 (i0 + 1)) (w64 (i1 + 1))) k) else none) else none) else (loopH (eB A44v3 (CE u) u) N222v2 m (s222v0 n0 n1 n2 f0 i0 (w64 (i1 + 1))) k)) else none) else none) else (k (.exit 2) (s222v1 n0 f0 i0))) := by kernel_rfl
theorem q222v2 : ∀ (m : Nat) (x0 x1 : Int) (x2 : FF),
  loopH (eB A44v3 (CE u) u) N222v2 m (s222v0 n0 n1 n2 x2 x0 x1) k = L222v2 u n0 n1 n2 m x0 x1 x2 (fun x3 x4 => k (.exit 2) (s222v1 n0 x4 x3))
 | 0,_,_,_ => rfl
 | m + 1,x0,x1,x2 => by
  rw [r222v2]
  simp only [L222v2,q222v2 m]
def N222v3 : St → Option St := nN 1 (1 :: 2 :: (rl 4 57 []))
def s222v2 : St := ⟨(.x (.own 0 0 n0) :: .u :: .u :: vxi i0 :: (us 57 [])),[.arr kA n0 f0]⟩
def s222v3 : St := ⟨(.u :: .u :: .x (.own 0 0 n0) :: (us 58 [])),[.arr kA n1 f0]⟩
def s222v4 : St := ⟨(.x (.own 0 0 n0) :: (us 60 [])),[.arr kA n0 f0]⟩
def L222v3 {ρ : Type} (u : Nat) (x0 : Nat) (x1 : FF) : Nat → Int → (Nat → FF → Option ρ) → (Option ρ) → Option ρ
 | 0,_,_,_ => none
 | m + 1,x2,k0,k1 =>
  (bif (decide (x2 < (Int.ofNat x0))) then (bif (inb x2 x0) then (bif (inb (w64 (x2 - 1)) x0) then (bif (((x1 (0 + x2.toNat) 0).int == (CV.int (x1 (0 + (Int.toNat (w64 (x2 - 1)))) 0))) && (((x1 (0 + x2.toNat) 1).int == (CV.int (x1 (0 + (Int.toNat (w64 (x2 - 1)))) 1))) && true)) then (bif (inbe x2 x0) then (L222v2 u x0 (0 + x2.toNat) (x0 - x2.toNat) u x2 1 x1
  (fun x3 x4 => (bif (inbe x3 x0) then (bif (Nat.blt 0 (x0 - x3.toNat) && Nat.ble ((0 + x3.toNat) + (x0 - x3.toNat)) x0) then (bif (inbe x3 x0) then (k0 (x3.toNat - 0) (putF (0 + x3.toNat) (x0 - x3.toNat) x4 (fun _ j => listF [(.i .i64 0),(.i .i64 0)] j))) else none) else none) else none))) else none) else (L222v3 u x0 x1 m (w64 (x2 + 1)) k0 k1)) else none) else none) else k1)
def s222v5 : St := ⟨(.x (.own 0 0 n0) :: .u :: .u :: vxi i0 :: .x (.own 0 (0 + i0.toNat) (n0 - i0.toNat)) :: vxi 1 :: (us 10 (.x (.own 0 0 n0) :: vxi i0 :: .x (.aptr 0 (0 + i0.toNat) 0) :: .agg [(vci (f0 (0 + i0.toNat) 0).int),(vci (f0 (0 + i0.toNat) 1).int)] :: .x (.own 0 0 n0) :: vxi i0 :: vxi (w64 (i0 - 1)) :: .x (.aptr 0 (0 + (Int.toNat (w64 (i0 - 1)))) 0) :: .agg [(vci (CV.int (f0 (0 + (Int.toNat (w64 (i0 - 1)))) 0))),(vci (CV.int (f0 (0 + (Int.toNat (w64 (i0 - 1)))) 1)))] :: vxb true :: .x (.own 0 0 n0) :: vxi i0 :: .x (.own 0 (0 + i0.toNat) (n0 - i0.toNat)) :: (us 32 [])))),[.arr kA n0 f0]⟩
theorem r222v3 :
  loopH (eB A44v7 (CE u) u) N222v3 (m + 1) (s222v2 n0 f0 i0) k =
  (bif (decide (i0 < (Int.ofNat n0))) then (bif (inb i0 n0) then (bif (inb (w64 (i0 - 1)) n0) then (bif (((f0 (0 + i0.toNat) 0).int == (CV.int (f0 (0 + (Int.toNat (w64 (i0 - 1)))) 0))) && (((f0 (0 + i0.toNat) 1).int == (CV.int (f0 (0 + (Int.toNat (w64 (i0 - 1)))) 1))) && true)) then (bif (inbe i0 n0) then (loopN (eB A44v3 (CE u) u) N222v2 u (s222v5 n0 f0 i0) (kBlk 2 (kSeq (CE u) u (5 :: (rl 29 25 [])) A44v4 (kBlk 1 (kSeq (CE u) u (2 :: 4 :: 5 :: (rl 16 44 [])) A44v5 (kLoop (eB A44v7 (CE u) u) N222v3 m k)))))) else none) else (loopH (eB A44v7 (CE u) u) N222v3 m (s222v2 n0 f0 (w64 (i0 + 1))) k)) else none) else none) else (k (.exit 0) (s222v4 n0 f0))) := by kernel_rfl
theorem t222v1 :
  loopN (eB A44v3 (CE u) u) N222v2 u (s222v5 n0 f0 i0) k =
  L222v2 u n0 (0 + i0.toNat) (n0 - i0.toNat) u i0 1 f0 (fun x0 x1 => k (.exit 2) (s222v1 n0 x1 x0)) :=
 Eq.trans (loopN_at (by kernel_rfl)) (q222v2 ..)
theorem g222v2 :
  (kBlk 2 (kSeq (CE u) u (5 :: (rl 29 25 [])) A44v4 (kBlk 1 (kSeq (CE u) u (2 :: 4 :: 5 :: (rl 16 44 [])) A44v5 (kLoop (eB A44v7 (CE u) u) N222v3 m k))))) (.exit 2) (s222v1 n0 f0 i0) =
  (bif (inbe i0 n0) then (bif (Nat.blt 0 (n0 - i0.toNat) && Nat.ble ((0 + i0.toNat) + (n0 - i0.toNat)) n0) then (bif (inbe i0 n0) then (k .ret (s222v3 (i0.toNat - 0) n0 (putF (0 + i0.toNat) (n0 - i0.toNat) f0 (fun _ j => listF [(vi 0),(vi 0)] j)))) else none) else none) else none) := by kernel_rfl
theorem q222v3 : ∀ (m : Nat) (x0 : Int),
  loopH (eB A44v7 (CE u) u) N222v3 m (s222v2 n0 f0 x0) k = L222v3 u n0 f0 m x0 (fun x1 x2 => k .ret (s222v3 x1 n0 x2)) (k (.exit 0) (s222v4 n0 f0))
 | 0,_ => rfl
 | m + 1,x0 => by
  rw [r222v3]
  simp only [L222v3,q222v3 m,t222v1,g222v2]
def D222 (x0 : Nat) (x1 : FF) (k : (Nat × FF) → Option ρ) : Option ρ :=
 (bif (decide ((Int.ofNat x0) < 2)) then (bif (Nat.beq x0 x0) then (k (x0,x1)) else none) else (L222v3 u x0 x1 u 1
  (fun x2 x3 => (bif (Nat.beq x0 x0) then (k (x2,x3)) else none))
  (bif (Nat.beq x0 x0) then (k (x0,x1)) else none)))
def F222 (x0 : Nat) (x1 : FF) : Option (Nat × FF) := D222 u x0 x1 some
def s222v6 : St := ⟨(.x (.own 0 0 n0) :: uu :: .u :: vxi 1 :: uu :: uu :: (us 4 [uu,uu,uu,uu,uu,uu,uu,uu,uu,uu,uu,uu,uu,uu,uu,uu,uu,uu,uu,uu,uu,uu,uu,uu,uu,uu,uu,uu,uu,uu,uu,uu,uu,uu,uu,uu,uu,uu,uu,uu,uu,uu,uu,uu,uu,uu,uu,uu,uu,uu,uu])),[.arr kA n0 f0]⟩
theorem walk222 (x0 : Nat) (x1 : FF) :
  evalU (CE u) u A44 2 kP x0 x1 [] =
  (bif (decide ((Int.ofNat x0) < 2)) then (bif (Nat.beq x0 x0) then (some (x0,x1)) else none) else (loopN (eB A44v7 (CE u) u) N222v3 u (s222v6 x0 x1) (kBlk 0 (kSeq (CE u) u (rl 2 4 (rl 10 50 [])) A44v8 (finishU (Kd.mark kP) 2 x0))))) := by kernel_rfl
theorem t222v3 :
  loopN (eB A44v7 (CE u) u) N222v3 u (s222v6 n0 f0) k =
  L222v3 u n0 f0 u 1 (fun x0 x1 => k .ret (s222v3 x0 n0 x1)) (k (.exit 0) (s222v4 n0 f0)) :=
 Eq.trans (loopN_at (by kernel_rfl)) (q222v3 ..)
theorem g222v4 :
  (kBlk 0 (kSeq (CE u) u (rl 2 4 (rl 10 50 [])) A44v8 (finishU (Kd.mark kP) 2 n0))) .ret (s222v3 n1 n0 f0) =
  (bif (Nat.beq n0 n0) then (some (n1,f0)) else none) := by kernel_rfl
theorem g222v5 :
  (kBlk 0 (kSeq (CE u) u (rl 2 4 (rl 10 50 [])) A44v8 (finishU (Kd.mark kP) 2 n0))) (.exit 0) (s222v4 n0 f0) =
  (bif (Nat.beq n0 n0) then (some (n0,f0)) else none) := by kernel_rfl
theorem e222 : evalU (CE u) u A44 2 kP n0 f0 [] = F222 u n0 f0 := by
 rw [walk222]
 simp only [F222,D222,t222v3,g222v4,g222v5]
def A30 : AF := ⟨21,[.tmp 2],
 (.seq (.region 0 [o1 1 (bx 0 31 0),o1 2 (sb false)] 1 none) []
 (.seq (.region 1 [o1 3 (fa 31 1 0 0),o1 4 (lo 3 3),o1 5 (bk .lss 3 4 (-32768)),mv 6 5,og 7 (fa 31 1 0 0) 6 false,og 8 (lo 3 7) 6 false,og 9 (bk .gtr 3 8 32768) 6 false,o1 10 (pa 6 9),mv 11 10,og 12 (fa 31 1 1 1) 11 false,og 13 (lo 3 12) 11 false,og 14 (bk .lss 3 13 (-32768)) 11 false,o1 15 (pa 11 14),mv 16 15,og 17 (fa 31 1 1 1) 16 false,og 18 (lo 3 17) 16 false,og 19 (bk .gtr 3 18 32768) 16 false,o1 20 (pa 16 19),o1 2 (sg 20)] 0 none) []
 (.ret (0 :: 1 :: (rl 3 18 [])))))⟩
def F61 (u : Nat) (x0 x1 : Int) : Option (Bool) :=
 (bif ((decide (x0 < (-32768))) == false) then (bif ((decide (x0 > 32768)) == false) then (bif ((decide (x1 < (-32768))) == false) then (some (decide (x1 > 32768))) else (some true)) else (some true)) else (some true))
theorem e61 : evalF (C0 u) u A30 [.agg [(vi i0),(vi i1)]] = ob (F61 u i0 i1) fun t => some [.v (.b t)] := Eq.trans (b := (bif ((decide (i0 < (-32768))) == false) then (bif ((decide (i0 > 32768)) == false) then (bif ((decide (i1 < (-32768))) == false) then (some [.v (.b (decide (i1 > 32768)))]) else (some [.v (.b true)])) else (some [.v (.b true)])) else (some [.v (.b true)]))) (by kernel_rfl) (by
 simp only [F61,ob_bif,ob_ob,ob_none,ob_some])
def O61 : Ora := mkO (q1 (ag (tc ci (t1 ci)))) (fun x => F61 u x.1 x.2) fun t => [.v (.b t)]
theorem d61 : DO (O61 u) (C0 u) 30 A30 := dO u (fun x => by exact e61 u x.1 x.2)
def C1 : Oracle := (C0 u).add 30 (fun _ => true) (O61 u)
def A50v1 : AC := (.region 6 [o1 18 (bk .add 3 8 1),mv 8 18] 0 none)
def A50v2 : AC := (.seq (.block 1
 (.seq (.region 3 [mv 10 8,o1 5 (sg 10)] 0 none) []
  (.seq (.region 4 [mv 11 1,mv 12 0,mv 13 5,o1 14 (.indexAddr 22 31 2 (tm 12) (tm 13)),o1 15 (ln 31 2 14),o1 16 (.callv (tm 11) [(tm 15)] [31] .snap)] 0 none) []
  (.cond (tm 16)
  (.seq (.region 5 [mv 17 5,o1 4 (sg 17)] 0 none) []
   (.ret (rl 0 4 (rl 5 14 []))))
  .skip)))) (4 :: 5 :: (rl 10 8 []))
 A50v1)
def A50v3 : AC := (.seq (.region 2 [o1 9 (bt .lss 3 8 7)] 0 none) []
 (.seq (.cond (tm 9)
 .skip
 (.exit 0 (rl 0 19 []))) []
 A50v2))
def A50v4 : AC := (.seq (.region 7 [o1 4 (sk (-1))] 0 none) []
 (.ret (rl 0 4 (rl 5 14 []))))
def A50 : AF := ⟨19,[.tmp 4],
 (.seq (.region 0 [o1 4 (sk 0)] 0 none) []
 (.seq (.seq (.region 1 [mv 6 0,o1 7 (.len 22 false (tm 6)),o1 8 (.move (ic 0))] 0 none) []
 (.block 0
 (.loop [] (rl 2 5 (rl 9 10 []))
  A50v3))) (rl 4 15 [])
 A50v4))⟩
def N73v1 : St → Option St := nN 0 (rl 2 5 (rl 9 10 []))
def s73v0 : St := ⟨(.x (.c (ro kP n0 f0)) :: .x (.c (.fn 30 0 (listF []))) :: (us 5 (vxi i0 :: vxi i1 :: (us 10 [])))),[]⟩
def s73v1 : St := ⟨(us 4 (vxi i0 :: (us 14 []))),[]⟩
def s73v2 : St := ⟨(us 19 []),[]⟩
def L73v1 {ρ : Type} (u : Nat) (x0 : Nat) (x1 : FF) (x2 : Int) : Nat → Int → (Int → Option ρ) → (Option ρ) → Option ρ
 | 0,_,_,_ => none
 | m + 1,x3,k0,k1 =>
  (bif (decide (x3 < x2)) then (bif (inb x3 x0) then (ob (F61 u (x1 x3.toNat 0).int (x1 x3.toNat 1).int) fun x4 => (bif x4 then (k0 x3) else (L73v1 u x0 x1 x2 m (w64 (x3 + 1)) k0 k1))) else none) else k1)
theorem nl73v1 : ∀ (m : Nat) (x0 : Int) (k0 : Int → Option ρ) (k1 : Option ρ),ob (L73v1 u n0 f0 i0 m x0 k0 k1) ng = L73v1 u n0 f0 i0 m x0 (fun x1 => ob (k0 x1) ng) (ob k1 ng)
 | 0,_,_,_ => rfl
 | m + 1,x0,k0,k1 => by
  simp only [L73v1,ob_bif,ob_ob,ob_none,nl73v1 m]
theorem r73v1 :
  loopH (eB A50v3 (C1 u) u) N73v1 (m + 1) (s73v0 n0 f0 i0 i1) k =
  (bif (decide (i1 < i0)) then (bif (inb i1 n0) then (ob (F61 u (f0 i1.toNat 0).int (f0 i1.toNat 1).int) fun x0 => (bif x0 then (k .ret (s73v1 i1)) else (loopH (eB A50v3 (C1 u) u) N73v1 m (s73v0 n0 f0 i0 (w64 (i1 + 1))) k))) else none) else (k (.exit 0) s73v2)) := by kernel_rfl
theorem q73v1 : ∀ (m : Nat) (x0 : Int),
  loopH (eB A50v3 (C1 u) u) N73v1 m (s73v0 n0 f0 i0 x0) k = L73v1 u n0 f0 i0 m x0 (fun x1 => k .ret (s73v1 x1)) (k (.exit 0) s73v2)
 | 0,_ => rfl
 | m + 1,x0 => by
  rw [r73v1]
  simp only [L73v1,q73v1 m]
def F73 (x0 : Nat) (x1 : FF) : Option (Int) :=
 (L73v1 u x0 x1 (Int.ofNat x0) u 0
  (fun x2 => (some x2))
  (some (-1)))
def s73v3 : St := ⟨[.x (.c (ro kP n0 f0)),.x (.c (.fn 30 0 (listF []))),uu,uu,vxi 0,uu,.x (.c (ro kP n0 f0)),vxi (Int.ofNat n0),vxi 0,uu,uu,uu,uu,uu,uu,uu,uu,uu,uu],[]⟩
theorem t73v1 :
  loopN (eB A50v3 (C1 u) u) N73v1 u (s73v3 n0 f0) k =
  L73v1 u n0 f0 (Int.ofNat n0) u 0 (fun x0 => k .ret (s73v1 x0)) (k (.exit 0) s73v2) :=
 Eq.trans (loopN_at (by kernel_rfl)) (q73v1 ..)
theorem g73v2 :
  (kBlk 0 (kSeq (C1 u) u (rl 4 15 []) A50v4 (finish A50))) .ret (s73v1 i0) =
  (some [.v (vi i0)]) := by kernel_rfl
theorem g73v3 :
  (kBlk 0 (kSeq (C1 u) u (rl 4 15 []) A50v4 (finish A50))) (.exit 0) s73v2 =
  (some [.v (vi (-1))]) := by kernel_rfl
theorem e73 : evalF (C1 u) u A50 [.v (ro kP n0 f0),.v (.fn 30 0 (listF []))] = ob (F73 u n0 f0) fun t => some [.v (vi t)] := Eq.trans (b := (loopN (eB A50v3 (C1 u) u) N73v1 u (s73v3 n0 f0) (kBlk 0 (kSeq (C1 u) u (rl 4 15 []) A50v4 (finish A50))))) (by kernel_rfl) (by
 simp only [F73,ob_bif,ob_ob,ob_none,ob_some,nl73v1,t73v1,g73v2,g73v3])
def O73 : Ora := mkO (qc (av (cL kP)) (q1 (av (cF 30 0 t0)))) (fun x => F73 u x.1.1 x.1.2) fun t => [.v (vi t)]
theorem d73 : DO (O73 u) (C1 u) 50 A50 := dO u (fun x => by exact e73 u x.1.1 x.1.2)
def C2 : Oracle := (C1 u).add 50 (fun l => isFn 30 l 1) (O73 u)
def A29 : AF := ⟨9,[.tmp 4],
 (.seq (.region 0 [o1 4 (sb false)] 0 none) []
 (.seq (.region 1 [mv 5 0,mv 6 1,o1 7 (cs 50 [5,6] [22,42]),o1 8 (bk .geq 3 7 0),o1 4 (sg 8)] 0 none) []
 (.ret (rl 0 4 (rl 5 4 [])))))⟩
def F50 (x0 : Nat) (x1 : FF) : Option (Bool) :=
 (ob (F73 u x0 x1) fun x2 => (some (decide (x2 ≥ 0))))
theorem e50 : evalF (C2 u) u A29 [.v (ro kP n0 f0),.v (.fn 30 0 (listF []))] = ob (F50 u n0 f0) fun t => some [.v (.b t)] := Eq.trans (b := (ob (F73 u n0 f0) fun x0 => (some [.v (.b (decide (x0 ≥ 0)))]))) (by kernel_rfl) (by
 simp only [F50,ob_bif,ob_ob,ob_none,ob_some])
def O50 : Ora := mkO (qc (av (cL kP)) (q1 (av (cF 30 0 t0)))) (fun x => F50 u x.1.1 x.1.2) fun t => [.v (.b t)]
theorem d50 : DO (O50 u) (C2 u) 29 A29 := dO u (fun x => by exact e50 u x.1.1 x.1.2)
def C3 : Oracle := (C2 u).add 29 (fun l => isFn 30 l 1) (O50 u)
def A36 : AF := ⟨30,[.tmp 6],
 (.seq (.region 0 [o1 3 (bx 0 31 0),o1 4 (bx 1 31 1),o1 5 (bx 2 31 2),o1 6 (sk 0)] 3 none) []
 (.seq (.region 1 [o1 7 (fa 31 4 0 0),o1 8 (lo 3 7),o1 9 (fa 31 3 0 0),o1 10 (lo 3 9),o1 11 (bt .sub 3 8 10),o1 12 (fa 31 5 1 1),o1 13 (lo 3 12),o1 14 (fa 31 3 1 1),o1 15 (lo 3 14),o1 16 (bt .sub 3 13 15),o1 17 (bt .mul 3 11 16),o1 18 (fa 31 4 1 1),o1 19 (lo 3 18),o1 20 (fa 31 3 1 1),o1 21 (lo 3 20),o1 22 (bt .sub 3 19 21),o1 23 (fa 31 5 0 0),o1 24 (lo 3 23),o1 25 (fa 31 3 0 0),o1 26 (lo 3 25),o1 27 (bt .sub 3 24 26),o1 28 (bt .mul 3 22 27),o1 29 (bt .sub 3 17 28),o1 6 (sg 29)] 0 none) []
 (.ret (rl 0 6 (rl 7 23 [])))))⟩
def F79 (u : Nat) (x0 x1 x2 x3 x4 x5 : Int) : Option (Int) :=
 (some (w64 ((w64 ((w64 (x2 - x0)) * (w64 (x5 - x1)))) - (w64 ((w64 (x3 - x1)) * (w64 (x4 - x0)))))))
theorem e79 : evalF (C3 u) u A36 [.agg [(vi i0),(vi i1)],.agg [(vi i2),(vi i3)],.agg [(vi i4),(vi i5)]] = ob (F79 u i0 i1 i2 i3 i4 i5) fun t => some [.v (vi t)] := Eq.trans (b := (some [.v (vi (w64 ((w64 ((w64 (i2 - i0)) * (w64 (i5 - i1)))) - (w64 ((w64 (i3 - i1)) * (w64 (i4 - i0)))))))])) (by kernel_rfl) (by
 simp only [F79,ob_bif,ob_ob,ob_none,ob_some])
def O79 : Ora := mkO (qc (ag (tc ci (t1 ci))) (qc (ag (tc ci (t1 ci))) (q1 (ag (tc ci (t1 ci)))))) (fun x => F79 u x.1.1 x.1.2 x.2.1.1 x.2.1.2 x.2.2.1 x.2.2.2) fun t => [.v (vi t)]
theorem d79 : DO (O79 u) (C3 u) 36 A36 := dO u (fun x => by exact e79 u x.1.1 x.1.2 x.2.1.1 x.2.1.2 x.2.2.1 x.2.2.2)
def C4 : Oracle := (C3 u).add 36 (fun _ => true) (O79 u)
def A54 : AF := ⟨45,[.tmp 6],
 (.seq (.region 0 [o1 3 (bx 0 31 0),o1 4 (bx 1 31 1),o1 5 (bx 2 31 2),o1 6 (sb false)] 3 none) []
 (.seq (.region 1 [o1 7 (fa 31 3 0 0),o1 8 (lo 3 7),o1 9 (fa 31 4 0 0),o1 10 (lo 3 9),o1 11 (.mm false [(tm 8),(tm 10)] [3,3]),o1 12 (fa 31 5 0 0),o1 13 (lo 3 12),o1 14 (bt .leq 3 11 13),mv 15 14,og 16 (fa 31 5 0 0) 15 true,og 17 (lo 3 16) 15 true,og 18 (fa 31 3 0 0) 15 true,og 19 (lo 3 18) 15 true,og 20 (fa 31 4 0 0) 15 true,og 21 (lo 3 20) 15 true,og 22 (.mm true [(tm 19),(tm 21)] [3,3]) 15 true,og 23 (bt .leq 3 17 22) 15 true,o1 24 (po 15 23),mv 25 24,og 26 (fa 31 3 1 1) 25 true,og 27 (lo 3 26) 25 true,og 28 (fa 31 4 1 1) 25 true,og 29 (lo 3 28) 25 true,og 30 (.mm false [(tm 27),(tm 29)] [3,3]) 25 true,og 31 (fa 31 5 1 1) 25 true,og 32 (lo 3 31) 25 true,og 33 (bt .leq 3 30 32) 25 true,o1 34 (po 25 33),mv 35 34,og 36 (fa 31 5 1 1) 35 true,og 37 (lo 3 36) 35 true,og 38 (fa 31 3 1 1) 35 true,og 39 (lo 3 38) 35 true,og 40 (fa 31 4 1 1) 35 true,og 41 (lo 3 40) 35 true,og 42 (.mm true [(tm 39),(tm 41)] [3,3]) 35 true,og 43 (bt .leq 3 37 42) 35 true,o1 44 (po 35 43),o1 6 (sg 44)] 0 none) []
 (.ret (rl 0 6 (rl 7 38 [])))))⟩
def F87 (u : Nat) (x0 x1 x2 x3 x4 x5 : Int) : Option (Bool) :=
 (bif ((decide ((if x2 < x0 then x2 else x0) ≤ x4)) == true) then (bif ((decide (x4 ≤ (if x2 > x0 then x2 else x0))) == true) then (bif ((decide ((if x3 < x1 then x3 else x1) ≤ x5)) == true) then (some (decide (x5 ≤ (if x3 > x1 then x3 else x1)))) else (some false)) else (some false)) else (some false))
theorem e87 : evalF (C4 u) u A54 [.agg [(vi i0),(vi i1)],.agg [(vi i2),(vi i3)],.agg [(vi i4),(vi i5)]] = ob (F87 u i0 i1 i2 i3 i4 i5) fun t => some [.v (.b t)] := Eq.trans (b := (bif ((decide ((if i2 < i0 then i2 else i0) ≤ i4)) == true) then (bif ((decide (i4 ≤ (if i2 > i0 then i2 else i0))) == true) then (bif ((decide ((if i3 < i1 then i3 else i1) ≤ i5)) == true) then (some [.v (.b (decide (i5 ≤ (if i3 > i1 then i3 else i1))))]) else (some [.v (.b false)])) else (some [.v (.b false)])) else (some [.v (.b false)]))) (by kernel_rfl) (by
 simp only [F87,ob_bif,ob_ob,ob_none,ob_some])
def O87 : Ora := mkO (qc (ag (tc ci (t1 ci))) (qc (ag (tc ci (t1 ci))) (q1 (ag (tc ci (t1 ci)))))) (fun x => F87 u x.1.1 x.1.2 x.2.1.1 x.2.1.2 x.2.2.1 x.2.2.2) fun t => [.v (.b t)]
theorem d87 : DO (O87 u) (C4 u) 54 A54 := dO u (fun x => by exact e87 u x.1.1 x.1.2 x.2.1.1 x.2.1.2 x.2.2.1 x.2.2.2)
def C5 : Oracle := (C4 u).add 54 (fun _ => true) (O87 u)
def A38 : AF := ⟨18,[.tmp 6],
 (.seq (.region 0 [o1 3 (bx 0 31 0),o1 4 (bx 1 31 1),o1 5 (bx 2 31 2),o1 6 (sb false)] 3 none) []
 (.seq (.region 1 [o1 7 (ln 31 2 3),o1 8 (ln 31 2 4),o1 9 (ln 31 2 5),o1 10 (cs 36 [7,8,9] [31,31,31]),o1 11 (bk .eql 3 10 0),mv 12 11,og 13 (ln 31 2 3) 12 true,og 14 (ln 31 2 4) 12 true,og 15 (ln 31 2 5) 12 true,og 16 (cs 54 [13,14,15] [31,31,31]) 12 true,o1 17 (po 12 16),o1 6 (sg 17)] 0 none) []
 (.ret (rl 0 6 (rl 7 11 [])))))⟩
def F81 (x0 x1 x2 x3 x4 x5 : Int) : Option (Bool) :=
 (ob (F79 u x0 x1 x2 x3 x4 x5) fun x6 => (bif ((x6 == 0) == true) then (ob (F87 u x0 x1 x2 x3 x4 x5) fun x7 => (some x7)) else (some false)))
theorem e81 : evalF (C5 u) u A38 [.agg [(vi i0),(vi i1)],.agg [(vi i2),(vi i3)],.agg [(vi i4),(vi i5)]] = ob (F81 u i0 i1 i2 i3 i4 i5) fun t => some [.v (.b t)] := Eq.trans (b := (ob (F79 u i0 i1 i2 i3 i4 i5) fun x0 => (bif ((x0 == 0) == true) then (ob (F87 u i0 i1 i2 i3 i4 i5) fun x1 => (some [.v (.b x1)])) else (some [.v (.b false)])))) (by kernel_rfl) (by
 simp only [F81,ob_bif,ob_ob,ob_none,ob_some])
def O81 : Ora := mkO (qc (ag (tc ci (t1 ci))) (qc (ag (tc ci (t1 ci))) (q1 (ag (tc ci (t1 ci)))))) (fun x => F81 u x.1.1 x.1.2 x.2.1.1 x.2.1.2 x.2.2.1 x.2.2.2) fun t => [.v (.b t)]
theorem d81 : DO (O81 u) (C5 u) 38 A38 := dO u (fun x => by exact e81 u x.1.1 x.1.2 x.2.1.1 x.2.1.2 x.2.2.1 x.2.2.2)
def C6 : Oracle := (C5 u).add 38 (fun _ => true) (O81 u)
def A58 : AF := ⟨6,[.tmp 2],
 (.seq (.region 0 [o1 2 (sb false)] 0 none) []
 (.seq (.region 1 [mv 3 0,mv 4 0,o1 5 (bt .neq 3 3 4),o1 2 (sg 5)] 0 none) []
 (.ret [0,1,3,4,5])))⟩
def F90 (u : Nat) (x0 : Int) : Option (Bool) :=
 (some (x0 != x0))
theorem e90 : evalF (C6 u) u A58 [.v (vi i0)] = ob (F90 u i0) fun t => some [.v (.b t)] := Eq.trans (b := (some [.v (.b (i0 != i0))])) (by kernel_rfl) (by
 simp only [F90,ob_bif,ob_ob,ob_none,ob_some])
def O90 : Ora := mkO (q1 (av ci)) (fun x => F90 u x) fun t => [.v (.b t)]
theorem d90 : DO (O90 u) (C6 u) 58 A58 := dO u (fun x => by exact e90 u x)
def C7 : Oracle := (C6 u).add 58 (fun _ => true) (O90 u)
def A53v1 : AC := (.seq (.region 6 [o1 4 (sk (-1))] 0 none) []
 (.ret (rl 0 4 (rl 5 15 []))))
def A53v2 : AC := (.seq (.region 13 [o1 4 (sk 0)] 0 none) []
 (.ret (rl 0 4 (rl 5 15 []))))
def A53v3 : AC := (.seq (.seq (.region 11 [mv 17 0,mv 18 1,o1 19 (bt .gtr 3 17 18)] 0 none) []
 (.cond (tm 19)
 (.seq (.region 12 [o1 4 (sk 1)] 0 none) []
  (.ret (rl 0 4 (rl 5 15 []))))
 .skip)) [4,17,18,19]
 A53v2)
def A53v4 : AC := (.seq (.seq (.region 9 [mv 14 0,mv 15 1,o1 16 (bt .lss 3 14 15)] 0 none) []
 (.cond (tm 16)
 (.seq (.region 10 [o1 4 (sk (-1))] 0 none) []
  (.ret (rl 0 4 (rl 5 15 []))))
 .skip)) [4,14,15,16]
 A53v3)
def A53v5 : AC := (.seq (.seq (.region 7 [mv 13 6] 0 none) []
 (.cond (tm 13)
 (.seq (.region 8 [o1 4 (sk 1)] 0 none) []
  (.ret (rl 0 4 (rl 5 15 []))))
 .skip)) [4,13]
 A53v4)
def A53 : AF := ⟨20,[.tmp 4],
 (.seq (.region 0 [o1 4 (sk 0)] 0 none) []
 (.seq (.region 1 [mv 7 0,o1 8 (cs 58 [7] [3]),o1 5 (sg 8)] 0 none) []
 (.seq (.region 2 [mv 9 1,o1 10 (cs 58 [9] [3]),o1 6 (sg 10)] 0 none) []
 (.seq (.seq (.region 3 [mv 11 5] 0 none) []
 (.cond (tm 11)
 (.seq (.seq (.region 4 [mv 12 6] 0 none) []
  (.cond (tm 12)
  (.seq (.region 5 [o1 4 (sk 0)] 0 none) []
   (.ret (rl 0 4 (rl 5 15 []))))
  .skip)) [4,12]
  A53v1)
 .skip)) [4,11,12]
 A53v5))))⟩
def F89 (x0 x1 : Int) : Option (Int) :=
 (ob (F90 u x0) fun x2 => (ob (F90 u x1) fun x3 => (bif x2 then (bif x3 then (some 0) else (some (-1))) else (bif x3 then (some 1) else (bif (decide (x0 < x1)) then (some (-1)) else (bif (decide (x0 > x1)) then (some 1) else (some 0)))))))
theorem e89 : evalF (C7 u) u A53 [.v (vi i0),.v (vi i1)] = ob (F89 u i0 i1) fun t => some [.v (vi t)] := Eq.trans (b := (ob (F90 u i0) fun x0 => (ob (F90 u i1) fun x1 => (bif x0 then (bif x1 then (some [.v (vi 0)]) else (some [.v (vi (-1))])) else (bif x1 then (some [.v (vi 1)]) else (bif (decide (i0 < i1)) then (some [.v (vi (-1))]) else (bif (decide (i0 > i1)) then (some [.v (vi 1)]) else (some [.v (vi 0)])))))))) (by kernel_rfl) (by
 simp only [F89,ob_bif,ob_ob,ob_none,ob_some])
def O89 : Ora := mkO (qc (av ci) (q1 (av ci))) (fun x => F89 u x.1 x.2) fun t => [.v (vi t)]
theorem d89 : DO (O89 u) (C7 u) 53 A53 := dO u (fun x => by exact e89 u x.1 x.2)
def C8 : Oracle := (C7 u).add 53 (fun _ => true) (O89 u)
def A35 : AF := ⟨5,[.tmp 2],
 (.seq (.region 0 [o1 2 (sk 0)] 0 none) []
 (.seq (.region 1 [mv 3 0,o1 4 (.call 53 [(tm 3),(ic 0)] [3,3] .snap),o1 2 (sg 4)] 0 none) []
 (.ret [0,1,3,4])))⟩
def F86 (x0 : Int) : Option (Int) :=
 (ob (F89 u x0 0) fun x1 => (some x1))
theorem e86 : evalF (C8 u) u A35 [.v (vi i0)] = ob (F86 u i0) fun t => some [.v (vi t)] := Eq.trans (b := (ob (F89 u i0 0) fun x0 => (some [.v (vi x0)]))) (by kernel_rfl) (by
 simp only [F86,ob_bif,ob_ob,ob_none,ob_some])
def O86 : Ora := mkO (q1 (av ci)) (fun x => F86 u x) fun t => [.v (vi t)]
theorem d86 : DO (O86 u) (C8 u) 35 A35 := dO u (fun x => by exact e86 u x)
def C9 : Oracle := (C8 u).add 35 (fun _ => true) (O86 u)
def A51v1 : AC := (.seq (.region 3 [o1 31 (ln 31 2 4),o1 32 (ln 31 2 5),o1 33 (ln 31 2 6),o1 34 (cs 36 [31,32,33] [31,31,31]),o1 35 (cs 35 [34] [3]),o1 36 (ln 31 2 4),o1 37 (ln 31 2 5),o1 38 (ln 31 2 7),o1 39 (cs 36 [36,37,38] [31,31,31]),o1 40 (cs 35 [39] [3]),o1 41 (bt .mul 3 35 40),o1 42 (bk .lss 3 41 0),mv 43 42,og 44 (ln 31 2 6) 43 true,og 45 (ln 31 2 7) 43 true,og 46 (ln 31 2 4) 43 true,og 47 (cs 36 [44,45,46] [31,31,31]) 43 true,og 48 (cs 35 [47] [3]) 43 true,og 49 (ln 31 2 6) 43 true,og 50 (ln 31 2 7) 43 true,og 51 (ln 31 2 5) 43 true,og 52 (cs 36 [49,50,51] [31,31,31]) 43 true,og 53 (cs 35 [52] [3]) 43 true,og 54 (bt .mul 3 48 53) 43 true,og 55 (bk .lss 3 54 0) 43 true,o1 56 (po 43 55),o1 8 (sg 56)] 0 (some [[],[],[],[0,1,2],(rl 0 4 []),[],[],[],(rl 0 8 []),(rl 0 9 []),(rl 0 10 []),(rl 0 11 []),(rl 0 12 []),(rl 0 13 []),(rl 0 13 []),(rl 0 13 []),(rl 0 16 []),(rl 0 17 []),(rl 0 13 []),(rl 0 13 []),(rl 0 13 []),(rl 0 21 []),(rl 0 22 []),(rl 0 23 []),(rl 0 24 []),(rl 0 25 []),(rl 0 26 [])])) []
 (.ret (rl 0 8 (rl 9 48 []))))
def A51 : AF := ⟨57,[.tmp 8],
 (.seq (.region 0 [o1 4 (bx 0 31 0),o1 5 (bx 1 31 1),o1 6 (bx 2 31 2),o1 7 (bx 3 31 3),o1 8 (sb false)] 4 none) []
 (.seq (.seq (.region 1 [o1 9 (ln 31 2 4),o1 10 (ln 31 2 5),o1 11 (ln 31 2 6),o1 12 (cs 38 [9,10,11] [31,31,31]),mv 13 12,og 14 (ln 31 2 4) 13 false,og 15 (ln 31 2 5) 13 false,og 16 (ln 31 2 7) 13 false,og 17 (cs 38 [14,15,16] [31,31,31]) 13 false,o1 18 (pa 13 17),mv 19 18,og 20 (ln 31 2 6) 19 false,og 21 (ln 31 2 7) 19 false,og 22 (ln 31 2 4) 19 false,og 23 (cs 38 [20,21,22] [31,31,31]) 19 false,o1 24 (pa 19 23),mv 25 24,og 26 (ln 31 2 6) 25 false,og 27 (ln 31 2 7) 25 false,og 28 (ln 31 2 5) 25 false,og 29 (cs 38 [26,27,28] [31,31,31]) 25 false,o1 30 (pa 25 29)] 0 none) []
 (.cond (tm 30)
 (.seq (.region 2 [o1 8 (sb true)] 0 none) []
  (.ret (rl 0 8 (rl 9 48 []))))
 .skip)) (rl 8 23 [])
 A51v1))⟩
def F80 (x0 x1 x2 x3 x4 x5 x6 x7 : Int) : Option (Bool) :=
 (ob (F81 u x0 x1 x2 x3 x4 x5) fun x8 => (bif (x8 == false) then (ob (F81 u x0 x1 x2 x3 x6 x7) fun x9 => (bif (x9 == false) then (ob (F81 u x4 x5 x6 x7 x0 x1) fun xA => (bif (xA == false) then (ob (F81 u x4 x5 x6 x7 x2 x3) fun xB => (bif xB then (some true) else (ob (F79 u x0 x1 x2 x3 x4 x5) fun xC => (ob (F86 u xC) fun xD => (ob (F79 u x0 x1 x2 x3 x6 x7) fun xE => (ob (F86 u xE) fun xF => (bif ((decide ((w64 (xD * xF)) < 0)) == true) then (ob (F79 u x4 x5 x6 x7 x0 x1) fun xG => (ob (F86 u xG) fun xH => (ob (F79 u x4 x5 x6 x7 x2 x3) fun xI => (ob (F86 u xI) fun xJ => (some (decide ((w64 (xH * xJ)) < 0))))))) else (some false)))))))) else (some true))) else (some true))) else (some true)))
theorem e80 : evalF (C9 u) u A51 [.agg [(vi i0),(vi i1)],.agg [(vi i2),(vi i3)],.agg [(vi i4),(vi i5)],.agg [(vi i6),(vi i7)]] = ob (F80 u i0 i1 i2 i3 i4 i5 i6 i7) fun t => some [.v (.b t)] := Eq.trans (b := (ob (F81 u i0 i1 i2 i3 i4 i5) fun x0 => (bif (x0 == false) then (ob (F81 u i0 i1 i2 i3 i6 i7) fun x1 => (bif (x1 == false) then (ob (F81 u i4 i5 i6 i7 i0 i1) fun x2 => (bif (x2 == false) then (ob (F81 u i4 i5 i6 i7 i2 i3) fun x3 => (bif x3 then (some [.v (.b true)]) else (ob (F79 u i0 i1 i2 i3 i4 i5) fun x4 => (ob (F86 u x4) fun x5 => (ob (F79 u i0 i1 i2 i3 i6 i7) fun x6 => (ob (F86 u x6) fun x7 => (bif ((decide ((w64 (x5 * x7)) < 0)) == true) then (ob (F79 u i4 i5 i6 i7 i0 i1) fun x8 => (ob (F86 u x8) fun x9 => (ob (F79 u i4 i5 i6 i7 i2 i3) fun xA => (ob (F86 u xA) fun xB => (some [.v (.b (decide ((w64 (x9 * xB)) < 0)))]))))) else (some [.v (.b false)])))))))) else (some [.v (.b true)]))) else (some [.v (.b true)]))) else (some [.v (.b true)])))) (by kernel_rfl) (by
 simp only [F80,ob_bif,ob_ob,ob_none,ob_some])
def O80 : Ora := mkO (qc (ag (tc ci (t1 ci))) (qc (ag (tc ci (t1 ci))) (qc (ag (tc ci (t1 ci))) (q1 (ag (tc ci (t1 ci))))))) (fun x => F80 u x.1.1 x.1.2 x.2.1.1 x.2.1.2 x.2.2.1.1 x.2.2.1.2 x.2.2.2.1 x.2.2.2.2) fun t => [.v (.b t)]
theorem d80 : DO (O80 u) (C9 u) 51 A51 := dO u (fun x => by exact e80 u x.1.1 x.1.2 x.2.1.1 x.2.1.2 x.2.2.1.1 x.2.2.1.2 x.2.2.2.1 x.2.2.2.2)
def C10 : Oracle := (C9 u).add 51 (fun _ => true) (O80 u)
def A31v1 : AC := (.region 13 [mv 73 8,o1 74 (bk .add 3 73 1),o1 8 (sg 74)] 0 none)
def A31v2 : AC := (.seq (.block 3
 (.seq (.region 14 [mv 75 8,o1 76 (bk .add 3 75 1),mv 77 3,o1 78 (bt .rem 3 76 77),mv 79 4,o1 80 (bt .neq 3 78 79),mv 81 80,og 82 (ln 31 2 5) 81 true,og 83 (ln 31 2 6) 81 true,og 84 (.move (tm 0)) 81 true,og 85 (.move (tm 8)) 81 true,og 86 (.indexAddr 22 31 2 (tm 84) (tm 85)) 81 true,og 87 (ln 31 2 86) 81 true,og 88 (.move (tm 0)) 81 true,og 89 (.move (tm 8)) 81 true,og 90 (bk .add 3 89 1) 81 true,og 91 (.move (tm 3)) 81 true,og 92 (bt .rem 3 90 91) 81 true,og 93 (.indexAddr 22 31 2 (tm 88) (tm 92)) 81 true,og 94 (ln 31 2 93) 81 true,og 95 (cs 51 [82,83,87,94] [31,31,31,31]) 81 true,o1 96 (po 81 95)] 0 (some [[],[0],[],[0,1,2],[],(rl 0 5 []),(rl 0 6 []),(rl 0 7 []),(rl 0 7 []),(rl 0 7 []),(rl 0 7 []),(rl 0 7 [9,10]),(rl 0 7 [9,10,11]),(rl 0 7 []),(rl 0 7 []),(rl 0 7 [14]),(rl 0 7 []),(rl 0 7 [14,15,16]),(rl 0 7 (rl 13 5 [])),(rl 0 7 (rl 13 6 [])),(rl 0 20 []),(rl 0 21 [])])) []
  (.cond (tm 96)
  (.seq (.region 15 [o1 2 (sb false)] 0 none) []
   (.ret (0 :: 1 :: (rl 3 95 []))))
  .skip))) (2 :: (rl 75 22 []))
 A31v1)
def A31v3 : AC := (.seq (.seq (.region 12 [mv 70 8,mv 71 3,o1 72 (bt .lss 3 70 71)] 0 none) []
 (.cond (tm 72)
 .skip
 (.exit 2 (1 :: 2 :: (rl 4 8 (rl 14 84 [])))))) [70,71,72]
 A31v2)
def A31v4 : AC := (.seq (.region 11 [mv 68 4,o1 69 (bk .add 3 68 2),o1 8 (sg 69)] 0 none) []
 (.block 2
 (.loop [] (1 :: 2 :: 7 :: 9 :: 10 :: 11 :: (rl 14 84 []))
  A31v3)))
def A31v5 : AC := (.seq (.region 8 [mv 30 0,mv 31 4,o1 32 (bk .add 3 31 2),mv 33 3,o1 34 (bt .rem 3 32 33),o1 35 (.indexAddr 22 31 2 (tm 30) (tm 34)),o1 36 (ln 31 2 35),o1 7 (.alloc 0 31 [vci 0,vci 0]),o0 (.store 31 2 (tm 7) (tm 36))] 1 none) []
 (.seq (.seq (.region 9 [o1 37 (ln 31 2 5),o1 38 (ln 31 2 6),o1 39 (ln 31 2 7),o1 40 (cs 36 [37,38,39] [31,31,31]),o1 41 (bk .eql 3 40 0),mv 42 41,og 43 (fa 31 5 0 0) 42 true,og 44 (lo 3 43) 42 true,og 45 (fa 31 6 0 0) 42 true,og 46 (lo 3 45) 42 true,og 47 (bt .sub 3 44 46) 42 true,og 48 (fa 31 7 0 0) 42 true,og 49 (lo 3 48) 42 true,og 50 (fa 31 6 0 0) 42 true,og 51 (lo 3 50) 42 true,og 52 (bt .sub 3 49 51) 42 true,og 53 (bt .mul 3 47 52) 42 true,og 54 (fa 31 5 1 1) 42 true,og 55 (lo 3 54) 42 true,og 56 (fa 31 6 1 1) 42 true,og 57 (lo 3 56) 42 true,og 58 (bt .sub 3 55 57) 42 true,og 59 (fa 31 7 1 1) 42 true,og 60 (lo 3 59) 42 true,og 61 (fa 31 6 1 1) 42 true,og 62 (lo 3 61) 42 true,og 63 (bt .sub 3 60 62) 42 true,og 64 (bt .mul 3 58 63) 42 true,og 65 (bt .add 3 53 64) 42 true,og 66 (bk .gtr 3 65 0) 42 true,o1 67 (po 42 66)] 0 none) []
 (.cond (tm 67)
 (.seq (.region 10 [o1 2 (sb false)] 0 none) []
  (.ret (0 :: 1 :: (rl 3 95 []))))
 .skip)) (2 :: (rl 37 31 []))
 A31v4))
def A31v6 : AC := (.region 16 [o1 97 (bk .add 3 13 1),mv 13 97] 0 none)
def A31v7 : AC := (.seq (.block 1
 (.seq (.region 4 [mv 15 13,o1 4 (sg 15)] 0 none) []
  (.seq (.region 5 [mv 16 0,mv 17 4,o1 18 (.indexAddr 22 31 2 (tm 16) (tm 17)),o1 19 (ln 31 2 18),mv 20 0,mv 21 4,o1 22 (bk .add 3 21 1),mv 23 3,o1 24 (bt .rem 3 22 23),o1 25 (.indexAddr 22 31 2 (tm 20) (tm 24)),o1 26 (ln 31 2 25),o1 5 (.alloc 0 31 [vci 0,vci 0]),o1 6 (.alloc 1 31 [vci 0,vci 0]),o0 (.store 31 2 (tm 5) (tm 19)),o0 (.store 31 2 (tm 6) (tm 26))] 2 (some [[],[],[0,1],[0,1,2],[],[],[5],[],[5,6,7],(rl 4 5 []),(rl 4 6 []),[],[],(rl 0 4 [11,12]),(rl 0 14 [])])) []
  (.seq (.seq (.region 6 [o1 27 (ln 31 2 5),o1 28 (ln 31 2 6),o1 29 (.eqA false kP 31 (tm 27) (tm 28) 31)] 0 none) []
  (.cond (tm 29)
  (.seq (.region 7 [o1 2 (sb false)] 0 none) []
   (.ret (0 :: 1 :: (rl 3 95 []))))
  .skip)) [2,27,28,29]
  A31v5)))) (2 :: (rl 4 5 (rl 15 82 [])))
 A31v6)
def A31v8 : AC := (.seq (.region 3 [o1 14 (bt .lss 3 13 12)] 0 none) []
 (.seq (.cond (tm 14)
 .skip
 (.exit 0 (rl 0 98 []))) []
 A31v7))
def A31v9 : AC := (.seq (.region 17 [o1 2 (sb true)] 0 none) []
 (.ret (0 :: 1 :: (rl 3 95 []))))
def A31 : AF := ⟨98,[.tmp 2],
 (.seq (.region 0 [o1 2 (sb false)] 0 none) []
 (.seq (.region 1 [mv 9 0,o1 10 (.len 22 false (tm 9)),o1 3 (sg 10)] 0 none) []
 (.seq (.seq (.region 2 [mv 11 0,o1 12 (.len 22 false (tm 11)),o1 13 (.move (ic 0))] 0 none) []
 (.block 0
 (.loop [] (1 :: 2 :: (rl 4 8 (rl 14 84 [])))
  A31v8))) (2 :: (rl 4 5 (rl 11 87 [])))
 A31v9)))⟩
def N62v2 : St → Option St := nN 3 (1 :: 2 :: 7 :: 9 :: 10 :: 11 :: (rl 14 84 []))
def s62v0 : St := ⟨(.x (.c (ro kP n0 f0)) :: .u :: .u :: vxi i0 :: vxi i1 :: .x (.ptr 0 0) :: .x (.ptr 1 0) :: .u :: vxi i2 :: (us 3 (vxi i0 :: vxi i1 :: (us 84 [])))),[.box [(vci i3),(vci i4)],.box [(vci i5),(vci i6)],.box [(vci i7),(vci i8)]]⟩
def s62v1 : St := ⟨(.u :: .u :: vxb false :: (us 95 [])),[.box [(vci i0),(vci i1)],.box [(vci i2),(vci i3)],.box [(vci i4),(vci i5)]]⟩
def s62v2 : St := ⟨(.x (.c (ro kP n0 f0)) :: .u :: .u :: vxi i0 :: (us 8 (vxi i0 :: vxi i1 :: (us 84 [])))),[.box [(vci i2),(vci i3)],.box [(vci i4),(vci i5)],.box [(vci i6),(vci i7)]]⟩
def L62v2 {ρ : Type} (u : Nat) (x0 : Nat) (x1 : FF) (x2 x3 x4 x5 x6 x7 x8 x9 : Int) : Nat → Int → (Option ρ) → (Option ρ) → Option ρ
 | 0,_,_,_ => none
 | m + 1,xA,k0,k1 =>
  (bif (decide (xA < x2)) then (bif (x2 == 0) then none else (bif (((Int.tmod (w64 (xA + 1)) x2) != x3) == true) then (bif (inb xA x0) then (bif (x2 == 0) then none else (bif (inb (Int.tmod (w64 (xA + 1)) x2) x0) then (ob (F80 u x4 x5 x6 x7 (x1 xA.toNat 0).int (x1 xA.toNat 1).int (CV.int (x1 (Int.toNat (Int.tmod (w64 (xA + 1)) x2)) 0)) (CV.int (x1 (Int.toNat (Int.tmod (w64 (xA + 1)) x2)) 1))) fun xB => (bif xB then k0 else (L62v2 u x0 x1 x2 x3 x4 x5 x6 x7 x8 x9 m (w64 (xA + 1)) k0 k1))) else none)) else none) else (L62v2 u x0 x1 x2 x3 x4 x5 x6 x7 x8 x9 m (w64 (xA + 1)) k0 k1))) else k1)
theorem nl62v2 : ∀ (m : Nat) (x0 : Int) (k0 : Option ρ) (k1 : Option ρ),ob (L62v2 u n0 f0 i0 i1 i2 i3 i4 i5 i6 i7 m x0 k0 k1) ng = L62v2 u n0 f0 i0 i1 i2 i3 i4 i5 i6 i7 m x0 (ob k0 ng) (ob k1 ng)
 | 0,_,_,_ => rfl
 | m + 1,x0,k0,k1 => by
  simp only [L62v2,ob_bif,ob_ob,ob_none,nl62v2 m]
theorem r62v2 :
  loopH (eB A31v3 (C10 u) u) N62v2 (m + 1) (s62v0 n0 f0 i0 i1 i8 i2 i3 i4 i5 i6 i7) k =
  (bif (decide (i8 < i0)) then (bif (i0 == 0) then none else (bif (((Int.tmod (w64 (i8 + 1)) i0) != i1) == true) then (bif (inb i8 n0) then (bif (i0 == 0) then none else (bif (inb (Int.tmod (w64 (i8 + 1)) i0) n0) then (ob (F80 u i2 i3 i4 i5 (f0 i8.toNat 0).int (f0 i8.toNat 1).int (CV.int (f0 (Int.toNat (Int.tmod (w64 (i8 + 1)) i0)) 0)) (CV.int (f0 (Int.toNat (Int.tmod (w64 (i8 + 1)) i0)) 1))) fun x0 => (bif x0 then (k .ret (s62v1 i2 i3 i4 i5 i6 i7)) else (loopH (eB A31v3 (C10 u) u) N62v2 m (s62v0 n0 f0 i0 i1 (w64 (i8 + 1)) i2 i3 i4 i5 i6 i7) k))) else none)) else none) else (loopH (eB A31v3 (C10 u) u) N62v2 m (s62v0 n0 f0 i0 i1 (w64 (i8 + 1)) i2 i3 i4 i5 i6 i7) k))) else (k (.exit 2) (s62v2 n0 f0 i0 i1 i2 i3 i4 i5 i6 i7))) := by kernel_rfl
theorem q62v2 : ∀ (m : Nat) (x0 : Int),
  loopH (eB A31v3 (C10 u) u) N62v2 m (s62v0 n0 f0 i0 i1 x0 i2 i3 i4 i5 i6 i7) k = L62v2 u n0 f0 i0 i1 i2 i3 i4 i5 i6 i7 m x0 (k .ret (s62v1 i2 i3 i4 i5 i6 i7)) (k (.exit 2) (s62v2 n0 f0 i0 i1 i2 i3 i4 i5 i6 i7))
 | 0,_ => rfl
 | m + 1,x0 => by
  rw [r62v2]
  simp only [L62v2,q62v2 m]
def N62v3 : St → Option St := nN 0 (1 :: 2 :: (rl 4 8 (rl 14 84 [])))
def s62v3 : St := ⟨(.x (.c (ro kP n0 f0)) :: .u :: .u :: vxi i0 :: (us 8 (vxi i0 :: vxi i1 :: (us 84 [])))),[]⟩
def s62v4 : St := ⟨(.u :: .u :: vxb false :: (us 95 [])),[.box [(vci i0),(vci i1)],.box [(vci i2),(vci i3)]]⟩
def s62v5 : St := ⟨(.u :: .u :: vxb false :: (us 95 [])),[.box [(vci i0),(vci i1)],.box [(vci i2),(vci i3)],.box [(vci i4),(vci i5)]]⟩
def s62v6 : St := ⟨(us 98 []),[]⟩
def L62v3 {ρ : Type} (u : Nat) (x0 : Nat) (x1 : FF) (x2 : Int) : Nat → Int → (Int → Int → Int → Int → Option ρ) → (Int → Int → Int → Int → Int → Int → Option ρ) → (Option ρ) → Option ρ
 | 0,_,_,_,_ => none
 | m + 1,x3,k0,k1,k2 =>
  (bif (decide (x3 < x2)) then (bif (inb x3 x0) then (bif (x2 == 0) then none else (bif (inb (Int.tmod (w64 (x3 + 1)) x2) x0) then (bif (((x1 x3.toNat 0).int == (CV.int (x1 (Int.toNat (Int.tmod (w64 (x3 + 1)) x2)) 0))) && (((x1 x3.toNat 1).int == (CV.int (x1 (Int.toNat (Int.tmod (w64 (x3 + 1)) x2)) 1))) && true)) then (k0 (x1 x3.toNat 0).int (x1 x3.toNat 1).int (CV.int (x1 (Int.toNat (Int.tmod (w64 (x3 + 1)) x2)) 0)) (CV.int (x1 (Int.toNat (Int.tmod (w64 (x3 + 1)) x2)) 1))) else (bif (x2 == 0) then none else (bif (inb (Int.tmod (w64 (x3 + 2)) x2) x0) then (ob (F79 u (x1 x3.toNat 0).int (x1 x3.toNat 1).int (CV.int (x1 (Int.toNat (Int.tmod (w64 (x3 + 1)) x2)) 0)) (CV.int (x1 (Int.toNat (Int.tmod (w64 (x3 + 1)) x2)) 1)) (CV.int (x1 (Int.toNat (Int.tmod (w64 (x3 + 2)) x2)) 0)) (CV.int (x1 (Int.toNat (Int.tmod (w64 (x3 + 2)) x2)) 1))) fun x4 => (bif ((x4 == 0) == true) then (bif (decide ((w64 ((w64 ((w64 ((x1 x3.toNat 0).int - (CV.int (x1 (Int.toNat (Int.tmod (w64 (x3 + 1)) x2)) 0)))) * (w64 ((CV.int (x1 (Int.toNat (Int.tmod (w64 (x3 + 2)) x2)) 0)) - (CV.int (x1 (Int.toNat (Int.tmod (w64 (x3 + 1)) x2)) 0)))))) + (w64 ((w64 ((x1 x3.toNat 1).int - (CV.int (x1 (Int.toNat (Int.tmod (w64 (x3 + 1)) x2)) 1)))) * (w64 ((CV.int (x1 (Int.toNat (Int.tmod (w64 (x3 + 2)) x2)) 1)) - (CV.int (x1 (Int.toNat (Int.tmod (w64 (x3 + 1)) x2)) 1)))))))) > 0)) then (k1 (x1 x3.toNat 0).int (x1 x3.toNat 1).int (CV.int (x1 (Int.toNat (Int.tmod (w64 (x3 + 1)) x2)) 0)) (CV.int (x1 (Int.toNat (Int.tmod (w64 (x3 + 1)) x2)) 1)) (CV.int (x1 (Int.toNat (Int.tmod (w64 (x3 + 2)) x2)) 0)) (CV.int (x1 (Int.toNat (Int.tmod (w64 (x3 + 2)) x2)) 1))) else (L62v2 u x0 x1 x2 x3 (x1 x3.toNat 0).int (x1 x3.toNat 1).int (CV.int (x1 (Int.toNat (Int.tmod (w64 (x3 + 1)) x2)) 0)) (CV.int (x1 (Int.toNat (Int.tmod (w64 (x3 + 1)) x2)) 1)) (CV.int (x1 (Int.toNat (Int.tmod (w64 (x3 + 2)) x2)) 0)) (CV.int (x1 (Int.toNat (Int.tmod (w64 (x3 + 2)) x2)) 1)) u (w64 (x3 + 2))
  (k1 (x1 x3.toNat 0).int (x1 x3.toNat 1).int (CV.int (x1 (Int.toNat (Int.tmod (w64 (x3 + 1)) x2)) 0)) (CV.int (x1 (Int.toNat (Int.tmod (w64 (x3 + 1)) x2)) 1)) (CV.int (x1 (Int.toNat (Int.tmod (w64 (x3 + 2)) x2)) 0)) (CV.int (x1 (Int.toNat (Int.tmod (w64 (x3 + 2)) x2)) 1)))
  (L62v3 u x0 x1 x2 m (w64 (x3 + 1)) k0 k1 k2))) else (L62v2 u x0 x1 x2 x3 (x1 x3.toNat 0).int (x1 x3.toNat 1).int (CV.int (x1 (Int.toNat (Int.tmod (w64 (x3 + 1)) x2)) 0)) (CV.int (x1 (Int.toNat (Int.tmod (w64 (x3 + 1)) x2)) 1)) (CV.int (x1 (Int.toNat (Int.tmod (w64 (x3 + 2)) x2)) 0)) (CV.int (x1 (Int.toNat (Int.tmod (w64 (x3 + 2)) x2)) 1)) u (w64 (x3 + 2))
  (k1 (x1 x3.toNat 0).int (x1 x3.toNat 1).int (CV.int (x1 (Int.toNat (Int.tmod (w64 (x3 + 1)) x2)) 0)) (CV.int (x1 (Int.toNat (Int.tmod (w64 (x3 + 1)) x2)) 1)) (CV.int (x1 (Int.toNat (Int.tmod (w64 (x3 + 2)) x2)) 0)) (CV.int (x1 (Int.toNat (Int.tmod (w64 (x3 + 2)) x2)) 1)))
  (L62v3 u x0 x1 x2 m (w64 (x3 + 1)) k0 k1 k2)))) else none))) else none)) else none) else k2)
theorem nl62v3 : ∀ (m : Nat) (x0 : Int) (k0 : Int → Int → Int → Int → Option ρ) (k1 : Int → Int → Int → Int → Int → Int → Option ρ) (k2 : Option ρ),ob (L62v3 u n0 f0 i0 m x0 k0 k1 k2) ng = L62v3 u n0 f0 i0 m x0 (fun x1 x2 x3 x4 => ob (k0 x1 x2 x3 x4) ng) (fun x5 x6 x7 x8 x9 xA => ob (k1 x5 x6 x7 x8 x9 xA) ng) (ob k2 ng)
 | 0,_,_,_,_ => rfl
 | m + 1,x0,k0,k1,k2 => by
  simp only [L62v3,ob_bif,ob_ob,ob_none,nl62v3 m,nl62v2]
def s62v7 : St := ⟨(.x (.c (ro kP n0 f0)) :: .u :: .u :: vxi i0 :: vxi i1 :: .x (.ptr 0 0) :: .x (.ptr 1 0) :: .x (.ptr 2 0) :: vxi (w64 (i1 + 2)) :: (us 3 (vxi i0 :: vxi i1 :: vxb true :: vxi i1 :: .x (.c (ro kP n0 f0)) :: vxi i1 :: .x (.c (.rp kP (f0 i1.toNat))) :: .agg [(vci (f0 i1.toNat 0).int),(vci (f0 i1.toNat 1).int)] :: .x (.c (ro kP n0 f0)) :: vxi i1 :: vxi (w64 (i1 + 1)) :: vxi i0 :: vxi (Int.tmod (w64 (i1 + 1)) i0) :: .x (.c (.rp kP (f0 (Int.toNat (Int.tmod (w64 (i1 + 1)) i0))))) :: .agg [(vci (CV.int (f0 (Int.toNat (Int.tmod (w64 (i1 + 1)) i0)) 0))),(vci (CV.int (f0 (Int.toNat (Int.tmod (w64 (i1 + 1)) i0)) 1)))] :: (us 3 (.x (.c (ro kP n0 f0)) :: vxi i1 :: vxi (w64 (i1 + 2)) :: vxi i0 :: vxi (Int.tmod (w64 (i1 + 2)) i0) :: .x (.c (.rp kP (f0 (Int.toNat (Int.tmod (w64 (i1 + 2)) i0))))) :: .agg [(vci (CV.int (f0 (Int.toNat (Int.tmod (w64 (i1 + 2)) i0)) 0))),(vci (CV.int (f0 (Int.toNat (Int.tmod (w64 (i1 + 2)) i0)) 1)))] :: (us 31 (vxi i1 :: vxi (w64 (i1 + 2)) :: (us 28 [])))))))),[.box [(vci (f0 i1.toNat 0).int),(vci (f0 i1.toNat 1).int)],.box [(vci (CV.int (f0 (Int.toNat (Int.tmod (w64 (i1 + 1)) i0)) 0))),(vci (CV.int (f0 (Int.toNat (Int.tmod (w64 (i1 + 1)) i0)) 1)))],.box [(vci (CV.int (f0 (Int.toNat (Int.tmod (w64 (i1 + 2)) i0)) 0))),(vci (CV.int (f0 (Int.toNat (Int.tmod (w64 (i1 + 2)) i0)) 1)))]]⟩
theorem r62v3 :
  loopH (eB A31v8 (C10 u) u) N62v3 (m + 1) (s62v3 n0 f0 i0 i1) k =
  (bif (decide (i1 < i0)) then (bif (inb i1 n0) then (bif (i0 == 0) then none else (bif (inb (Int.tmod (w64 (i1 + 1)) i0) n0) then (bif (((f0 i1.toNat 0).int == (CV.int (f0 (Int.toNat (Int.tmod (w64 (i1 + 1)) i0)) 0))) && (((f0 i1.toNat 1).int == (CV.int (f0 (Int.toNat (Int.tmod (w64 (i1 + 1)) i0)) 1))) && true)) then (k .ret (s62v4 (f0 i1.toNat 0).int (f0 i1.toNat 1).int (CV.int (f0 (Int.toNat (Int.tmod (w64 (i1 + 1)) i0)) 0)) (CV.int (f0 (Int.toNat (Int.tmod (w64 (i1 + 1)) i0)) 1)))) else (bif (i0 == 0) then none else (bif (inb (Int.tmod (w64 (i1 + 2)) i0) n0) then (ob (F79 u (f0 i1.toNat 0).int (f0 i1.toNat 1).int (CV.int (f0 (Int.toNat (Int.tmod (w64 (i1 + 1)) i0)) 0)) (CV.int (f0 (Int.toNat (Int.tmod (w64 (i1 + 1)) i0)) 1)) (CV.int (f0 (Int.toNat (Int.tmod (w64 (i1 + 2)) i0)) 0)) (CV.int (f0 (Int.toNat (Int.tmod (w64 (i1 + 2)) i0)) 1))) fun x0 => (bif ((x0 == 0) == true) then (bif (decide ((w64 ((w64 ((w64 ((f0 i1.toNat 0).int - (CV.int (f0 (Int.toNat (Int.tmod (w64 (i1 + 1)) i0)) 0)))) * (w64 ((CV.int (f0 (Int.toNat (Int.tmod (w64 (i1 + 2)) i0)) 0)) - (CV.int (f0 (Int.toNat (Int.tmod (w64 (i1 + 1)) i0)) 0)))))) + (w64 ((w64 ((f0 i1.toNat 1).int - (CV.int (f0 (Int.toNat (Int.tmod (w64 (i1 + 1)) i0)) 1)))) * (w64 ((CV.int (f0 (Int.toNat (Int.tmod (w64 (i1 + 2)) i0)) 1)) - (CV.int (f0 (Int.toNat (Int.tmod (w64 (i1 + 1)) i0)) 1)))))))) > 0)) then (k .ret (s62v5 (f0 i1.toNat 0).int (f0 i1.toNat 1).int (CV.int (f0 (Int.toNat (Int.tmod (w64 (i1 + 1)) i0)) 0)) (CV.int (f0 (Int.toNat (Int.tmod (w64 (i1 + 1)) i0)) 1)) (CV.int (f0 (Int.toNat (Int.tmod (w64 (i1 + 2)) i0)) 0)) (CV.int (f0 (Int.toNat (Int.tmod (w64 (i1 + 2)) i0)) 1)))) else (loopN (eB A31v3 (C10 u) u) N62v2 u (s62v7 n0 f0 i0 i1) (kBlk 2 (kBlk 1 (kSeq (C10 u) u (2 :: (rl 4 5 (rl 15 82 []))) A31v6 (kLoop (eB A31v8 (C10 u) u) N62v3 m k)))))) else (loopN (eB A31v3 (C10 u) u) N62v2 u (s62v7 n0 f0 i0 i1) (kBlk 2 (kBlk 1 (kSeq (C10 u) u (2 :: (rl 4 5 (rl 15 82 []))) A31v6 (kLoop (eB A31v8 (C10 u) u) N62v3 m k))))))) else none))) else none)) else none) else (k (.exit 0) s62v6)) := by kernel_rfl
theorem t62v1 :
  loopN (eB A31v3 (C10 u) u) N62v2 u (s62v7 n0 f0 i0 i1) k =
  L62v2 u n0 f0 i0 i1 (f0 i1.toNat 0).int (f0 i1.toNat 1).int (CV.int (f0 (Int.toNat (Int.tmod (w64 (i1 + 1)) i0)) 0)) (CV.int (f0 (Int.toNat (Int.tmod (w64 (i1 + 1)) i0)) 1)) (CV.int (f0 (Int.toNat (Int.tmod (w64 (i1 + 2)) i0)) 0)) (CV.int (f0 (Int.toNat (Int.tmod (w64 (i1 + 2)) i0)) 1)) u (w64 (i1 + 2)) (k .ret (s62v1 (f0 i1.toNat 0).int (f0 i1.toNat 1).int (CV.int (f0 (Int.toNat (Int.tmod (w64 (i1 + 1)) i0)) 0)) (CV.int (f0 (Int.toNat (Int.tmod (w64 (i1 + 1)) i0)) 1)) (CV.int (f0 (Int.toNat (Int.tmod (w64 (i1 + 2)) i0)) 0)) (CV.int (f0 (Int.toNat (Int.tmod (w64 (i1 + 2)) i0)) 1)))) (k (.exit 2) (s62v2 n0 f0 i0 i1 (f0 i1.toNat 0).int (f0 i1.toNat 1).int (CV.int (f0 (Int.toNat (Int.tmod (w64 (i1 + 1)) i0)) 0)) (CV.int (f0 (Int.toNat (Int.tmod (w64 (i1 + 1)) i0)) 1)) (CV.int (f0 (Int.toNat (Int.tmod (w64 (i1 + 2)) i0)) 0)) (CV.int (f0 (Int.toNat (Int.tmod (w64 (i1 + 2)) i0)) 1)))) :=
 Eq.trans (loopN_at (by kernel_rfl)) (q62v2 ..)
theorem g62v2 :
  (kBlk 2 (kBlk 1 (kSeq (C10 u) u (2 :: (rl 4 5 (rl 15 82 []))) A31v6 (kLoop (eB A31v8 (C10 u) u) N62v3 m k)))) .ret (s62v1 (f0 i0.toNat 0).int (f0 i0.toNat 1).int (CV.int (f0 (Int.toNat (Int.tmod (w64 (i0 + 1)) i1)) 0)) (CV.int (f0 (Int.toNat (Int.tmod (w64 (i0 + 1)) i1)) 1)) (CV.int (f0 (Int.toNat (Int.tmod (w64 (i0 + 2)) i1)) 0)) (CV.int (f0 (Int.toNat (Int.tmod (w64 (i0 + 2)) i1)) 1))) =
  (k .ret (s62v5 (f0 i0.toNat 0).int (f0 i0.toNat 1).int (CV.int (f0 (Int.toNat (Int.tmod (w64 (i0 + 1)) i1)) 0)) (CV.int (f0 (Int.toNat (Int.tmod (w64 (i0 + 1)) i1)) 1)) (CV.int (f0 (Int.toNat (Int.tmod (w64 (i0 + 2)) i1)) 0)) (CV.int (f0 (Int.toNat (Int.tmod (w64 (i0 + 2)) i1)) 1)))) := by kernel_rfl
theorem g62v3 :
  (kBlk 2 (kBlk 1 (kSeq (C10 u) u (2 :: (rl 4 5 (rl 15 82 []))) A31v6 (kLoop (eB A31v8 (C10 u) u) N62v3 m k)))) (.exit 2) (s62v2 n0 f0 i0 i1 (f0 i1.toNat 0).int (f0 i1.toNat 1).int (CV.int (f0 (Int.toNat (Int.tmod (w64 (i1 + 1)) i0)) 0)) (CV.int (f0 (Int.toNat (Int.tmod (w64 (i1 + 1)) i0)) 1)) (CV.int (f0 (Int.toNat (Int.tmod (w64 (i1 + 2)) i0)) 0)) (CV.int (f0 (Int.toNat (Int.tmod (w64 (i1 + 2)) i0)) 1))) =
  (loopH (eB A31v8 (C10 u) u) N62v3 m (s62v3 n0 f0 i0 (w64 (i1 + 1))) k) := by kernel_rfl
theorem t62v4 :
  loopN (eB A31v3 (C10 u) u) N62v2 u (s62v7 n0 f0 i0 i1) k =
  L62v2 u n0 f0 i0 i1 (f0 i1.toNat 0).int (f0 i1.toNat 1).int (CV.int (f0 (Int.toNat (Int.tmod (w64 (i1 + 1)) i0)) 0)) (CV.int (f0 (Int.toNat (Int.tmod (w64 (i1 + 1)) i0)) 1)) (CV.int (f0 (Int.toNat (Int.tmod (w64 (i1 + 2)) i0)) 0)) (CV.int (f0 (Int.toNat (Int.tmod (w64 (i1 + 2)) i0)) 1)) u (w64 (i1 + 2)) (k .ret (s62v1 (f0 i1.toNat 0).int (f0 i1.toNat 1).int (CV.int (f0 (Int.toNat (Int.tmod (w64 (i1 + 1)) i0)) 0)) (CV.int (f0 (Int.toNat (Int.tmod (w64 (i1 + 1)) i0)) 1)) (CV.int (f0 (Int.toNat (Int.tmod (w64 (i1 + 2)) i0)) 0)) (CV.int (f0 (Int.toNat (Int.tmod (w64 (i1 + 2)) i0)) 1)))) (k (.exit 2) (s62v2 n0 f0 i0 i1 (f0 i1.toNat 0).int (f0 i1.toNat 1).int (CV.int (f0 (Int.toNat (Int.tmod (w64 (i1 + 1)) i0)) 0)) (CV.int (f0 (Int.toNat (Int.tmod (w64 (i1 + 1)) i0)) 1)) (CV.int (f0 (Int.toNat (Int.tmod (w64 (i1 + 2)) i0)) 0)) (CV.int (f0 (Int.toNat (Int.tmod (w64 (i1 + 2)) i0)) 1)))) :=
 Eq.trans (loopN_at (by kernel_rfl)) (q62v2 ..)
theorem g62v5 :
  (kBlk 2 (kBlk 1 (kSeq (C10 u) u (2 :: (rl 4 5 (rl 15 82 []))) A31v6 (kLoop (eB A31v8 (C10 u) u) N62v3 m k)))) .ret (s62v1 (f0 i0.toNat 0).int (f0 i0.toNat 1).int (CV.int (f0 (Int.toNat (Int.tmod (w64 (i0 + 1)) i1)) 0)) (CV.int (f0 (Int.toNat (Int.tmod (w64 (i0 + 1)) i1)) 1)) (CV.int (f0 (Int.toNat (Int.tmod (w64 (i0 + 2)) i1)) 0)) (CV.int (f0 (Int.toNat (Int.tmod (w64 (i0 + 2)) i1)) 1))) =
  (k .ret (s62v5 (f0 i0.toNat 0).int (f0 i0.toNat 1).int (CV.int (f0 (Int.toNat (Int.tmod (w64 (i0 + 1)) i1)) 0)) (CV.int (f0 (Int.toNat (Int.tmod (w64 (i0 + 1)) i1)) 1)) (CV.int (f0 (Int.toNat (Int.tmod (w64 (i0 + 2)) i1)) 0)) (CV.int (f0 (Int.toNat (Int.tmod (w64 (i0 + 2)) i1)) 1)))) := by kernel_rfl
theorem g62v6 :
  (kBlk 2 (kBlk 1 (kSeq (C10 u) u (2 :: (rl 4 5 (rl 15 82 []))) A31v6 (kLoop (eB A31v8 (C10 u) u) N62v3 m k)))) (.exit 2) (s62v2 n0 f0 i0 i1 (f0 i1.toNat 0).int (f0 i1.toNat 1).int (CV.int (f0 (Int.toNat (Int.tmod (w64 (i1 + 1)) i0)) 0)) (CV.int (f0 (Int.toNat (Int.tmod (w64 (i1 + 1)) i0)) 1)) (CV.int (f0 (Int.toNat (Int.tmod (w64 (i1 + 2)) i0)) 0)) (CV.int (f0 (Int.toNat (Int.tmod (w64 (i1 + 2)) i0)) 1))) =
  (loopH (eB A31v8 (C10 u) u) N62v3 m (s62v3 n0 f0 i0 (w64 (i1 + 1))) k) := by kernel_rfl
theorem q62v3 : ∀ (m : Nat) (x0 : Int),
  loopH (eB A31v8 (C10 u) u) N62v3 m (s62v3 n0 f0 i0 x0) k = L62v3 u n0 f0 i0 m x0 (fun x1 x2 x3 x4 => k .ret (s62v4 x1 x2 x3 x4)) (fun x5 x6 x7 x8 x9 xA => k .ret (s62v5 x5 x6 x7 x8 x9 xA)) (k (.exit 0) s62v6)
 | 0,_ => rfl
 | m + 1,x0 => by
  rw [r62v3]
  simp only [L62v3,q62v3 m,t62v1,g62v2,g62v3,t62v4,g62v5,g62v6]
def F62 (x0 : Nat) (x1 : FF) : Option (Bool) :=
 (L62v3 u x0 x1 (Int.ofNat x0) u 0
  (fun x2 x3 x4 x5 => (some false))
  (fun x6 x7 x8 x9 xA xB => (some false))
  (some true))
def s62v8 : St := ⟨[.x (.c (ro kP n0 f0)),uu,vxb false,vxi (Int.ofNat n0),uu,uu,uu,uu,uu,.x (.c (ro kP n0 f0)),vxi (Int.ofNat n0),.x (.c (ro kP n0 f0)),vxi (Int.ofNat n0),vxi 0,uu,uu,uu,uu,uu,uu,uu,uu,uu,uu,uu,uu,uu,uu,uu,uu,uu,uu,uu,uu,uu,uu,uu,uu,uu,uu,uu,uu,uu,uu,uu,uu,uu,uu,uu,uu,uu,uu,uu,uu,uu,uu,uu,uu,uu,uu,uu,uu,uu,uu,uu,uu,uu,uu,uu,uu,uu,uu,uu,uu,uu,uu,uu,uu,uu,uu,uu,uu,uu,uu,uu,uu,uu,uu,uu,uu,uu,uu,uu,uu,uu,uu,uu,uu],[]⟩
theorem t62v7 :
  loopN (eB A31v8 (C10 u) u) N62v3 u (s62v8 n0 f0) k =
  L62v3 u n0 f0 (Int.ofNat n0) u 0 (fun x0 x1 x2 x3 => k .ret (s62v4 x0 x1 x2 x3)) (fun x4 x5 x6 x7 x8 x9 => k .ret (s62v5 x4 x5 x6 x7 x8 x9)) (k (.exit 0) s62v6) :=
 Eq.trans (loopN_at (by kernel_rfl)) (q62v3 ..)
theorem g62v8 :
  (kBlk 0 (kSeq (C10 u) u (2 :: (rl 4 5 (rl 11 87 []))) A31v9 (finish A31))) .ret (s62v4 i0 i1 i2 i3) =
  (some [.v (.b false)]) := by kernel_rfl
theorem g62v9 :
  (kBlk 0 (kSeq (C10 u) u (2 :: (rl 4 5 (rl 11 87 []))) A31v9 (finish A31))) .ret (s62v5 i0 i1 i2 i3 i4 i5) =
  (some [.v (.b false)]) := by kernel_rfl
theorem g62v10 :
  (kBlk 0 (kSeq (C10 u) u (2 :: (rl 4 5 (rl 11 87 []))) A31v9 (finish A31))) (.exit 0) s62v6 =
  (some [.v (.b true)]) := by kernel_rfl
theorem e62 : evalF (C10 u) u A31 [.v (ro kP n0 f0)] = ob (F62 u n0 f0) fun t => some [.v (.b t)] := Eq.trans (b := (loopN (eB A31v8 (C10 u) u) N62v3 u (s62v8 n0 f0) (kBlk 0 (kSeq (C10 u) u (2 :: (rl 4 5 (rl 11 87 []))) A31v9 (finish A31))))) (by kernel_rfl) (by
 simp only [F62,ob_bif,ob_ob,ob_none,ob_some,nl62v3,t62v7,g62v8,g62v9,g62v10])
def O62 : Ora := mkO (q1 (av (cL kP))) (fun x => F62 u x.1 x.2) fun t => [.v (.b t)]
theorem d62 : DO (O62 u) (C10 u) 31 A31 := dO u (fun x => by exact e62 u x.1 x.2)
def C11 : Oracle := (C10 u).add 31 (fun _ => true) (O62 u)
def A32v1 : AC := (.seq (.block 1
 (.seq (.region 4 [mv 11 9,o1 12 (.indexAddr 22 31 2 (tm 7) (tm 9)),o1 13 (ln 31 2 12),o1 5 (.alloc 0 31 [vci 0,vci 0]),o1 4 (sg 11),o0 (.store 31 2 (tm 5) (tm 13))] 1 none) []
  (.seq (.region 5 [mv 14 0,mv 15 4,o1 16 (bk .add 3 15 1),mv 17 0,o1 18 (.len 22 false (tm 17)),o1 19 (bt .rem 3 16 18),o1 20 (.indexAddr 22 31 2 (tm 14) (tm 19)),o1 21 (ln 31 2 20),o1 6 (.alloc 0 31 [vci 0,vci 0]),o0 (.store 31 2 (tm 6) (tm 21))] 1 none) []
  (.region 6 [mv 22 3,o1 23 (fa 31 5 0 0),o1 24 (lo 3 23),o1 25 (fa 31 6 1 1),o1 26 (lo 3 25),o1 27 (bt .mul 3 24 26),o1 28 (fa 31 6 0 0),o1 29 (lo 3 28),o1 30 (fa 31 5 1 1),o1 31 (lo 3 30),o1 32 (bt .mul 3 29 31),o1 33 (bt .sub 3 27 32),o1 34 (bt .add 3 22 33),o1 3 (sg 34)] 0 none)))) []
 (.region 7 [o1 35 (bk .add 3 9 1),mv 9 35] 0 none))
def A32v2 : AC := (.seq (.region 3 [o1 10 (bt .lss 3 9 8)] 0 none) []
 (.seq (.cond (tm 10)
 .skip
 (.exit 0 (0 :: 1 :: 2 :: (rl 4 33 [])))) []
 A32v1))
def A32v3 : AC := (.seq (.region 8 [mv 36 3,o1 2 (sg 36)] 0 none) []
 (.ret (0 :: 1 :: (rl 3 34 []))))
def A32 : AF := ⟨37,[.tmp 2],
 (.seq (.region 0 [o1 2 (sk 0)] 0 none) []
 (.seq (.region 1 [o1 3 (sk 0)] 0 none) []
 (.seq (.seq (.region 2 [mv 7 0,o1 8 (.len 22 false (tm 7)),o1 9 (.move (ic 0))] 0 none) []
 (.block 0
 (.loop [] (1 :: 2 :: 4 :: 5 :: 6 :: (rl 10 27 []))
  A32v2))) (rl 4 32 [])
 A32v3)))⟩
def N63v1 : St → Option St := nN 0 (1 :: 2 :: 4 :: 5 :: 6 :: (rl 10 27 []))
def s63v0 : St := ⟨(.x (.c (ro kP n0 f0)) :: .u :: .u :: vxi i0 :: (us 3 (.x (.c (ro kP n0 f0)) :: vxi i1 :: vxi i2 :: (us 27 [])))),[]⟩
def s63v1 : St := ⟨(us 3 (vxi i0 :: (us 33 []))),[]⟩
def L63v1 {ρ : Type} (u : Nat) (x0 : Nat) (x1 : FF) (x2 : Int) : Nat → Int → Int → (Int → Option ρ) → Option ρ
 | 0,_,_,_ => none
 | m + 1,x3,x4,k0 =>
  (bif (decide (x4 < x2)) then (bif (inb x4 x0) then (bif ((Int.ofNat x0) == 0) then none else (bif (inb (Int.tmod (w64 (x4 + 1)) (Int.ofNat x0)) x0) then (L63v1 u x0 x1 x2 m (w64 (x3 + (w64 ((w64 ((x1 x4.toNat 0).int * (CV.int (x1 (Int.toNat (Int.tmod (w64 (x4 + 1)) (Int.ofNat x0))) 1)))) - (w64 ((CV.int (x1 (Int.toNat (Int.tmod (w64 (x4 + 1)) (Int.ofNat x0))) 0)) * (x1 x4.toNat 1).int)))))) (w64 (x4 + 1)) k0) else none)) else none) else (k0 x3))
theorem nl63v1 : ∀ (m : Nat) (x0 x1 : Int) (k0 : Int → Option ρ),ob (L63v1 u n0 f0 i0 m x0 x1 k0) ng = L63v1 u n0 f0 i0 m x0 x1 (fun x2 => ob (k0 x2) ng)
 | 0,_,_,_ => rfl
 | m + 1,x0,x1,k0 => by
  simp only [L63v1,ob_bif,ob_ob,ob_none,nl63v1 m]
theorem r63v1 :
  loopH (eB A32v2 (C11 u) u) N63v1 (m + 1) (s63v0 n0 f0 i1 i0 i2) k =
  (bif (decide (i2 < i0)) then (bif (inb i2 n0) then (bif ((Int.ofNat n0) == 0) then none else (bif (inb (Int.tmod (w64 (i2 + 1)) (Int.ofNat n0)) n0) then (loopH (eB A32v2 (C11 u) u) N63v1 m (s63v0 n0 f0 (w64 (i1 + (w64 ((w64 ((f0 i2.toNat 0).int * (CV.int (f0 (Int.toNat (Int.tmod (w64 (i2 + 1)) (Int.ofNat n0))) 1)))) - (w64 ((CV.int (f0 (Int.toNat (Int.tmod (w64 (i2 + 1)) (Int.ofNat n0))) 0)) * (f0 i2.toNat 1).int)))))) i0 (w64 (i2 + 1))) k) else none)) else none) else (k (.exit 0) (s63v1 i1))) := by kernel_rfl
theorem q63v1 : ∀ (m : Nat) (x0 x1 : Int),
  loopH (eB A32v2 (C11 u) u) N63v1 m (s63v0 n0 f0 x0 i0 x1) k = L63v1 u n0 f0 i0 m x0 x1 (fun x2 => k (.exit 0) (s63v1 x2))
 | 0,_,_ => rfl
 | m + 1,x0,x1 => by
  rw [r63v1]
  simp only [L63v1,q63v1 m]
def F63 (x0 : Nat) (x1 : FF) : Option (Int) :=
 (L63v1 u x0 x1 (Int.ofNat x0) u 0 0
  (fun x2 => (some x2)))
def s63v2 : St := ⟨[.x (.c (ro kP n0 f0)),uu,vxi 0,vxi 0,uu,uu,uu,.x (.c (ro kP n0 f0)),vxi (Int.ofNat n0),vxi 0,uu,uu,uu,uu,uu,uu,uu,uu,uu,uu,uu,uu,uu,uu,uu,uu,uu,uu,uu,uu,uu,uu,uu,uu,uu,uu,uu],[]⟩
theorem t63v1 :
  loopN (eB A32v2 (C11 u) u) N63v1 u (s63v2 n0 f0) k =
  L63v1 u n0 f0 (Int.ofNat n0) u 0 0 (fun x0 => k (.exit 0) (s63v1 x0)) :=
 Eq.trans (loopN_at (by kernel_rfl)) (q63v1 ..)
theorem g63v2 :
  (kBlk 0 (kSeq (C11 u) u (rl 4 32 []) A32v3 (finish A32))) (.exit 0) (s63v1 i0) =
  (some [.v (vi i0)]) := by kernel_rfl
theorem e63 : evalF (C11 u) u A32 [.v (ro kP n0 f0)] = ob (F63 u n0 f0) fun t => some [.v (vi t)] := Eq.trans (b := (loopN (eB A32v2 (C11 u) u) N63v1 u (s63v2 n0 f0) (kBlk 0 (kSeq (C11 u) u (rl 4 32 []) A32v3 (finish A32))))) (by kernel_rfl) (by
 simp only [F63,ob_bif,ob_ob,ob_none,ob_some,nl63v1,t63v1,g63v2])
def O63 : Ora := mkO (q1 (av (cL kP))) (fun x => F63 u x.1 x.2) fun t => [.v (vi t)]
theorem d63 : DO (O63 u) (C11 u) 32 A32 := dO u (fun x => by exact e63 u x.1 x.2)
def C12 : Oracle := (C11 u).add 32 (fun _ => true) (O63 u)
def A12v1 : AC := (.seq (.region 9 [o1 2 (sk 0)] 0 none) []
 (.ret (0 :: 1 :: (rl 3 20 []))))
def A12 : AF := ⟨23,[.tmp 2],
 (.seq (.region 0 [o1 2 (sk 0)] 0 none) []
 (.seq (.block 0
 (.seq (.region 1 [mv 4 0,o1 5 (.len 22 false (tm 4)),o1 6 (bk .lss 3 5 3),o1 3 (sg 6)] 0 none) []
  (.cond (tm 3)
  (.seq (.region 2 [o1 2 (sk 3)] 0 none) []
   (.ret (0 :: 1 :: (rl 3 20 []))))
  (.seq (.region 3 [mv 8 0,o1 9 (.len 22 false (tm 8)),o1 10 (bk .gtr 3 9 32),o1 7 (sg 10)] 0 none) []
   (.cond (tm 7)
   (.seq (.region 4 [o1 2 (sk 4)] 0 none) []
    (.ret (0 :: 1 :: (rl 3 20 []))))
   (.seq (.region 5 [mv 12 0,o1 13 (.call 29 [(tm 12),(.func 30)] [22,42] .snap),o1 11 (sg 13)] 0 none) []
    (.cond (tm 11)
    (.seq (.region 6 [o1 2 (sk 9)] 0 none) []
     (.ret (0 :: 1 :: (rl 3 20 []))))
    (.seq (.region 7 [mv 15 0,o1 16 (cs 31 [15] [22]),o1 17 (.unOp .not 4 (tm 16)),mv 18 17,og 19 (.move (tm 0)) 18 false,og 20 (cs 32 [19] [22]) 18 false,og 21 (bk .eql 3 20 0) 18 false,o1 22 (pa 18 21),o1 14 (sg 22)] 0 none) []
     (.cond (tm 14)
     (.seq (.region 8 [o1 2 (sk 17)] 0 none) []
      (.ret (0 :: 1 :: (rl 3 20 []))))
     .skip))))))))) (rl 2 21 [])
 A12v1))⟩
def F33 (x0 : Nat) (x1 : FF) : Option (Int) :=
 (bif (decide ((Int.ofNat x0) < 3)) then (some 3) else (bif (decide ((Int.ofNat x0) > 32)) then (some 4) else (ob (F50 u x0 x1) fun x2 => (bif x2 then (some 9) else (ob (F62 u x0 x1) fun x3 => (bif ((!x3) == false) then (ob (F63 u x0 x1) fun x4 => (bif (x4 == 0) then (some 17) else (some 0))) else (some 17)))))))
theorem e33 : evalF (C12 u) u A12 [.v (ro kP n0 f0)] = ob (F33 u n0 f0) fun t => some [.v (vi t)] := Eq.trans (b := (bif (decide ((Int.ofNat n0) < 3)) then (some [.v (vi 3)]) else (bif (decide ((Int.ofNat n0) > 32)) then (some [.v (vi 4)]) else (ob (F50 u n0 f0) fun x0 => (bif x0 then (some [.v (vi 9)]) else (ob (F62 u n0 f0) fun x1 => (bif ((!x1) == false) then (ob (F63 u n0 f0) fun x2 => (bif (x2 == 0) then (some [.v (vi 17)]) else (some [.v (vi 0)]))) else (some [.v (vi 17)])))))))) (by kernel_rfl) (by
 simp only [F33,ob_bif,ob_ob,ob_none,ob_some])
def O33 : Ora := mkO (q1 (av (cL kP))) (fun x => F33 u x.1 x.2) fun t => [.v (vi t)]
theorem d33 : DO (O33 u) (C12 u) 12 A12 := dO u (fun x => by exact e33 u x.1 x.2)
def C13 : Oracle := (C12 u).add 12 (fun _ => true) (O33 u)
def A28 : AF := ⟨21,[.tmp 2],
 (.seq (.region 0 [o1 1 (bx 0 31 0),o1 2 (sb false)] 1 none) []
 (.seq (.region 1 [o1 3 (fa 31 1 0 0),o1 4 (lo 3 3),o1 5 (bk .geq 3 4 (-32768)),mv 6 5,og 7 (fa 31 1 0 0) 6 true,og 8 (lo 3 7) 6 true,og 9 (bk .leq 3 8 32768) 6 true,o1 10 (po 6 9),mv 11 10,og 12 (fa 31 1 1 1) 11 true,og 13 (lo 3 12) 11 true,og 14 (bk .geq 3 13 (-32768)) 11 true,o1 15 (po 11 14),mv 16 15,og 17 (fa 31 1 1 1) 16 true,og 18 (lo 3 17) 16 true,og 19 (bk .leq 3 18 32768) 16 true,o1 20 (po 16 19),o1 2 (sg 20)] 0 none) []
 (.ret (0 :: 1 :: (rl 3 18 [])))))⟩
def F69 (u : Nat) (x0 x1 : Int) : Option (Bool) :=
 (bif ((decide (x0 ≥ (-32768))) == true) then (bif ((decide (x0 ≤ 32768)) == true) then (bif ((decide (x1 ≥ (-32768))) == true) then (some (decide (x1 ≤ 32768))) else (some false)) else (some false)) else (some false))
theorem e69 : evalF (C13 u) u A28 [.agg [(vi i0),(vi i1)]] = ob (F69 u i0 i1) fun t => some [.v (.b t)] := Eq.trans (b := (bif ((decide (i0 ≥ (-32768))) == true) then (bif ((decide (i0 ≤ 32768)) == true) then (bif ((decide (i1 ≥ (-32768))) == true) then (some [.v (.b (decide (i1 ≤ 32768)))]) else (some [.v (.b false)])) else (some [.v (.b false)])) else (some [.v (.b false)]))) (by kernel_rfl) (by
 simp only [F69,ob_bif,ob_ob,ob_none,ob_some])
def O69 : Ora := mkO (q1 (ag (tc ci (t1 ci)))) (fun x => F69 u x.1 x.2) fun t => [.v (.b t)]
theorem d69 : DO (O69 u) (C13 u) 28 A28 := dO u (fun x => by exact e69 u x.1 x.2)
def C14 : Oracle := (C13 u).add 28 (fun _ => true) (O69 u)
def A33v1 : AC := (.region 3 [mv 8 3,o1 9 (bk .add 3 8 1),o1 3 (sg 9)] 0 none)
def A33v2 : AC := (.seq (.block 1
 (.seq (.region 4 [mv 10 0,mv 11 3,o1 12 (.indexAddr 22 31 2 (tm 10) (tm 11)),o1 13 (ln 31 2 12),o1 14 (cs 28 [13] [31]),o1 15 (.unOp .not 4 (tm 14))] 0 none) []
  (.cond (tm 15)
  (.seq (.region 5 [o1 2 (sb false)] 0 none) []
   (.ret (0 :: 1 :: (rl 3 13 []))))
  .skip))) (2 :: (rl 10 6 []))
 A33v1)
def A33v3 : AC := (.seq (.seq (.region 2 [mv 4 3,mv 5 0,o1 6 (.len 22 false (tm 5)),o1 7 (bt .lss 3 4 6)] 0 none) []
 (.cond (tm 7)
 .skip
 (.exit 0 (rl 0 16 [])))) (rl 4 4 [])
 A33v2)
def A33v4 : AC := (.seq (.region 6 [o1 2 (sb true)] 0 none) []
 (.ret (0 :: 1 :: (rl 3 13 []))))
def A33 : AF := ⟨16,[.tmp 2],
 (.seq (.region 0 [o1 2 (sb false)] 0 none) []
 (.seq (.seq (.region 1 [o1 3 (sk 0)] 0 none) []
 (.block 0
 (.loop [] (1 :: 2 :: (rl 4 12 []))
  A33v3))) (rl 2 14 [])
 A33v4))⟩
def N66v1 : St → Option St := nN 0 (1 :: 2 :: (rl 4 12 []))
def s66v0 : St := ⟨(.x (.c (ro kP n0 f0)) :: .u :: .u :: vxi i0 :: (us 12 [])),[]⟩
def s66v1 : St := ⟨(.u :: .u :: vxb false :: (us 13 [])),[]⟩
def s66v2 : St := ⟨(us 16 []),[]⟩
def L66v1 {ρ : Type} (u : Nat) (x0 : Nat) (x1 : FF) : Nat → Int → (Option ρ) → (Option ρ) → Option ρ
 | 0,_,_,_ => none
 | m + 1,x2,k0,k1 =>
  (bif (decide (x2 < (Int.ofNat x0))) then (bif (inb x2 x0) then (ob (F69 u (x1 x2.toNat 0).int (x1 x2.toNat 1).int) fun x3 => (bif (!x3) then k0 else (L66v1 u x0 x1 m (w64 (x2 + 1)) k0 k1))) else none) else k1)
theorem nl66v1 : ∀ (m : Nat) (x0 : Int) (k0 : Option ρ) (k1 : Option ρ),ob (L66v1 u n0 f0 m x0 k0 k1) ng = L66v1 u n0 f0 m x0 (ob k0 ng) (ob k1 ng)
 | 0,_,_,_ => rfl
 | m + 1,x0,k0,k1 => by
  simp only [L66v1,ob_bif,ob_ob,ob_none,nl66v1 m]
theorem r66v1 :
  loopH (eB A33v3 (C14 u) u) N66v1 (m + 1) (s66v0 n0 f0 i0) k =
  (bif (decide (i0 < (Int.ofNat n0))) then (bif (inb i0 n0) then (ob (F69 u (f0 i0.toNat 0).int (f0 i0.toNat 1).int) fun x0 => (bif (!x0) then (k .ret s66v1) else (loopH (eB A33v3 (C14 u) u) N66v1 m (s66v0 n0 f0 (w64 (i0 + 1))) k))) else none) else (k (.exit 0) s66v2)) := by kernel_rfl
theorem q66v1 : ∀ (m : Nat) (x0 : Int),
  loopH (eB A33v3 (C14 u) u) N66v1 m (s66v0 n0 f0 x0) k = L66v1 u n0 f0 m x0 (k .ret s66v1) (k (.exit 0) s66v2)
 | 0,_ => rfl
 | m + 1,x0 => by
  rw [r66v1]
  simp only [L66v1,q66v1 m]
def F66 (x0 : Nat) (x1 : FF) : Option (Bool) :=
 (L66v1 u x0 x1 u 0
  (some false)
  (some true))
def s66v3 : St := ⟨[.x (.c (ro kP n0 f0)),uu,vxb false,vxi 0,uu,uu,uu,uu,uu,uu,uu,uu,uu,uu,uu,uu],[]⟩
theorem t66v1 :
  loopN (eB A33v3 (C14 u) u) N66v1 u (s66v3 n0 f0) k =
  L66v1 u n0 f0 u 0 (k .ret s66v1) (k (.exit 0) s66v2) :=
 Eq.trans (loopN_at (by kernel_rfl)) (q66v1 ..)
theorem g66v2 :
  (kBlk 0 (kSeq (C14 u) u (rl 2 14 []) A33v4 (finish A33))) .ret s66v1 =
  (some [.v (.b false)]) := by kernel_rfl
theorem g66v3 :
  (kBlk 0 (kSeq (C14 u) u (rl 2 14 []) A33v4 (finish A33))) (.exit 0) s66v2 =
  (some [.v (.b true)]) := by kernel_rfl
theorem e66 : evalF (C14 u) u A33 [.v (ro kP n0 f0)] = ob (F66 u n0 f0) fun t => some [.v (.b t)] := Eq.trans (b := (loopN (eB A33v3 (C14 u) u) N66v1 u (s66v3 n0 f0) (kBlk 0 (kSeq (C14 u) u (rl 2 14 []) A33v4 (finish A33))))) (by kernel_rfl) (by
 simp only [F66,ob_bif,ob_ob,ob_none,ob_some,nl66v1,t66v1,g66v2,g66v3])
def O66 : Ora := mkO (q1 (av (cL kP))) (fun x => F66 u x.1 x.2) fun t => [.v (.b t)]
theorem d66 : DO (O66 u) (C14 u) 33 A33 := dO u (fun x => by exact e66 u x.1 x.2)
def C15 : Oracle := (C14 u).add 33 (fun _ => true) (O66 u)
def A37 : AF := ⟨30,[.tmp 6],
 (.seq (.region 0 [o1 3 (bx 0 31 0),o1 4 (bx 1 31 1),o1 5 (bx 2 31 2),o1 6 (sk 0)] 3 none) []
 (.seq (.region 1 [o1 7 (fa 31 4 0 0),o1 8 (lo 3 7),o1 9 (fa 31 3 0 0),o1 10 (lo 3 9),o1 11 (bt .sub 3 8 10),o1 12 (fa 31 5 1 1),o1 13 (lo 3 12),o1 14 (fa 31 3 1 1),o1 15 (lo 3 14),o1 16 (bt .sub 3 13 15),o1 17 (bt .mul 3 11 16),o1 18 (fa 31 4 1 1),o1 19 (lo 3 18),o1 20 (fa 31 3 1 1),o1 21 (lo 3 20),o1 22 (bt .sub 3 19 21),o1 23 (fa 31 5 0 0),o1 24 (lo 3 23),o1 25 (fa 31 3 0 0),o1 26 (lo 3 25),o1 27 (bt .sub 3 24 26),o1 28 (bt .mul 3 22 27),o1 29 (bt .sub 3 17 28),o1 6 (sg 29)] 0 none) []
 (.ret (rl 0 6 (rl 7 23 [])))))⟩
def F71 (u : Nat) (x0 x1 x2 x3 x4 x5 : Int) : Option (Int) :=
 (some (w64 ((w64 ((w64 (x2 - x0)) * (w64 (x5 - x1)))) - (w64 ((w64 (x3 - x1)) * (w64 (x4 - x0)))))))
theorem e71 : evalF (C15 u) u A37 [.agg [(vi i0),(vi i1)],.agg [(vi i2),(vi i3)],.agg [(vi i4),(vi i5)]] = ob (F71 u i0 i1 i2 i3 i4 i5) fun t => some [.v (vi t)] := Eq.trans (b := (some [.v (vi (w64 ((w64 ((w64 (i2 - i0)) * (w64 (i5 - i1)))) - (w64 ((w64 (i3 - i1)) * (w64 (i4 - i0)))))))])) (by kernel_rfl) (by
 simp only [F71,ob_bif,ob_ob,ob_none,ob_some])
def O71 : Ora := mkO (qc (ag (tc ci (t1 ci))) (qc (ag (tc ci (t1 ci))) (q1 (ag (tc ci (t1 ci)))))) (fun x => F71 u x.1.1 x.1.2 x.2.1.1 x.2.1.2 x.2.2.1 x.2.2.2) fun t => [.v (vi t)]
theorem d71 : DO (O71 u) (C15 u) 37 A37 := dO u (fun x => by exact e71 u x.1.1 x.1.2 x.2.1.1 x.2.1.2 x.2.2.1 x.2.2.2)
def C16 : Oracle := (C15 u).add 37 (fun _ => true) (O71 u)
def A39 : AF := ⟨52,[.tmp 6],
 (.seq (.region 0 [o1 3 (bx 0 31 0),o1 4 (bx 1 31 1),o1 5 (bx 2 31 2),o1 6 (sb false)] 3 none) []
 (.seq (.region 1 [o1 7 (ln 31 2 4),o1 8 (ln 31 2 5),o1 9 (ln 31 2 3),o1 10 (cs 37 [7,8,9] [31,31,31]),o1 11 (bk .eql 3 10 0),mv 12 11,og 13 (fa 31 4 0 0) 12 true,og 14 (lo 3 13) 12 true,og 15 (fa 31 5 0 0) 12 true,og 16 (lo 3 15) 12 true,og 17 (.mm false [(tm 14),(tm 16)] [3,3]) 12 true,og 18 (fa 31 3 0 0) 12 true,og 19 (lo 3 18) 12 true,og 20 (bt .leq 3 17 19) 12 true,o1 21 (po 12 20),mv 22 21,og 23 (fa 31 3 0 0) 22 true,og 24 (lo 3 23) 22 true,og 25 (fa 31 4 0 0) 22 true,og 26 (lo 3 25) 22 true,og 27 (fa 31 5 0 0) 22 true,og 28 (lo 3 27) 22 true,og 29 (.mm true [(tm 26),(tm 28)] [3,3]) 22 true,og 30 (bt .leq 3 24 29) 22 true,o1 31 (po 22 30),mv 32 31,og 33 (fa 31 4 1 1) 32 true,og 34 (lo 3 33) 32 true,og 35 (fa 31 5 1 1) 32 true,og 36 (lo 3 35) 32 true,og 37 (.mm false [(tm 34),(tm 36)] [3,3]) 32 true,og 38 (fa 31 3 1 1) 32 true,og 39 (lo 3 38) 32 true,og 40 (bt .leq 3 37 39) 32 true,o1 41 (po 32 40),mv 42 41,og 43 (fa 31 3 1 1) 42 true,og 44 (lo 3 43) 42 true,og 45 (fa 31 4 1 1) 42 true,og 46 (lo 3 45) 42 true,og 47 (fa 31 5 1 1) 42 true,og 48 (lo 3 47) 42 true,og 49 (.mm true [(tm 46),(tm 48)] [3,3]) 42 true,og 50 (bt .leq 3 44 49) 42 true,o1 51 (po 42 50),o1 6 (sg 51)] 0 none) []
 (.ret (rl 0 6 (rl 7 45 [])))))⟩
def F70 (x0 x1 x2 x3 x4 x5 : Int) : Option (Bool) :=
 (ob (F71 u x2 x3 x4 x5 x0 x1) fun x6 => (bif ((x6 == 0) == true) then (bif ((decide ((if x4 < x2 then x4 else x2) ≤ x0)) == true) then (bif ((decide (x0 ≤ (if x4 > x2 then x4 else x2))) == true) then (bif ((decide ((if x5 < x3 then x5 else x3) ≤ x1)) == true) then (some (decide (x1 ≤ (if x5 > x3 then x5 else x3)))) else (some false)) else (some false)) else (some false)) else (some false)))
theorem e70 : evalF (C16 u) u A39 [.agg [(vi i0),(vi i1)],.agg [(vi i2),(vi i3)],.agg [(vi i4),(vi i5)]] = ob (F70 u i0 i1 i2 i3 i4 i5) fun t => some [.v (.b t)] := Eq.trans (b := (ob (F71 u i2 i3 i4 i5 i0 i1) fun x0 => (bif ((x0 == 0) == true) then (bif ((decide ((if i4 < i2 then i4 else i2) ≤ i0)) == true) then (bif ((decide (i0 ≤ (if i4 > i2 then i4 else i2))) == true) then (bif ((decide ((if i5 < i3 then i5 else i3) ≤ i1)) == true) then (some [.v (.b (decide (i1 ≤ (if i5 > i3 then i5 else i3))))]) else (some [.v (.b false)])) else (some [.v (.b false)])) else (some [.v (.b false)])) else (some [.v (.b false)])))) (by kernel_rfl) (by
 simp only [F70,ob_bif,ob_ob,ob_none,ob_some])
def O70 : Ora := mkO (qc (ag (tc ci (t1 ci))) (qc (ag (tc ci (t1 ci))) (q1 (ag (tc ci (t1 ci)))))) (fun x => F70 u x.1.1 x.1.2 x.2.1.1 x.2.1.2 x.2.2.1 x.2.2.2) fun t => [.v (.b t)]
theorem d70 : DO (O70 u) (C16 u) 39 A39 := dO u (fun x => by exact e70 u x.1.1 x.1.2 x.2.1.1 x.2.1.2 x.2.2.1 x.2.2.2)
def C17 : Oracle := (C16 u).add 39 (fun _ => true) (O70 u)
def A57v1 : AC := (.seq (.region 5 [o1 2 (sk 0)] 0 none) []
 (.ret (0 :: 1 :: (rl 3 6 []))))
def A57 : AF := ⟨9,[.tmp 2],
 (.seq (.region 0 [o1 2 (sk 0)] 0 none) []
 (.seq (.block 0
 (.seq (.region 1 [mv 4 0,o1 5 (bk .lss 3 4 0),o1 3 (sg 5)] 0 none) []
  (.cond (tm 3)
  (.seq (.region 2 [o1 2 (sk (-1))] 0 none) []
   (.ret (0 :: 1 :: (rl 3 6 []))))
  (.seq (.region 3 [mv 7 0,o1 8 (bk .gtr 3 7 0),o1 6 (sg 8)] 0 none) []
   (.cond (tm 6)
   (.seq (.region 4 [o1 2 (sk 1)] 0 none) []
    (.ret (0 :: 1 :: (rl 3 6 []))))
   .skip))))) (rl 2 7 [])
 A57v1))⟩
def F88 (u : Nat) (x0 : Int) : Option (Int) :=
 (bif (decide (x0 < 0)) then (some (-1)) else (bif (decide (x0 > 0)) then (some 1) else (some 0)))
theorem e88 : evalF (C17 u) u A57 [.v (vi i0)] = ob (F88 u i0) fun t => some [.v (vi t)] := Eq.trans (b := (bif (decide (i0 < 0)) then (some [.v (vi (-1))]) else (bif (decide (i0 > 0)) then (some [.v (vi 1)]) else (some [.v (vi 0)])))) (by kernel_rfl) (by
 simp only [F88,ob_bif,ob_ob,ob_none,ob_some])
def O88 : Ora := mkO (q1 (av ci)) (fun x => F88 u x) fun t => [.v (vi t)]
theorem d88 : DO (O88 u) (C17 u) 57 A57 := dO u (fun x => by exact e88 u x)
def C18 : Oracle := (C17 u).add 57 (fun _ => true) (O88 u)
def A52v1 : AC := (.seq (.region 3 [o1 31 (ln 31 2 4),o1 32 (ln 31 2 5),o1 33 (ln 31 2 6),o1 34 (cs 37 [31,32,33] [31,31,31]),o1 35 (cs 57 [34] [3]),o1 36 (ln 31 2 4),o1 37 (ln 31 2 5),o1 38 (ln 31 2 7),o1 39 (cs 37 [36,37,38] [31,31,31]),o1 40 (cs 57 [39] [3]),o1 41 (bt .mul 3 35 40),o1 42 (bk .lss 3 41 0),mv 43 42,og 44 (ln 31 2 6) 43 true,og 45 (ln 31 2 7) 43 true,og 46 (ln 31 2 4) 43 true,og 47 (cs 37 [44,45,46] [31,31,31]) 43 true,og 48 (cs 57 [47] [3]) 43 true,og 49 (ln 31 2 6) 43 true,og 50 (ln 31 2 7) 43 true,og 51 (ln 31 2 5) 43 true,og 52 (cs 37 [49,50,51] [31,31,31]) 43 true,og 53 (cs 57 [52] [3]) 43 true,og 54 (bt .mul 3 48 53) 43 true,og 55 (bk .lss 3 54 0) 43 true,o1 56 (po 43 55),o1 8 (sg 56)] 0 (some [[],[],[],[0,1,2],(rl 0 4 []),[],[],[],(rl 0 8 []),(rl 0 9 []),(rl 0 10 []),(rl 0 11 []),(rl 0 12 []),(rl 0 13 []),(rl 0 13 []),(rl 0 13 []),(rl 0 16 []),(rl 0 17 []),(rl 0 13 []),(rl 0 13 []),(rl 0 13 []),(rl 0 21 []),(rl 0 22 []),(rl 0 23 []),(rl 0 24 []),(rl 0 25 []),(rl 0 26 [])])) []
 (.ret (rl 0 8 (rl 9 48 []))))
def A52 : AF := ⟨57,[.tmp 8],
 (.seq (.region 0 [o1 4 (bx 0 31 0),o1 5 (bx 1 31 1),o1 6 (bx 2 31 2),o1 7 (bx 3 31 3),o1 8 (sb false)] 4 none) []
 (.seq (.seq (.region 1 [o1 9 (ln 31 2 4),o1 10 (ln 31 2 6),o1 11 (ln 31 2 7),o1 12 (cs 39 [9,10,11] [31,31,31]),mv 13 12,og 14 (ln 31 2 5) 13 false,og 15 (ln 31 2 6) 13 false,og 16 (ln 31 2 7) 13 false,og 17 (cs 39 [14,15,16] [31,31,31]) 13 false,o1 18 (pa 13 17),mv 19 18,og 20 (ln 31 2 6) 19 false,og 21 (ln 31 2 4) 19 false,og 22 (ln 31 2 5) 19 false,og 23 (cs 39 [20,21,22] [31,31,31]) 19 false,o1 24 (pa 19 23),mv 25 24,og 26 (ln 31 2 7) 25 false,og 27 (ln 31 2 4) 25 false,og 28 (ln 31 2 5) 25 false,og 29 (cs 39 [26,27,28] [31,31,31]) 25 false,o1 30 (pa 25 29)] 0 none) []
 (.cond (tm 30)
 (.seq (.region 2 [o1 8 (sb true)] 0 none) []
  (.ret (rl 0 8 (rl 9 48 []))))
 .skip)) (rl 8 23 [])
 A52v1))⟩
def F82 (x0 x1 x2 x3 x4 x5 x6 x7 : Int) : Option (Bool) :=
 (ob (F70 u x0 x1 x4 x5 x6 x7) fun x8 => (bif (x8 == false) then (ob (F70 u x2 x3 x4 x5 x6 x7) fun x9 => (bif (x9 == false) then (ob (F70 u x4 x5 x0 x1 x2 x3) fun xA => (bif (xA == false) then (ob (F70 u x6 x7 x0 x1 x2 x3) fun xB => (bif xB then (some true) else (ob (F71 u x0 x1 x2 x3 x4 x5) fun xC => (ob (F88 u xC) fun xD => (ob (F71 u x0 x1 x2 x3 x6 x7) fun xE => (ob (F88 u xE) fun xF => (bif ((decide ((w64 (xD * xF)) < 0)) == true) then (ob (F71 u x4 x5 x6 x7 x0 x1) fun xG => (ob (F88 u xG) fun xH => (ob (F71 u x4 x5 x6 x7 x2 x3) fun xI => (ob (F88 u xI) fun xJ => (some (decide ((w64 (xH * xJ)) < 0))))))) else (some false)))))))) else (some true))) else (some true))) else (some true)))
theorem e82 : evalF (C18 u) u A52 [.agg [(vi i0),(vi i1)],.agg [(vi i2),(vi i3)],.agg [(vi i4),(vi i5)],.agg [(vi i6),(vi i7)]] = ob (F82 u i0 i1 i2 i3 i4 i5 i6 i7) fun t => some [.v (.b t)] := Eq.trans (b := (ob (F70 u i0 i1 i4 i5 i6 i7) fun x0 => (bif (x0 == false) then (ob (F70 u i2 i3 i4 i5 i6 i7) fun x1 => (bif (x1 == false) then (ob (F70 u i4 i5 i0 i1 i2 i3) fun x2 => (bif (x2 == false) then (ob (F70 u i6 i7 i0 i1 i2 i3) fun x3 => (bif x3 then (some [.v (.b true)]) else (ob (F71 u i0 i1 i2 i3 i4 i5) fun x4 => (ob (F88 u x4) fun x5 => (ob (F71 u i0 i1 i2 i3 i6 i7) fun x6 => (ob (F88 u x6) fun x7 => (bif ((decide ((w64 (x5 * x7)) < 0)) == true) then (ob (F71 u i4 i5 i6 i7 i0 i1) fun x8 => (ob (F88 u x8) fun x9 => (ob (F71 u i4 i5 i6 i7 i2 i3) fun xA => (ob (F88 u xA) fun xB => (some [.v (.b (decide ((w64 (x9 * xB)) < 0)))]))))) else (some [.v (.b false)])))))))) else (some [.v (.b true)]))) else (some [.v (.b true)]))) else (some [.v (.b true)])))) (by kernel_rfl) (by
 simp only [F82,ob_bif,ob_ob,ob_none,ob_some])
def O82 : Ora := mkO (qc (ag (tc ci (t1 ci))) (qc (ag (tc ci (t1 ci))) (qc (ag (tc ci (t1 ci))) (q1 (ag (tc ci (t1 ci))))))) (fun x => F82 u x.1.1 x.1.2 x.2.1.1 x.2.1.2 x.2.2.1.1 x.2.2.1.2 x.2.2.2.1 x.2.2.2.2) fun t => [.v (.b t)]
theorem d82 : DO (O82 u) (C18 u) 52 A52 := dO u (fun x => by exact e82 u x.1.1 x.1.2 x.2.1.1 x.2.1.2 x.2.2.1.1 x.2.2.1.2 x.2.2.2.1 x.2.2.2.2)
def C19 : Oracle := (C18 u).add 52 (fun _ => true) (O82 u)
def A34v1 : AC := (.region 7 [mv 21 5,o1 22 (bk .add 3 21 1),o1 5 (sg 22)] 0 none)
def A34v2 : AC := (.seq (.block 3
 (.seq (.region 8 [mv 23 0,mv 24 4,o1 25 (.indexAddr 22 31 2 (tm 23) (tm 24)),o1 26 (ln 31 2 25),mv 27 0,mv 28 5,o1 29 (.indexAddr 22 31 2 (tm 27) (tm 28)),o1 30 (ln 31 2 29),o1 31 (.eqA false kP 31 (tm 26) (tm 30) 31)] 0 (some [[],[],[0,1],[0,1,2],[],[],[4,5],[4,5,6],(rl 0 8 [])])) []
  (.cond (tm 31)
  (.seq (.region 9 [o1 2 (sb false)] 0 none) []
   (.ret (0 :: 1 :: (rl 3 91 []))))
  .skip))) (2 :: (rl 23 9 []))
 A34v1)
def A34v3 : AC := (.seq (.seq (.region 6 [mv 18 5,mv 19 4,o1 20 (bt .lss 3 18 19)] 0 none) []
 (.cond (tm 20)
 .skip
 (.exit 2 (1 :: 2 :: (rl 5 89 []))))) [18,19,20]
 A34v2)
def A34v4 : AC := (.region 4 [mv 16 4,o1 17 (bk .add 3 16 1),o1 4 (sg 17)] 0 none)
def A34v5 : AC := (.seq (.block 1
 (.seq (.region 5 [o1 5 (sk 0)] 0 none) []
  (.block 2
  (.loop [] (1 :: 2 :: (rl 6 88 []))
   A34v3)))) (2 :: 5 :: (rl 18 14 []))
 A34v4)
def A34v6 : AC := (.seq (.seq (.region 3 [mv 13 4,mv 14 3,o1 15 (bt .lss 3 13 14)] 0 none) []
 (.cond (tm 15)
 .skip
 (.exit 0 (1 :: 2 :: (rl 4 90 []))))) [13,14,15]
 A34v5)
def A34v7 : AC := (.region 18 [mv 70 10,o1 71 (bk .add 3 70 1),o1 10 (sg 71)] 0 none)
def A34v8 : AC := (.seq (.block 7
 (.seq (.region 19 [mv 72 10,o1 73 (bk .add 3 72 1),mv 74 3,o1 75 (bt .rem 3 73 74),mv 76 6,o1 77 (bt .neq 3 75 76),mv 78 77,og 79 (ln 31 2 7) 78 true,og 80 (ln 31 2 8) 78 true,og 81 (.move (tm 0)) 78 true,og 82 (.move (tm 10)) 78 true,og 83 (.indexAddr 22 31 2 (tm 81) (tm 82)) 78 true,og 84 (ln 31 2 83) 78 true,og 85 (.move (tm 0)) 78 true,og 86 (.move (tm 10)) 78 true,og 87 (bk .add 3 86 1) 78 true,og 88 (.move (tm 3)) 78 true,og 89 (bt .rem 3 87 88) 78 true,og 90 (.indexAddr 22 31 2 (tm 85) (tm 89)) 78 true,og 91 (ln 31 2 90) 78 true,og 92 (cs 52 [79,80,84,91] [31,31,31,31]) 78 true,o1 93 (po 78 92)] 0 (some [[],[0],[],[0,1,2],[],(rl 0 5 []),(rl 0 6 []),(rl 0 7 []),(rl 0 7 []),(rl 0 7 []),(rl 0 7 []),(rl 0 7 [9,10]),(rl 0 7 [9,10,11]),(rl 0 7 []),(rl 0 7 []),(rl 0 7 [14]),(rl 0 7 []),(rl 0 7 [14,15,16]),(rl 0 7 (rl 13 5 [])),(rl 0 7 (rl 13 6 [])),(rl 0 20 []),(rl 0 21 [])])) []
  (.cond (tm 93)
  (.seq (.region 20 [o1 2 (sb false)] 0 none) []
   (.ret (0 :: 1 :: (rl 3 91 []))))
  .skip))) (2 :: (rl 72 22 []))
 A34v7)
def A34v9 : AC := (.seq (.seq (.region 17 [mv 67 10,mv 68 3,o1 69 (bt .lss 3 67 68)] 0 none) []
 (.cond (tm 69)
 .skip
 (.exit 6 (1 :: 2 :: 4 :: 5 :: (rl 7 87 []))))) [67,68,69]
 A34v8)
def A34v10 : AC := (.seq (.region 16 [mv 65 6,o1 66 (bk .add 3 65 2),o1 10 (sg 66)] 0 none) []
 (.block 6
 (.loop [] (1 :: 2 :: 4 :: 5 :: 9 :: (rl 11 83 []))
  A34v9)))
def A34v11 : AC := (.region 12 [mv 35 6,o1 36 (bk .add 3 35 1),o1 6 (sg 36)] 0 none)
def A34v12 : AC := (.seq (.block 5
 (.seq (.region 13 [mv 37 0,mv 38 6,o1 39 (.indexAddr 22 31 2 (tm 37) (tm 38)),o1 40 (ln 31 2 39),mv 41 0,mv 42 6,o1 43 (bk .add 3 42 1),mv 44 3,o1 45 (bt .rem 3 43 44),o1 46 (.indexAddr 22 31 2 (tm 41) (tm 45)),o1 47 (ln 31 2 46),mv 48 0,mv 49 6,o1 50 (bk .add 3 49 2),mv 51 3,o1 52 (bt .rem 3 50 51),o1 53 (.indexAddr 22 31 2 (tm 48) (tm 52)),o1 54 (ln 31 2 53),o1 7 (.alloc 0 31 [vci 0,vci 0]),o1 8 (.alloc 1 31 [vci 0,vci 0]),o1 9 (.alloc 2 31 [vci 0,vci 0]),o0 (.store 31 2 (tm 7) (tm 40)),o0 (.store 31 2 (tm 8) (tm 47)),o0 (.store 31 2 (tm 9) (tm 54))] 3 (some [[],[],[0,1],[0,1,2],[],[],[5],[],[5,6,7],(rl 4 5 []),(rl 4 6 []),[],[],[12],[],[12,13,14],(rl 11 5 []),(rl 11 6 []),[],[],[],(rl 0 4 [18,19,20]),(rl 0 11 (rl 18 4 [])),(rl 0 23 [])])) []
  (.seq (.seq (.region 14 [o1 55 (ln 31 2 7),o1 56 (ln 31 2 8),o1 57 (ln 31 2 9),o1 58 (cs 39 [55,56,57] [31,31,31]),mv 59 58,og 60 (ln 31 2 9) 59 false,og 61 (ln 31 2 7) 59 false,og 62 (ln 31 2 8) 59 false,og 63 (cs 39 [60,61,62] [31,31,31]) 59 false,o1 64 (pa 59 63)] 0 none) []
  (.cond (tm 64)
  (.seq (.region 15 [o1 2 (sb false)] 0 none) []
   (.ret (0 :: 1 :: (rl 3 91 []))))
  .skip)) (2 :: (rl 55 10 []))
  A34v10))) (2 :: (rl 7 4 (rl 37 57 [])))
 A34v11)
def A34v13 : AC := (.seq (.seq (.region 11 [mv 32 6,mv 33 3,o1 34 (bt .lss 3 32 33)] 0 none) []
 (.cond (tm 34)
 .skip
 (.exit 4 (rl 0 94 [])))) [32,33,34]
 A34v12)
def A34v14 : AC := (.seq (.region 21 [o1 2 (sb true)] 0 none) []
 (.ret (0 :: 1 :: (rl 3 91 []))))
def A34v15 : AC := (.seq (.seq (.region 10 [o1 6 (sk 0)] 0 none) []
 (.block 4
 (.loop [] (1 :: 2 :: 4 :: 5 :: (rl 7 87 []))
  A34v13))) (2 :: (rl 6 5 (rl 32 62 [])))
 A34v14)
def A34 : AF := ⟨94,[.tmp 2],
 (.seq (.region 0 [o1 2 (sb false)] 0 none) []
 (.seq (.region 1 [mv 11 0,o1 12 (.len 22 false (tm 11)),o1 3 (sg 12)] 0 none) []
 (.seq (.seq (.region 2 [o1 4 (sk 0)] 0 none) []
 (.block 0
 (.loop [] (1 :: 2 :: (rl 5 89 []))
  A34v6))) (2 :: 4 :: 5 :: (rl 13 19 []))
 A34v15)))⟩
def N67v2 : St → Option St := nN 0 (1 :: 2 :: (rl 6 88 []))
def s67v0 : St := ⟨(.x (.c (ro kP n0 f0)) :: .u :: .u :: vxi i0 :: vxi i1 :: vxi i2 :: (us 88 [])),[]⟩
def s67v1 : St := ⟨(.u :: .u :: vxb false :: (us 91 [])),[]⟩
def s67v2 : St := ⟨(.x (.c (ro kP n0 f0)) :: .u :: .u :: vxi i0 :: vxi i1 :: (us 89 [])),[]⟩
def L67v2 {ρ : Type} (u : Nat) (x0 : Nat) (x1 : FF) (x2 x3 : Int) : Nat → Int → (Option ρ) → (Option ρ) → Option ρ
 | 0,_,_,_ => none
 | m + 1,x4,k0,k1 =>
  (bif (decide (x4 < x3)) then (bif (inb x3 x0) then (bif (inb x4 x0) then (bif (((x1 x3.toNat 0).int == (x1 x4.toNat 0).int) && (((x1 x3.toNat 1).int == (x1 x4.toNat 1).int) && true)) then k0 else (L67v2 u x0 x1 x2 x3 m (w64 (x4 + 1)) k0 k1)) else none) else none) else k1)
theorem nl67v2 : ∀ (m : Nat) (x0 : Int) (k0 : Option ρ) (k1 : Option ρ),ob (L67v2 u n0 f0 i0 i1 m x0 k0 k1) ng = L67v2 u n0 f0 i0 i1 m x0 (ob k0 ng) (ob k1 ng)
 | 0,_,_,_ => rfl
 | m + 1,x0,k0,k1 => by
  simp only [L67v2,ob_bif,ob_ob,ob_none,nl67v2 m]
theorem r67v2 :
  loopH (eB A34v3 (C19 u) u) N67v2 (m + 1) (s67v0 n0 f0 i0 i1 i2) k =
  (bif (decide (i2 < i1)) then (bif (inb i1 n0) then (bif (inb i2 n0) then (bif (((f0 i1.toNat 0).int == (f0 i2.toNat 0).int) && (((f0 i1.toNat 1).int == (f0 i2.toNat 1).int) && true)) then (k .ret s67v1) else (loopH (eB A34v3 (C19 u) u) N67v2 m (s67v0 n0 f0 i0 i1 (w64 (i2 + 1))) k)) else none) else none) else (k (.exit 2) (s67v2 n0 f0 i0 i1))) := by kernel_rfl
theorem q67v2 : ∀ (m : Nat) (x0 : Int),
  loopH (eB A34v3 (C19 u) u) N67v2 m (s67v0 n0 f0 i0 i1 x0) k = L67v2 u n0 f0 i0 i1 m x0 (k .ret s67v1) (k (.exit 2) (s67v2 n0 f0 i0 i1))
 | 0,_ => rfl
 | m + 1,x0 => by
  rw [r67v2]
  simp only [L67v2,q67v2 m]
def N67v3 : St → Option St := nN 0 (1 :: 2 :: (rl 5 89 []))
def s67v3 : St := ⟨(.x (.c (ro kP n0 f0)) :: .u :: .u :: vxi i0 :: vxi i1 :: (us 89 [])),[]⟩
def s67v4 : St := ⟨(.x (.c (ro kP n0 f0)) :: .u :: .u :: vxi i0 :: (us 90 [])),[]⟩
def L67v3 {ρ : Type} (u : Nat) (x0 : Nat) (x1 : FF) (x2 : Int) : Nat → Int → (Option ρ) → (Option ρ) → Option ρ
 | 0,_,_,_ => none
 | m + 1,x3,k0,k1 =>
  (bif (decide (x3 < x2)) then (L67v2 u x0 x1 x2 x3 u 0
  k0
  (L67v3 u x0 x1 x2 m (w64 (x3 + 1)) k0 k1)) else k1)
theorem nl67v3 : ∀ (m : Nat) (x0 : Int) (k0 : Option ρ) (k1 : Option ρ),ob (L67v3 u n0 f0 i0 m x0 k0 k1) ng = L67v3 u n0 f0 i0 m x0 (ob k0 ng) (ob k1 ng)
 | 0,_,_,_ => rfl
 | m + 1,x0,k0,k1 => by
  simp only [L67v3,ob_bif,ob_ob,ob_none,nl67v3 m,nl67v2]
def s67v5 : St := ⟨(.x (.c (ro kP n0 f0)) :: .u :: .u :: vxi i0 :: vxi i1 :: vxi 0 :: (us 88 [])),[]⟩
theorem r67v3 :
  loopH (eB A34v6 (C19 u) u) N67v3 (m + 1) (s67v3 n0 f0 i0 i1) k =
  (bif (decide (i1 < i0)) then (loopN (eB A34v3 (C19 u) u) N67v2 u (s67v5 n0 f0 i0 i1) (kBlk 2 (kBlk 1 (kSeq (C19 u) u (2 :: 5 :: (rl 18 14 [])) A34v4 (kLoop (eB A34v6 (C19 u) u) N67v3 m k))))) else (k (.exit 0) (s67v4 n0 f0 i0))) := by kernel_rfl
theorem t67v1 :
  loopN (eB A34v3 (C19 u) u) N67v2 u (s67v5 n0 f0 i0 i1) k =
  L67v2 u n0 f0 i0 i1 u 0 (k .ret s67v1) (k (.exit 2) (s67v2 n0 f0 i0 i1)) :=
 Eq.trans (loopN_at (by kernel_rfl)) (q67v2 ..)
theorem g67v2 :
  (kBlk 2 (kBlk 1 (kSeq (C19 u) u (2 :: 5 :: (rl 18 14 [])) A34v4 (kLoop (eB A34v6 (C19 u) u) N67v3 m k)))) .ret s67v1 =
  (k .ret s67v1) := by kernel_rfl
theorem g67v3 :
  (kBlk 2 (kBlk 1 (kSeq (C19 u) u (2 :: 5 :: (rl 18 14 [])) A34v4 (kLoop (eB A34v6 (C19 u) u) N67v3 m k)))) (.exit 2) (s67v2 n0 f0 i0 i1) =
  (loopH (eB A34v6 (C19 u) u) N67v3 m (s67v3 n0 f0 i0 (w64 (i1 + 1))) k) := by kernel_rfl
theorem q67v3 : ∀ (m : Nat) (x0 : Int),
  loopH (eB A34v6 (C19 u) u) N67v3 m (s67v3 n0 f0 i0 x0) k = L67v3 u n0 f0 i0 m x0 (k .ret s67v1) (k (.exit 0) (s67v4 n0 f0 i0))
 | 0,_ => rfl
 | m + 1,x0 => by
  rw [r67v3]
  simp only [L67v3,q67v3 m,t67v1,g67v2,g67v3]
def N67v5 : St → Option St := nN 3 (1 :: 2 :: 4 :: 5 :: 9 :: (rl 11 83 []))
def s67v6 : St := ⟨(.x (.c (ro kP n0 f0)) :: .u :: .u :: vxi i0 :: .u :: .u :: vxi i1 :: .x (.ptr 0 0) :: .x (.ptr 1 0) :: .u :: vxi i2 :: (us 83 [])),[.box [(vci i3),(vci i4)],.box [(vci i5),(vci i6)],.box [(vci i7),(vci i8)]]⟩
def s67v7 : St := ⟨(.u :: .u :: vxb false :: (us 91 [])),[.box [(vci i0),(vci i1)],.box [(vci i2),(vci i3)],.box [(vci i4),(vci i5)]]⟩
def s67v8 : St := ⟨(.x (.c (ro kP n0 f0)) :: .u :: .u :: vxi i0 :: .u :: .u :: vxi i1 :: (us 87 [])),[.box [(vci i2),(vci i3)],.box [(vci i4),(vci i5)],.box [(vci i6),(vci i7)]]⟩
def L67v5 {ρ : Type} (u : Nat) (x0 : Nat) (x1 : FF) (x2 x3 x4 x5 x6 x7 x8 x9 : Int) : Nat → Int → (Option ρ) → (Option ρ) → Option ρ
 | 0,_,_,_ => none
 | m + 1,xA,k0,k1 =>
  (bif (decide (xA < x2)) then (bif (x2 == 0) then none else (bif (((Int.tmod (w64 (xA + 1)) x2) != x3) == true) then (bif (inb xA x0) then (bif (x2 == 0) then none else (bif (inb (Int.tmod (w64 (xA + 1)) x2) x0) then (ob (F82 u x4 x5 x6 x7 (x1 xA.toNat 0).int (x1 xA.toNat 1).int (CV.int (x1 (Int.toNat (Int.tmod (w64 (xA + 1)) x2)) 0)) (CV.int (x1 (Int.toNat (Int.tmod (w64 (xA + 1)) x2)) 1))) fun xB => (bif xB then k0 else (L67v5 u x0 x1 x2 x3 x4 x5 x6 x7 x8 x9 m (w64 (xA + 1)) k0 k1))) else none)) else none) else (L67v5 u x0 x1 x2 x3 x4 x5 x6 x7 x8 x9 m (w64 (xA + 1)) k0 k1))) else k1)
theorem nl67v5 : ∀ (m : Nat) (x0 : Int) (k0 : Option ρ) (k1 : Option ρ),ob (L67v5 u n0 f0 i0 i1 i2 i3 i4 i5 i6 i7 m x0 k0 k1) ng = L67v5 u n0 f0 i0 i1 i2 i3 i4 i5 i6 i7 m x0 (ob k0 ng) (ob k1 ng)
 | 0,_,_,_ => rfl
 | m + 1,x0,k0,k1 => by
  simp only [L67v5,ob_bif,ob_ob,ob_none,nl67v5 m]
theorem r67v5 :
  loopH (eB A34v9 (C19 u) u) N67v5 (m + 1) (s67v6 n0 f0 i0 i1 i8 i2 i3 i4 i5 i6 i7) k =
  (bif (decide (i8 < i0)) then (bif (i0 == 0) then none else (bif (((Int.tmod (w64 (i8 + 1)) i0) != i1) == true) then (bif (inb i8 n0) then (bif (i0 == 0) then none else (bif (inb (Int.tmod (w64 (i8 + 1)) i0) n0) then (ob (F82 u i2 i3 i4 i5 (f0 i8.toNat 0).int (f0 i8.toNat 1).int (CV.int (f0 (Int.toNat (Int.tmod (w64 (i8 + 1)) i0)) 0)) (CV.int (f0 (Int.toNat (Int.tmod (w64 (i8 + 1)) i0)) 1))) fun x0 => (bif x0 then (k .ret (s67v7 i2 i3 i4 i5 i6 i7)) else (loopH (eB A34v9 (C19 u) u) N67v5 m (s67v6 n0 f0 i0 i1 (w64 (i8 + 1)) i2 i3 i4 i5 i6 i7) k))) else none)) else none) else (loopH (eB A34v9 (C19 u) u) N67v5 m (s67v6 n0 f0 i0 i1 (w64 (i8 + 1)) i2 i3 i4 i5 i6 i7) k))) else (k (.exit 6) (s67v8 n0 f0 i0 i1 i2 i3 i4 i5 i6 i7))) := by kernel_rfl
theorem q67v5 : ∀ (m : Nat) (x0 : Int),
  loopH (eB A34v9 (C19 u) u) N67v5 m (s67v6 n0 f0 i0 i1 x0 i2 i3 i4 i5 i6 i7) k = L67v5 u n0 f0 i0 i1 i2 i3 i4 i5 i6 i7 m x0 (k .ret (s67v7 i2 i3 i4 i5 i6 i7)) (k (.exit 6) (s67v8 n0 f0 i0 i1 i2 i3 i4 i5 i6 i7))
 | 0,_ => rfl
 | m + 1,x0 => by
  rw [r67v5]
  simp only [L67v5,q67v5 m]
def N67v6 : St → Option St := nN 0 (1 :: 2 :: 4 :: 5 :: (rl 7 87 []))
def s67v9 : St := ⟨(.x (.c (ro kP n0 f0)) :: .u :: .u :: vxi i0 :: .u :: .u :: vxi i1 :: (us 87 [])),[]⟩
def s67v10 : St := ⟨(.u :: .u :: vxb false :: (us 91 [])),[.box [(vci i0),(vci i1)],.box [(vci i2),(vci i3)],.box [(vci i4),(vci i5)]]⟩
def s67v11 : St := ⟨(us 94 []),[]⟩
def L67v6 {ρ : Type} (u : Nat) (x0 : Nat) (x1 : FF) (x2 : Int) : Nat → Int → (Int → Int → Int → Int → Int → Int → Option ρ) → (Option ρ) → Option ρ
 | 0,_,_,_ => none
 | m + 1,x3,k0,k1 =>
  (bif (decide (x3 < x2)) then (bif (inb x3 x0) then (bif (x2 == 0) then none else (bif (inb (Int.tmod (w64 (x3 + 1)) x2) x0) then (bif (x2 == 0) then none else (bif (inb (Int.tmod (w64 (x3 + 2)) x2) x0) then (ob (F70 u (x1 x3.toNat 0).int (x1 x3.toNat 1).int (CV.int (x1 (Int.toNat (Int.tmod (w64 (x3 + 1)) x2)) 0)) (CV.int (x1 (Int.toNat (Int.tmod (w64 (x3 + 1)) x2)) 1)) (CV.int (x1 (Int.toNat (Int.tmod (w64 (x3 + 2)) x2)) 0)) (CV.int (x1 (Int.toNat (Int.tmod (w64 (x3 + 2)) x2)) 1))) fun x4 => (bif (x4 == false) then (ob (F70 u (CV.int (x1 (Int.toNat (Int.tmod (w64 (x3 + 2)) x2)) 0)) (CV.int (x1 (Int.toNat (Int.tmod (w64 (x3 + 2)) x2)) 1)) (x1 x3.toNat 0).int (x1 x3.toNat 1).int (CV.int (x1 (Int.toNat (Int.tmod (w64 (x3 + 1)) x2)) 0)) (CV.int (x1 (Int.toNat (Int.tmod (w64 (x3 + 1)) x2)) 1))) fun x5 => (bif x5 then (k0 (x1 x3.toNat 0).int (x1 x3.toNat 1).int (CV.int (x1 (Int.toNat (Int.tmod (w64 (x3 + 1)) x2)) 0)) (CV.int (x1 (Int.toNat (Int.tmod (w64 (x3 + 1)) x2)) 1)) (CV.int (x1 (Int.toNat (Int.tmod (w64 (x3 + 2)) x2)) 0)) (CV.int (x1 (Int.toNat (Int.tmod (w64 (x3 + 2)) x2)) 1))) else (L67v5 u x0 x1 x2 x3 (x1 x3.toNat 0).int (x1 x3.toNat 1).int (CV.int (x1 (Int.toNat (Int.tmod (w64 (x3 + 1)) x2)) 0)) (CV.int (x1 (Int.toNat (Int.tmod (w64 (x3 + 1)) x2)) 1)) (CV.int (x1 (Int.toNat (Int.tmod (w64 (x3 + 2)) x2)) 0)) (CV.int (x1 (Int.toNat (Int.tmod (w64 (x3 + 2)) x2)) 1)) u (w64 (x3 + 2))
  (k0 (x1 x3.toNat 0).int (x1 x3.toNat 1).int (CV.int (x1 (Int.toNat (Int.tmod (w64 (x3 + 1)) x2)) 0)) (CV.int (x1 (Int.toNat (Int.tmod (w64 (x3 + 1)) x2)) 1)) (CV.int (x1 (Int.toNat (Int.tmod (w64 (x3 + 2)) x2)) 0)) (CV.int (x1 (Int.toNat (Int.tmod (w64 (x3 + 2)) x2)) 1)))
  (L67v6 u x0 x1 x2 m (w64 (x3 + 1)) k0 k1)))) else (k0 (x1 x3.toNat 0).int (x1 x3.toNat 1).int (CV.int (x1 (Int.toNat (Int.tmod (w64 (x3 + 1)) x2)) 0)) (CV.int (x1 (Int.toNat (Int.tmod (w64 (x3 + 1)) x2)) 1)) (CV.int (x1 (Int.toNat (Int.tmod (w64 (x3 + 2)) x2)) 0)) (CV.int (x1 (Int.toNat (Int.tmod (w64 (x3 + 2)) x2)) 1))))) else none)) else none)) else none) else k1)
theorem nl67v6 : ∀ (m : Nat) (x0 : Int) (k0 : Int → Int → Int → Int → Int → Int → Option ρ) (k1 : Option ρ),ob (L67v6 u n0 f0 i0 m x0 k0 k1) ng = L67v6 u n0 f0 i0 m x0 (fun x1 x2 x3 x4 x5 x6 => ob (k0 x1 x2 x3 x4 x5 x6) ng) (ob k1 ng)
 | 0,_,_,_ => rfl
 | m + 1,x0,k0,k1 => by
  simp only [L67v6,ob_bif,ob_ob,ob_none,nl67v6 m,nl67v5]
def s67v12 : St := ⟨(.x (.c (ro kP n0 f0)) :: .u :: .u :: vxi i0 :: .u :: .u :: vxi i1 :: .x (.ptr 0 0) :: .x (.ptr 1 0) :: .x (.ptr 2 0) :: vxi (w64 (i1 + 2)) :: (us 26 (.x (.c (ro kP n0 f0)) :: vxi i1 :: .x (.c (.rp kP (f0 i1.toNat))) :: .agg [(vci (f0 i1.toNat 0).int),(vci (f0 i1.toNat 1).int)] :: .x (.c (ro kP n0 f0)) :: vxi i1 :: vxi (w64 (i1 + 1)) :: vxi i0 :: vxi (Int.tmod (w64 (i1 + 1)) i0) :: .x (.c (.rp kP (f0 (Int.toNat (Int.tmod (w64 (i1 + 1)) i0))))) :: .agg [(vci (CV.int (f0 (Int.toNat (Int.tmod (w64 (i1 + 1)) i0)) 0))),(vci (CV.int (f0 (Int.toNat (Int.tmod (w64 (i1 + 1)) i0)) 1)))] :: .x (.c (ro kP n0 f0)) :: vxi i1 :: vxi (w64 (i1 + 2)) :: vxi i0 :: vxi (Int.tmod (w64 (i1 + 2)) i0) :: .x (.c (.rp kP (f0 (Int.toNat (Int.tmod (w64 (i1 + 2)) i0))))) :: .agg [(vci (CV.int (f0 (Int.toNat (Int.tmod (w64 (i1 + 2)) i0)) 0))),(vci (CV.int (f0 (Int.toNat (Int.tmod (w64 (i1 + 2)) i0)) 1)))] :: (us 10 (vxi i1 :: vxi (w64 (i1 + 2)) :: (us 27 [])))))),[.box [(vci (f0 i1.toNat 0).int),(vci (f0 i1.toNat 1).int)],.box [(vci (CV.int (f0 (Int.toNat (Int.tmod (w64 (i1 + 1)) i0)) 0))),(vci (CV.int (f0 (Int.toNat (Int.tmod (w64 (i1 + 1)) i0)) 1)))],.box [(vci (CV.int (f0 (Int.toNat (Int.tmod (w64 (i1 + 2)) i0)) 0))),(vci (CV.int (f0 (Int.toNat (Int.tmod (w64 (i1 + 2)) i0)) 1)))]]⟩
theorem r67v6 :
  loopH (eB A34v13 (C19 u) u) N67v6 (m + 1) (s67v9 n0 f0 i0 i1) k =
  (bif (decide (i1 < i0)) then (bif (inb i1 n0) then (bif (i0 == 0) then none else (bif (inb (Int.tmod (w64 (i1 + 1)) i0) n0) then (bif (i0 == 0) then none else (bif (inb (Int.tmod (w64 (i1 + 2)) i0) n0) then (ob (F70 u (f0 i1.toNat 0).int (f0 i1.toNat 1).int (CV.int (f0 (Int.toNat (Int.tmod (w64 (i1 + 1)) i0)) 0)) (CV.int (f0 (Int.toNat (Int.tmod (w64 (i1 + 1)) i0)) 1)) (CV.int (f0 (Int.toNat (Int.tmod (w64 (i1 + 2)) i0)) 0)) (CV.int (f0 (Int.toNat (Int.tmod (w64 (i1 + 2)) i0)) 1))) fun x0 => (bif (x0 == false) then (ob (F70 u (CV.int (f0 (Int.toNat (Int.tmod (w64 (i1 + 2)) i0)) 0)) (CV.int (f0 (Int.toNat (Int.tmod (w64 (i1 + 2)) i0)) 1)) (f0 i1.toNat 0).int (f0 i1.toNat 1).int (CV.int (f0 (Int.toNat (Int.tmod (w64 (i1 + 1)) i0)) 0)) (CV.int (f0 (Int.toNat (Int.tmod (w64 (i1 + 1)) i0)) 1))) fun x1 => (bif x1 then (k .ret (s67v10 (f0 i1.toNat 0).int (f0 i1.toNat 1).int (CV.int (f0 (Int.toNat (Int.tmod (w64 (i1 + 1)) i0)) 0)) (CV.int (f0 (Int.toNat (Int.tmod (w64 (i1 + 1)) i0)) 1)) (CV.int (f0 (Int.toNat (Int.tmod (w64 (i1 + 2)) i0)) 0)) (CV.int (f0 (Int.toNat (Int.tmod (w64 (i1 + 2)) i0)) 1)))) else (loopN (eB A34v9 (C19 u) u) N67v5 u (s67v12 n0 f0 i0 i1) (kBlk 6 (kBlk 5 (kSeq (C19 u) u (2 :: (rl 7 4 (rl 37 57 []))) A34v11 (kLoop (eB A34v13 (C19 u) u) N67v6 m k))))))) else (k .ret (s67v10 (f0 i1.toNat 0).int (f0 i1.toNat 1).int (CV.int (f0 (Int.toNat (Int.tmod (w64 (i1 + 1)) i0)) 0)) (CV.int (f0 (Int.toNat (Int.tmod (w64 (i1 + 1)) i0)) 1)) (CV.int (f0 (Int.toNat (Int.tmod (w64 (i1 + 2)) i0)) 0)) (CV.int (f0 (Int.toNat (Int.tmod (w64 (i1 + 2)) i0)) 1)))))) else none)) else none)) else none) else (k (.exit 4) s67v11)) := by kernel_rfl
theorem t67v4 :
  loopN (eB A34v9 (C19 u) u) N67v5 u (s67v12 n0 f0 i0 i1) k =
  L67v5 u n0 f0 i0 i1 (f0 i1.toNat 0).int (f0 i1.toNat 1).int (CV.int (f0 (Int.toNat (Int.tmod (w64 (i1 + 1)) i0)) 0)) (CV.int (f0 (Int.toNat (Int.tmod (w64 (i1 + 1)) i0)) 1)) (CV.int (f0 (Int.toNat (Int.tmod (w64 (i1 + 2)) i0)) 0)) (CV.int (f0 (Int.toNat (Int.tmod (w64 (i1 + 2)) i0)) 1)) u (w64 (i1 + 2)) (k .ret (s67v7 (f0 i1.toNat 0).int (f0 i1.toNat 1).int (CV.int (f0 (Int.toNat (Int.tmod (w64 (i1 + 1)) i0)) 0)) (CV.int (f0 (Int.toNat (Int.tmod (w64 (i1 + 1)) i0)) 1)) (CV.int (f0 (Int.toNat (Int.tmod (w64 (i1 + 2)) i0)) 0)) (CV.int (f0 (Int.toNat (Int.tmod (w64 (i1 + 2)) i0)) 1)))) (k (.exit 6) (s67v8 n0 f0 i0 i1 (f0 i1.toNat 0).int (f0 i1.toNat 1).int (CV.int (f0 (Int.toNat (Int.tmod (w64 (i1 + 1)) i0)) 0)) (CV.int (f0 (Int.toNat (Int.tmod (w64 (i1 + 1)) i0)) 1)) (CV.int (f0 (Int.toNat (Int.tmod (w64 (i1 + 2)) i0)) 0)) (CV.int (f0 (Int.toNat (Int.tmod (w64 (i1 + 2)) i0)) 1)))) :=
 Eq.trans (loopN_at (by kernel_rfl)) (q67v5 ..)
theorem g67v5 :
  (kBlk 6 (kBlk 5 (kSeq (C19 u) u (2 :: (rl 7 4 (rl 37 57 []))) A34v11 (kLoop (eB A34v13 (C19 u) u) N67v6 m k)))) .ret (s67v7 (f0 i0.toNat 0).int (f0 i0.toNat 1).int (CV.int (f0 (Int.toNat (Int.tmod (w64 (i0 + 1)) i1)) 0)) (CV.int (f0 (Int.toNat (Int.tmod (w64 (i0 + 1)) i1)) 1)) (CV.int (f0 (Int.toNat (Int.tmod (w64 (i0 + 2)) i1)) 0)) (CV.int (f0 (Int.toNat (Int.tmod (w64 (i0 + 2)) i1)) 1))) =
  (k .ret (s67v10 (f0 i0.toNat 0).int (f0 i0.toNat 1).int (CV.int (f0 (Int.toNat (Int.tmod (w64 (i0 + 1)) i1)) 0)) (CV.int (f0 (Int.toNat (Int.tmod (w64 (i0 + 1)) i1)) 1)) (CV.int (f0 (Int.toNat (Int.tmod (w64 (i0 + 2)) i1)) 0)) (CV.int (f0 (Int.toNat (Int.tmod (w64 (i0 + 2)) i1)) 1)))) := by kernel_rfl
theorem g67v6 :
  (kBlk 6 (kBlk 5 (kSeq (C19 u) u (2 :: (rl 7 4 (rl 37 57 []))) A34v11 (kLoop (eB A34v13 (C19 u) u) N67v6 m k)))) (.exit 6) (s67v8 n0 f0 i0 i1 (f0 i1.toNat 0).int (f0 i1.toNat 1).int (CV.int (f0 (Int.toNat (Int.tmod (w64 (i1 + 1)) i0)) 0)) (CV.int (f0 (Int.toNat (Int.tmod (w64 (i1 + 1)) i0)) 1)) (CV.int (f0 (Int.toNat (Int.tmod (w64 (i1 + 2)) i0)) 0)) (CV.int (f0 (Int.toNat (Int.tmod (w64 (i1 + 2)) i0)) 1))) =
  (loopH (eB A34v13 (C19 u) u) N67v6 m (s67v9 n0 f0 i0 (w64 (i1 + 1))) k) := by kernel_rfl
theorem q67v6 : ∀ (m : Nat) (x0 : Int),
  loopH (eB A34v13 (C19 u) u) N67v6 m (s67v9 n0 f0 i0 x0) k = L67v6 u n0 f0 i0 m x0 (fun x1 x2 x3 x4 x5 x6 => k .ret (s67v10 x1 x2 x3 x4 x5 x6)) (k (.exit 4) s67v11)
 | 0,_ => rfl
 | m + 1,x0 => by
  rw [r67v6]
  simp only [L67v6,q67v6 m,t67v4,g67v5,g67v6]
def F67 (x0 : Nat) (x1 : FF) : Option (Bool) :=
 (L67v3 u x0 x1 (Int.ofNat x0) u 0
  (some false)
  (L67v6 u x0 x1 (Int.ofNat x0) u 0
  (fun x2 x3 x4 x5 x6 x7 => (some false))
  (some true)))
def s67v13 : St := ⟨[.x (.c (ro kP n0 f0)),uu,vxb false,vxi (Int.ofNat n0),vxi 0,uu,uu,uu,uu,uu,uu,.x (.c (ro kP n0 f0)),vxi (Int.ofNat n0),uu,uu,uu,uu,uu,uu,uu,uu,uu,uu,uu,uu,uu,uu,uu,uu,uu,uu,uu,uu,uu,uu,uu,uu,uu,uu,uu,uu,uu,uu,uu,uu,uu,uu,uu,uu,uu,uu,uu,uu,uu,uu,uu,uu,uu,uu,uu,uu,uu,uu,uu,uu,uu,uu,uu,uu,uu,uu,uu,uu,uu,uu,uu,uu,uu,uu,uu,uu,uu,uu,uu,uu,uu,uu,uu,uu,uu,uu,uu,uu,uu],[]⟩
theorem t67v7 :
  loopN (eB A34v6 (C19 u) u) N67v3 u (s67v13 n0 f0) k =
  L67v3 u n0 f0 (Int.ofNat n0) u 0 (k .ret s67v1) (k (.exit 0) (s67v4 n0 f0 (Int.ofNat n0))) :=
 Eq.trans (loopN_at (by kernel_rfl)) (q67v3 ..)
theorem g67v8 :
  (kBlk 0 (kSeq (C19 u) u (2 :: 4 :: 5 :: (rl 13 19 [])) A34v15 (finish A34))) .ret s67v1 =
  (some [.v (.b false)]) := by kernel_rfl
def s67v14 : St := ⟨(.x (.c (ro kP n0 f0)) :: .u :: .u :: vxi (Int.ofNat n0) :: .u :: .u :: vxi 0 :: (us 87 [])),[]⟩
theorem g67v9 :
  (kBlk 0 (kSeq (C19 u) u (2 :: 4 :: 5 :: (rl 13 19 [])) A34v15 (finish A34))) (.exit 0) (s67v4 n0 f0 (Int.ofNat n0)) =
  (loopN (eB A34v13 (C19 u) u) N67v6 u (s67v14 n0 f0) (kBlk 4 (kSeq (C19 u) u (2 :: (rl 6 5 (rl 32 62 []))) A34v14 (finish A34)))) := by kernel_rfl
theorem t67v10 :
  loopN (eB A34v13 (C19 u) u) N67v6 u (s67v14 n0 f0) k =
  L67v6 u n0 f0 (Int.ofNat n0) u 0 (fun x0 x1 x2 x3 x4 x5 => k .ret (s67v10 x0 x1 x2 x3 x4 x5)) (k (.exit 4) s67v11) :=
 Eq.trans (loopN_at (by kernel_rfl)) (q67v6 ..)
theorem g67v11 :
  (kBlk 4 (kSeq (C19 u) u (2 :: (rl 6 5 (rl 32 62 []))) A34v14 (finish A34))) .ret (s67v10 i0 i1 i2 i3 i4 i5) =
  (some [.v (.b false)]) := by kernel_rfl
theorem g67v12 :
  (kBlk 4 (kSeq (C19 u) u (2 :: (rl 6 5 (rl 32 62 []))) A34v14 (finish A34))) (.exit 4) s67v11 =
  (some [.v (.b true)]) := by kernel_rfl
theorem e67 : evalF (C19 u) u A34 [.v (ro kP n0 f0)] = ob (F67 u n0 f0) fun t => some [.v (.b t)] := Eq.trans (b := (loopN (eB A34v6 (C19 u) u) N67v3 u (s67v13 n0 f0) (kBlk 0 (kSeq (C19 u) u (2 :: 4 :: 5 :: (rl 13 19 [])) A34v15 (finish A34))))) (by kernel_rfl) (by
 simp only [F67,ob_bif,ob_ob,ob_none,ob_some,nl67v3,nl67v6,t67v7,g67v8,g67v9,t67v10,g67v11,g67v12])
def O67 : Ora := mkO (q1 (av (cL kP))) (fun x => F67 u x.1 x.2) fun t => [.v (.b t)]
theorem d67 : DO (O67 u) (C19 u) 34 A34 := dO u (fun x => by exact e67 u x.1 x.2)
def C20 : Oracle := (C19 u).add 34 (fun _ => true) (O67 u)
def A13v1 : AC := (.seq (.region 9 [o1 2 (sk 0)] 0 none) []
 (.ret (0 :: 1 :: (rl 3 12 []))))
def A13v2 : AC := (.seq (.seq (.region 7 [mv 12 0,o1 13 (cs 34 [12] [22]),o1 14 (.unOp .not 4 (tm 13))] 0 none) []
 (.cond (tm 14)
 (.seq (.region 8 [o1 2 (sk 17)] 0 none) []
  (.ret (0 :: 1 :: (rl 3 12 []))))
 .skip)) [2,12,13,14]
 A13v1)
def A13v3 : AC := (.seq (.seq (.region 5 [mv 9 0,o1 10 (cs 33 [9] [22]),o1 11 (.unOp .not 4 (tm 10))] 0 none) []
 (.cond (tm 11)
 (.seq (.region 6 [o1 2 (sk 9)] 0 none) []
  (.ret (0 :: 1 :: (rl 3 12 []))))
 .skip)) [2,9,10,11]
 A13v2)
def A13v4 : AC := (.seq (.seq (.region 3 [mv 6 0,o1 7 (.len 22 false (tm 6)),o1 8 (bk .gtr 3 7 32)] 0 none) []
 (.cond (tm 8)
 (.seq (.region 4 [o1 2 (sk 4)] 0 none) []
  (.ret (0 :: 1 :: (rl 3 12 []))))
 .skip)) [2,6,7,8]
 A13v3)
def A13 : AF := ⟨15,[.tmp 2],
 (.seq (.region 0 [o1 2 (sk 0)] 0 none) []
 (.seq (.seq (.region 1 [mv 3 0,o1 4 (.len 22 false (tm 3)),o1 5 (bk .lss 3 4 3)] 0 none) []
 (.cond (tm 5)
 (.seq (.region 2 [o1 2 (sk 3)] 0 none) []
  (.ret (0 :: 1 :: (rl 3 12 []))))
 .skip)) (rl 2 4 [])
 A13v4))⟩
def F37 (x0 : Nat) (x1 : FF) : Option (Int) :=
 (bif (decide ((Int.ofNat x0) < 3)) then (some 3) else (bif (decide ((Int.ofNat x0) > 32)) then (some 4) else (ob (F66 u x0 x1) fun x2 => (bif (!x2) then (some 9) else (ob (F67 u x0 x1) fun x3 => (bif (!x3) then (some 17) else (some 0)))))))
theorem e37 : evalF (C20 u) u A13 [.v (ro kP n0 f0)] = ob (F37 u n0 f0) fun t => some [.v (vi t)] := Eq.trans (b := (bif (decide ((Int.ofNat n0) < 3)) then (some [.v (vi 3)]) else (bif (decide ((Int.ofNat n0) > 32)) then (some [.v (vi 4)]) else (ob (F66 u n0 f0) fun x0 => (bif (!x0) then (some [.v (vi 9)]) else (ob (F67 u n0 f0) fun x1 => (bif (!x1) then (some [.v (vi 17)]) else (some [.v (vi 0)])))))))) (by kernel_rfl) (by
 simp only [F37,ob_bif,ob_ob,ob_none,ob_some])
def O37 : Ora := mkO (q1 (av (cL kP))) (fun x => F37 u x.1 x.2) fun t => [.v (vi t)]
theorem d37 : DO (O37 u) (C20 u) 13 A13 := dO u (fun x => by exact e37 u x.1 x.2)
def C21 : Oracle := (C20 u).add 13 (fun _ => true) (O37 u)
def A15v1 : AC := (.seq (.block 1
 (.seq (.region 5 [mv 15 13,o1 16 (.indexAddr 22 31 2 (tm 11) (tm 13)),o1 17 (ln 31 2 16),o1 5 (.alloc 0 31 [vci 0,vci 0]),o1 4 (sg 15),o0 (.store 31 2 (tm 5) (tm 17))] 1 none) []
  (.seq (.region 6 [mv 18 0,mv 19 4,o1 20 (bk .add 3 19 1),mv 21 0,o1 22 (.len 22 false (tm 21)),o1 23 (bt .rem 3 20 22),o1 24 (.indexAddr 22 31 2 (tm 18) (tm 23)),o1 25 (ln 31 2 24),o1 6 (.alloc 0 31 [vci 0,vci 0]),o0 (.store 31 2 (tm 6) (tm 25))] 1 none) []
  (.seq (.region 7 [o1 26 (fa 31 5 0 0),o1 27 (lo 3 26),o1 28 (fa 31 6 1 1),o1 29 (lo 3 28),o1 30 (bt .mul 3 27 29),o1 31 (fa 31 6 0 0),o1 32 (lo 3 31),o1 33 (fa 31 5 1 1),o1 34 (lo 3 33),o1 35 (bt .mul 3 32 34),o1 36 (bt .sub 3 30 35),o1 7 (sg 36)] 0 none) []
  (.seq (.region 8 [mv 37 2,o1 38 (fa 31 5 0 0),o1 39 (lo 3 38),o1 40 (fa 31 6 0 0),o1 41 (lo 3 40),o1 42 (bt .add 3 39 41),mv 43 7,o1 44 (bt .mul 3 42 43),o1 45 (bt .add 3 37 44),o1 2 (sg 45)] 0 none) []
  (.region 9 [mv 46 3,o1 47 (fa 31 5 1 1),o1 48 (lo 3 47),o1 49 (fa 31 6 1 1),o1 50 (lo 3 49),o1 51 (bt .add 3 48 50),mv 52 7,o1 53 (bt .mul 3 51 52),o1 54 (bt .add 3 46 53),o1 3 (sg 54)] 0 none)))))) []
 (.region 10 [o1 55 (bk .add 3 13 1),mv 13 55] 0 none))
def A15v2 : AC := (.seq (.region 4 [o1 14 (bt .lss 3 13 12)] 0 none) []
 (.seq (.cond (tm 14)
 .skip
 (.exit 0 (0 :: 1 :: (rl 4 54 [])))) []
 A15v1))
def A15v3 : AC := (.seq (.region 11 [mv 56 2,mv 57 3,o1 2 (sg 56),o1 3 (sg 57)] 0 none) []
 (.ret (0 :: 1 :: (rl 4 54 []))))
def A15v4 : AC := (.seq (.seq (.region 3 [mv 11 0,o1 12 (.len 22 false (tm 11)),o1 13 (.move (ic 0))] 0 none) []
 (.block 0
 (.loop [] (1 :: (rl 4 7 (rl 14 44 [])))
  A15v2))) (rl 4 4 (rl 11 45 []))
 A15v3)
def A15 : AF := ⟨58,[.tmp 2,.tmp 3],
 (.seq (.region 0 [o1 2 (sk 0),o1 3 (sk 0)] 0 none) []
 (.seq (.seq (.region 1 [mv 8 0,o1 9 (cs 12 [8] [22]),o1 10 (bk .neq 23 9 0)] 0 none) []
 (.cond (tm 10)
 (.seq (.region 2 [o1 2 (sk 0),o1 3 (sk 0)] 0 none) []
  (.ret (0 :: 1 :: (rl 4 54 []))))
 .skip)) [8,9,10]
 A15v4))⟩
def N43v1 : St → Option St := nN 0 (1 :: (rl 4 7 (rl 14 44 [])))
def s43v0 : St := ⟨(.x (.c (ro kP n0 f0)) :: .u :: vxi i0 :: vxi i1 :: (us 7 (.x (.c (ro kP n0 f0)) :: vxi i2 :: vxi i3 :: (us 44 [])))),[]⟩
def s43v1 : St := ⟨(.u :: .u :: vxi i0 :: vxi i1 :: (us 54 [])),[]⟩
def L43v1 {ρ : Type} (u : Nat) (x0 : Nat) (x1 : FF) (x2 : Int) : Nat → Int → Int → Int → (Int → Int → Option ρ) → Option ρ
 | 0,_,_,_,_ => none
 | m + 1,x3,x4,x5,k0 =>
  (bif (decide (x5 < x2)) then (bif (inb x5 x0) then (bif ((Int.ofNat x0) == 0) then none else (bif (inb (Int.tmod (w64 (x5 + 1)) (Int.ofNat x0)) x0) then (L43v1 u x0 x1 x2 m (w64 (x3 + (w64 ((w64 ((x1 x5.toNat 0).int + (CV.int (x1 (Int.toNat (Int.tmod (w64 (x5 + 1)) (Int.ofNat x0))) 0)))) * (w64 ((w64 ((x1 x5.toNat 0).int * (CV.int (x1 (Int.toNat (Int.tmod (w64 (x5 + 1)) (Int.ofNat x0))) 1)))) - (w64 ((CV.int (x1 (Int.toNat (Int.tmod (w64 (x5 + 1)) (Int.ofNat x0))) 0)) * (x1 x5.toNat 1).int)))))))) (w64 (x4 + (w64 ((w64 ((x1 x5.toNat 1).int + (CV.int (x1 (Int.toNat (Int.tmod (w64 (x5 + 1)) (Int.ofNat x0))) 1)))) * (w64 ((w64 ((x1 x5.toNat 0).int * (CV.int (x1 (Int.toNat (Int.tmod (w64 (x5 + 1)) (Int.ofNat x0))) 1)))) - (w64 ((CV.int (x1 (Int.toNat (Int.tmod (w64 (x5 + 1)) (Int.ofNat x0))) 0)) * (x1 x5.toNat 1).int)))))))) (w64 (x5 + 1)) k0) else none)) else none) else (k0 x3 x4))
theorem nl43v1 : ∀ (m : Nat) (x0 x1 x2 : Int) (k0 : Int → Int → Option ρ),ob (L43v1 u n0 f0 i0 m x0 x1 x2 k0) ng = L43v1 u n0 f0 i0 m x0 x1 x2 (fun x3 x4 => ob (k0 x3 x4) ng)
 | 0,_,_,_,_ => rfl
 | m + 1,x0,x1,x2,k0 => by
  simp only [L43v1,ob_bif,ob_ob,ob_none,nl43v1 m]
theorem r43v1 :
  loopH (eB A15v2 (C21 u) u) N43v1 (m + 1) (s43v0 n0 f0 i1 i2 i0 i3) k =
  (bif (decide (i3 < i0)) then (bif (inb i3 n0) then (bif ((Int.ofNat n0) == 0) then none else (bif (inb (Int.tmod (w64 (i3 + 1)) (Int.ofNat n0)) n0) then (loopH (eB A15v2 (C21 u) u) N43v1 m (s43v0 n0 f0 (w64 (i1 + (w64 ((w64 ((f0 i3.toNat 0).int + (CV.int (f0 (Int.toNat (Int.tmod (w64 (i3 + 1)) (Int.ofNat n0))) 0)))) * (w64 ((w64 ((f0 i3.toNat 0).int * (CV.int (f0 (Int.toNat (Int.tmod (w64 (i3 + 1)) (Int.ofNat n0))) 1)))) - (w64 ((CV.int (f0 (Int.toNat (Int.tmod (w64 (i3 + 1)) (Int.ofNat n0))) 0)) * (f0 i3.toNat 1).int)))))))) (w64 (i2 + (w64 ((w64 ((f0 i3.toNat 1).int + (CV.int (f0 (Int.toNat (Int.tmod (w64 (i3 + 1)) (Int.ofNat n0))) 1)))) * (w64 ((w64 ((f0 i3.toNat 0).int * (CV.int (f0 (Int.toNat (Int.tmod (w64 (i3 + 1)) (Int.ofNat n0))) 1)))) - (w64 ((CV.int (f0 (Int.toNat (Int.tmod (w64 (i3 + 1)) (Int.ofNat n0))) 0)) * (f0 i3.toNat 1).int)))))))) i0 (w64 (i3 + 1))) k) else none)) else none) else (k (.exit 0) (s43v1 i1 i2))) := by kernel_rfl
theorem q43v1 : ∀ (m : Nat) (x0 x1 x2 : Int),
  loopH (eB A15v2 (C21 u) u) N43v1 m (s43v0 n0 f0 x0 x1 i0 x2) k = L43v1 u n0 f0 i0 m x0 x1 x2 (fun x3 x4 => k (.exit 0) (s43v1 x3 x4))
 | 0,_,_,_ => rfl
 | m + 1,x0,x1,x2 => by
  rw [r43v1]
  simp only [L43v1,q43v1 m]
def F43 (x0 : Nat) (x1 : FF) : Option (Int × Int) :=
 (ob (F33 u x0 x1) fun x2 => (bif (x2 != 0) then (some (0,0)) else (L43v1 u x0 x1 (Int.ofNat x0) u 0 0 0
  (fun x3 x4 => (some (x3,x4))))))
def s43v2 : St := ⟨(.x (.c (ro kP n0 f0)) :: uu :: vxi 0 :: vxi 0 :: uu :: uu :: uu :: uu :: (us 3 [.x (.c (ro kP n0 f0)),vxi (Int.ofNat n0),vxi 0,uu,uu,uu,uu,uu,uu,uu,uu,uu,uu,uu,uu,uu,uu,uu,uu,uu,uu,uu,uu,uu,uu,uu,uu,uu,uu,uu,uu,uu,uu,uu,uu,uu,uu,uu,uu,uu,uu,uu,uu,uu,uu,uu,uu])),[]⟩
theorem t43v1 :
  loopN (eB A15v2 (C21 u) u) N43v1 u (s43v2 n0 f0) k =
  L43v1 u n0 f0 (Int.ofNat n0) u 0 0 0 (fun x0 x1 => k (.exit 0) (s43v1 x0 x1)) :=
 Eq.trans (loopN_at (by kernel_rfl)) (q43v1 ..)
theorem g43v2 :
  (kBlk 0 (kSeq (C21 u) u (rl 4 4 (rl 11 45 [])) A15v3 (finish A15))) (.exit 0) (s43v1 i0 i1) =
  (some [.v (vi i0),.v (vi i1)]) := by kernel_rfl
theorem e43 : evalF (C21 u) u A15 [.v (ro kP n0 f0)] = ob (F43 u n0 f0) fun t => some [.v (vi t.1),.v (vi t.2)] := Eq.trans (b := (ob (F33 u n0 f0) fun x0 => (bif (x0 != 0) then (some [.v (vi 0),.v (vi 0)]) else (loopN (eB A15v2 (C21 u) u) N43v1 u (s43v2 n0 f0) (kBlk 0 (kSeq (C21 u) u (rl 4 4 (rl 11 45 [])) A15v3 (finish A15))))))) (by kernel_rfl) (by
 simp only [F43,ob_bif,ob_ob,ob_none,ob_some,nl43v1,t43v1,g43v2])
def O43 : Ora := mkO (q1 (av (cL kP))) (fun x => F43 u x.1 x.2) fun t => [.v (vi t.1),.v (vi t.2)]
theorem d43 : DO (O43 u) (C21 u) 15 A15 := dO u (fun x => by exact e43 u x.1 x.2)
def C22 : Oracle := (C21 u).add 15 (fun _ => true) (O43 u)
def A17v1 : AC := (.seq (.region 3 [mv 6 0,o1 7 (cs 32 [6] [22]),o1 2 (sg 7)] 0 none) []
 (.ret (0 :: 1 :: (rl 3 5 []))))
def A17 : AF := ⟨8,[.tmp 2],
 (.seq (.region 0 [o1 2 (sk 0)] 0 none) []
 (.seq (.seq (.region 1 [mv 3 0,o1 4 (cs 12 [3] [22]),o1 5 (bk .neq 23 4 0)] 0 none) []
 (.cond (tm 5)
 (.seq (.region 2 [o1 2 (sk 0)] 0 none) []
  (.ret (0 :: 1 :: (rl 3 5 []))))
 .skip)) (rl 2 4 [])
 A17v1))⟩
def F34 (x0 : Nat) (x1 : FF) : Option (Int) :=
 (ob (F33 u x0 x1) fun x2 => (bif (x2 != 0) then (some 0) else (ob (F63 u x0 x1) fun x3 => (some x3))))
theorem e34 : evalF (C22 u) u A17 [.v (ro kP n0 f0)] = ob (F34 u n0 f0) fun t => some [.v (vi t)] := Eq.trans (b := (ob (F33 u n0 f0) fun x0 => (bif (x0 != 0) then (some [.v (vi 0)]) else (ob (F63 u n0 f0) fun x1 => (some [.v (vi x1)]))))) (by kernel_rfl) (by
 simp only [F34,ob_bif,ob_ob,ob_none,ob_some])
def O34 : Ora := mkO (q1 (av (cL kP))) (fun x => F34 u x.1 x.2) fun t => [.v (vi t)]
theorem d34 : DO (O34 u) (C22 u) 17 A17 := dO u (fun x => by exact e34 u x.1 x.2)
def C23 : Oracle := (C22 u).add 17 (fun _ => true) (O34 u)
def A21v1 : AC := (.seq (.region 11 [o1 47 (ln 31 2 7),o1 48 (ln 31 2 8),o1 49 (ln 31 2 3),o1 50 (cs 36 [47,48,49] [31,31,31]),o1 51 (bk .gtr 3 50 0),o1 9 (sg 51)] 0 none) []
 (.seq (.region 12 [mv 52 9,o1 53 (fa 31 8 1 1),o1 54 (lo 3 53),o1 55 (fa 31 7 1 1),o1 56 (lo 3 55),o1 57 (bt .gtr 3 54 56),o1 58 (.eqB false 4 (tm 52) (tm 57) 4)] 0 none) []
 (.cond (tm 58)
 (.region 13 [mv 59 5,o1 60 (.unOp .not 4 (tm 59)),o1 5 (sg 60)] 0 none)
 .skip)))
def A21v2 : AC := (.seq (.seq (.region 10 [o1 36 (fa 31 7 1 1),o1 37 (lo 3 36),o1 38 (fa 31 3 1 1),o1 39 (lo 3 38),o1 40 (bt .gtr 3 37 39),o1 41 (fa 31 8 1 1),o1 42 (lo 3 41),o1 43 (fa 31 3 1 1),o1 44 (lo 3 43),o1 45 (bt .gtr 3 42 44),o1 46 (.eqB false 4 (tm 40) (tm 45) 4)] 0 none) []
 (.cond (tm 46)
 (.exit 1 (1 :: 2 :: 4 :: (rl 6 11 (rl 20 43 []))))
 .skip)) (rl 36 11 [])
 A21v1)
def A21v3 : AC := (.region 14 [o1 61 (bk .add 3 19 1),mv 19 61] 0 none)
def A21v4 : AC := (.seq (.block 1
 (.seq (.region 6 [mv 21 19,o1 22 (.indexAddr 22 31 2 (tm 17) (tm 19)),o1 23 (ln 31 2 22),o1 7 (.alloc 0 31 [vci 0,vci 0]),o1 6 (sg 21),o0 (.store 31 2 (tm 7) (tm 23))] 1 none) []
  (.seq (.region 7 [mv 24 0,mv 25 6,o1 26 (bk .add 3 25 1),mv 27 0,o1 28 (.len 22 false (tm 27)),o1 29 (bt .rem 3 26 28),o1 30 (.indexAddr 22 31 2 (tm 24) (tm 29)),o1 31 (ln 31 2 30),o1 8 (.alloc 0 31 [vci 0,vci 0]),o0 (.store 31 2 (tm 8) (tm 31))] 1 none) []
  (.seq (.seq (.region 8 [o1 32 (ln 31 2 7),o1 33 (ln 31 2 8),o1 34 (ln 31 2 3),o1 35 (cs 38 [32,33,34] [31,31,31])] 0 none) []
  (.cond (tm 35)
  (.seq (.region 9 [o1 4 (sk 0)] 0 none) []
   (.ret (rl 0 4 (rl 5 58 []))))
  .skip)) (4 :: (rl 32 4 []))
  A21v2)))) (4 :: (rl 6 4 (rl 21 40 [])))
 A21v3)
def A21v5 : AC := (.seq (.region 5 [o1 20 (bt .lss 3 19 18)] 0 none) []
 (.seq (.cond (tm 20)
 .skip
 (.exit 0 (rl 0 5 (rl 6 57 [])))) []
 A21v4))
def A21v6 : AC := (.seq (.region 17 [o1 4 (sk (-1))] 0 none) []
 (.ret (rl 0 4 (rl 5 58 []))))
def A21v7 : AC := (.seq (.seq (.region 15 [mv 62 5] 0 none) []
 (.cond (tm 62)
 (.seq (.region 16 [o1 4 (sk 1)] 0 none) []
  (.ret (rl 0 4 (rl 5 58 []))))
 .skip)) [4,62]
 A21v6)
def A21v8 : AC := (.seq (.region 3 [o1 5 (sb false)] 0 none) []
 (.seq (.seq (.region 4 [mv 17 0,o1 18 (.len 22 false (tm 17)),o1 19 (.move (ic 0))] 0 none) []
 (.block 0
 (.loop [] (1 :: 2 :: 4 :: (rl 6 11 (rl 20 43 [])))
  A21v5))) (4 :: (rl 6 4 (rl 17 45 [])))
 A21v7))
def A21 : AF := ⟨63,[.tmp 4],
 (.seq (.region 0 [o1 3 (bx 0 31 1),o1 4 (sk 0)] 1 none) []
 (.seq (.seq (.region 1 [o1 10 (ln 31 2 3),o1 11 (cs 30 [10] [31]),mv 12 11,og 13 (.move (tm 0)) 12 false,og 14 (cs 12 [13] [22]) 12 false,og 15 (bk .neq 23 14 0) 12 false,o1 16 (pa 12 15)] 0 none) []
 (.cond (tm 16)
 (.seq (.region 2 [o1 4 (sk (-1))] 0 none) []
  (.ret (rl 0 4 (rl 5 58 []))))
 .skip)) (4 :: (rl 10 7 []))
 A21v8))⟩
def N65v1 : St → Option St := nN 1 (1 :: 2 :: 4 :: (rl 6 11 (rl 20 43 [])))
def s65v0 : St := ⟨(.x (.c (ro kP n0 f0)) :: .u :: .u :: .x (.ptr 0 0) :: .u :: vxb b0 :: (us 11 (.x (.c (ro kP n0 f0)) :: vxi i0 :: vxi i1 :: (us 43 [])))),[.box [(vci i2),(vci i3)]]⟩
def s65v1 : St := ⟨(us 4 (vxi 0 :: (us 58 []))),[.box [(vci i0),(vci i1)],.box [(vci i2),(vci i3)],.box [(vci i4),(vci i5)]]⟩
def s65v2 : St := ⟨(us 5 (vxb b0 :: (us 57 []))),[.box [(vci i0),(vci i1)]]⟩
def L65v1 {ρ : Type} (u : Nat) (x0 : Nat) (x1 : FF) (x2 x3 x4 : Int) : Nat → Bool → Int → (Int → Int → Int → Int → Option ρ) → (Bool → Option ρ) → Option ρ
 | 0,_,_,_,_ => none
 | m + 1,x5,x6,k0,k1 =>
  (bif (decide (x6 < x2)) then (bif (inb x6 x0) then (bif ((Int.ofNat x0) == 0) then none else (bif (inb (Int.tmod (w64 (x6 + 1)) (Int.ofNat x0)) x0) then (ob (F81 u (x1 x6.toNat 0).int (x1 x6.toNat 1).int (CV.int (x1 (Int.toNat (Int.tmod (w64 (x6 + 1)) (Int.ofNat x0))) 0)) (CV.int (x1 (Int.toNat (Int.tmod (w64 (x6 + 1)) (Int.ofNat x0))) 1)) x3 x4) fun x7 => (bif x7 then (k0 (x1 x6.toNat 0).int (x1 x6.toNat 1).int (CV.int (x1 (Int.toNat (Int.tmod (w64 (x6 + 1)) (Int.ofNat x0))) 0)) (CV.int (x1 (Int.toNat (Int.tmod (w64 (x6 + 1)) (Int.ofNat x0))) 1))) else (bif ((decide ((x1 x6.toNat 1).int > x4)) == (decide ((CV.int (x1 (Int.toNat (Int.tmod (w64 (x6 + 1)) (Int.ofNat x0))) 1)) > x4))) then (L65v1 u x0 x1 x2 x3 x4 m x5 (w64 (x6 + 1)) k0 k1) else (ob (F79 u (x1 x6.toNat 0).int (x1 x6.toNat 1).int (CV.int (x1 (Int.toNat (Int.tmod (w64 (x6 + 1)) (Int.ofNat x0))) 0)) (CV.int (x1 (Int.toNat (Int.tmod (w64 (x6 + 1)) (Int.ofNat x0))) 1)) x3 x4) fun x8 => (bif ((decide (x8 > 0)) == (decide ((CV.int (x1 (Int.toNat (Int.tmod (w64 (x6 + 1)) (Int.ofNat x0))) 1)) > (x1 x6.toNat 1).int))) then (L65v1 u x0 x1 x2 x3 x4 m (!x5) (w64 (x6 + 1)) k0 k1) else (L65v1 u x0 x1 x2 x3 x4 m x5 (w64 (x6 + 1)) k0 k1)))))) else none)) else none) else (k1 x5))
theorem nl65v1 : ∀ (m : Nat) (x0 : Bool) (x1 : Int) (k0 : Int → Int → Int → Int → Option ρ) (k1 : Bool → Option ρ),ob (L65v1 u n0 f0 i0 i1 i2 m x0 x1 k0 k1) ng = L65v1 u n0 f0 i0 i1 i2 m x0 x1 (fun x2 x3 x4 x5 => ob (k0 x2 x3 x4 x5) ng) (fun x6 => ob (k1 x6) ng)
 | 0,_,_,_,_ => rfl
 | m + 1,x0,x1,k0,k1 => by
  simp only [L65v1,ob_bif,ob_ob,ob_none,nl65v1 m]
theorem r65v1 :
  loopH (eB A21v5 (C23 u) u) N65v1 (m + 1) (s65v0 n0 f0 i0 i3 i1 i2 b0) k =
  (bif (decide (i3 < i0)) then (bif (inb i3 n0) then (bif ((Int.ofNat n0) == 0) then none else (bif (inb (Int.tmod (w64 (i3 + 1)) (Int.ofNat n0)) n0) then (ob (F81 u (f0 i3.toNat 0).int (f0 i3.toNat 1).int (CV.int (f0 (Int.toNat (Int.tmod (w64 (i3 + 1)) (Int.ofNat n0))) 0)) (CV.int (f0 (Int.toNat (Int.tmod (w64 (i3 + 1)) (Int.ofNat n0))) 1)) i1 i2) fun x0 => (bif x0 then (k .ret (s65v1 i1 i2 (f0 i3.toNat 0).int (f0 i3.toNat 1).int (CV.int (f0 (Int.toNat (Int.tmod (w64 (i3 + 1)) (Int.ofNat n0))) 0)) (CV.int (f0 (Int.toNat (Int.tmod (w64 (i3 + 1)) (Int.ofNat n0))) 1)))) else (bif ((decide ((f0 i3.toNat 1).int > i2)) == (decide ((CV.int (f0 (Int.toNat (Int.tmod (w64 (i3 + 1)) (Int.ofNat n0))) 1)) > i2))) then (loopH (eB A21v5 (C23 u) u) N65v1 m (s65v0 n0 f0 i0 (w64 (i3 + 1)) i1 i2 b0) k) else (ob (F79 u (f0 i3.toNat 0).int (f0 i3.toNat 1).int (CV.int (f0 (Int.toNat (Int.tmod (w64 (i3 + 1)) (Int.ofNat n0))) 0)) (CV.int (f0 (Int.toNat (Int.tmod (w64 (i3 + 1)) (Int.ofNat n0))) 1)) i1 i2) fun x1 => (bif ((decide (x1 > 0)) == (decide ((CV.int (f0 (Int.toNat (Int.tmod (w64 (i3 + 1)) (Int.ofNat n0))) 1)) > (f0 i3.toNat 1).int))) then (loopH (eB A21v5 (C23 u) u) N65v1 m (s65v0 n0 f0 i0 (w64 (i3 + 1)) i1 i2 (!b0)) k) else (loopH (eB A21v5 (C23 u) u) N65v1 m (s65v0 n0 f0 i0 (w64 (i3 + 1)) i1 i2 b0) k)))))) else none)) else none) else (k (.exit 0) (s65v2 i1 i2 b0))) := by kernel_rfl
theorem q65v1 : ∀ (m : Nat) (x0 : Bool) (x1 : Int),
  loopH (eB A21v5 (C23 u) u) N65v1 m (s65v0 n0 f0 i0 x1 i1 i2 x0) k = L65v1 u n0 f0 i0 i1 i2 m x0 x1 (fun x2 x3 x4 x5 => k .ret (s65v1 i1 i2 x2 x3 x4 x5)) (fun x6 => k (.exit 0) (s65v2 i1 i2 x6))
 | 0,_,_ => rfl
 | m + 1,x0,x1 => by
  rw [r65v1]
  simp only [L65v1,q65v1 m]
def F65 (x0 : Nat) (x1 : FF) (x2 x3 : Int) : Option (Int) :=
 (ob (F61 u x2 x3) fun x4 => (bif (x4 == false) then (ob (F33 u x0 x1) fun x5 => (bif (x5 != 0) then (some (-1)) else (L65v1 u x0 x1 (Int.ofNat x0) x2 x3 u false 0
  (fun x6 x7 x8 x9 => (some 0))
  (fun xA => (bif xA then (some 1) else (some (-1))))))) else (some (-1))))
def s65v3 : St := ⟨(.x (.c (ro kP n0 f0)) :: .agg [(vci i0),(vci i1)] :: uu :: .x (.ptr 0 0) :: .u :: vxb false :: uu :: uu :: uu :: uu :: (us 7 [.x (.c (ro kP n0 f0)),vxi (Int.ofNat n0),vxi 0,uu,uu,uu,uu,uu,uu,uu,uu,uu,uu,uu,uu,uu,uu,uu,uu,uu,uu,uu,uu,uu,uu,uu,uu,uu,uu,uu,uu,uu,uu,uu,uu,uu,uu,uu,uu,uu,uu,uu,uu,uu,uu,uu])),[.box [(vci i0),(vci i1)]]⟩
theorem t65v1 :
  loopN (eB A21v5 (C23 u) u) N65v1 u (s65v3 n0 f0 i0 i1) k =
  L65v1 u n0 f0 (Int.ofNat n0) i0 i1 u false 0 (fun x0 x1 x2 x3 => k .ret (s65v1 i0 i1 x0 x1 x2 x3)) (fun x4 => k (.exit 0) (s65v2 i0 i1 x4)) :=
 Eq.trans (loopN_at (by kernel_rfl)) (q65v1 ..)
theorem g65v2 :
  (kBlk 0 (kSeq (C23 u) u (4 :: (rl 6 4 (rl 17 45 []))) A21v7 (finish A21))) .ret (s65v1 i0 i1 i2 i3 i4 i5) =
  (some [.v (vi 0)]) := by kernel_rfl
theorem g65v3 :
  (kBlk 0 (kSeq (C23 u) u (4 :: (rl 6 4 (rl 17 45 []))) A21v7 (finish A21))) (.exit 0) (s65v2 i0 i1 b0) =
  (bif b0 then (some [.v (vi 1)]) else (some [.v (vi (-1))])) := by kernel_rfl
theorem e65 : evalF (C23 u) u A21 [.v (ro kP n0 f0),.agg [(vi i0),(vi i1)]] = ob (F65 u n0 f0 i0 i1) fun t => some [.v (vi t)] := Eq.trans (b := (ob (F61 u i0 i1) fun x0 => (bif (x0 == false) then (ob (F33 u n0 f0) fun x1 => (bif (x1 != 0) then (some [.v (vi (-1))]) else (loopN (eB A21v5 (C23 u) u) N65v1 u (s65v3 n0 f0 i0 i1) (kBlk 0 (kSeq (C23 u) u (4 :: (rl 6 4 (rl 17 45 []))) A21v7 (finish A21)))))) else (some [.v (vi (-1))])))) (by kernel_rfl) (by
 simp only [F65,ob_bif,ob_ob,ob_none,ob_some,nl65v1,t65v1,g65v2,g65v3])
def O65 : Ora := mkO (qc (av (cL kP)) (q1 (ag (tc ci (t1 ci))))) (fun x => F65 u x.1.1 x.1.2 x.2.1 x.2.2) fun t => [.v (vi t)]
theorem d65 : DO (O65 u) (C23 u) 21 A21 := dO u (fun x => by exact e65 u x.1.1 x.1.2 x.2.1 x.2.2)
def C24 : Oracle := (C23 u).add 21 (fun _ => true) (O65 u)
def A19v1 : AC := (.region 9 [o1 41 (bk .add 3 13 1),mv 13 41] 0 none)
def A19v2 : AC := (.seq (.block 1
 (.seq (.region 6 [mv 15 13,o1 4 (sg 15)] 0 none) []
  (.seq (.region 7 [mv 16 0,mv 17 4,o1 18 (.indexAddr 22 31 2 (tm 16) (tm 17)),o1 19 (ln 31 2 18),mv 20 0,mv 21 4,o1 22 (bk .add 3 21 1),mv 23 0,o1 24 (.len 22 false (tm 23)),o1 25 (bt .rem 3 22 24),o1 26 (.indexAddr 22 31 2 (tm 20) (tm 25)),o1 27 (ln 31 2 26),mv 28 0,mv 29 4,o1 30 (bk .add 3 29 2),mv 31 0,o1 32 (.len 22 false (tm 31)),o1 33 (bt .rem 3 30 32),o1 34 (.indexAddr 22 31 2 (tm 28) (tm 33)),o1 35 (ln 31 2 34),o1 36 (cs 36 [19,27,35] [31,31,31]),o1 37 (cs 35 [36] [3]),mv 38 3,o1 39 (bt .mul 3 37 38),o1 40 (bk .lss 3 39 0)] 0 (some [[],[],[0,1],[0,1,2],[],[],[5],[],[7],(rl 5 4 []),(rl 4 6 []),(rl 4 7 []),[],[],[13],[],[15],(rl 13 4 []),(rl 12 6 []),(rl 12 7 []),(rl 0 20 []),(rl 0 21 []),[],(rl 0 23 []),(rl 0 24 [])])) []
  (.cond (tm 40)
  (.seq (.region 8 [o1 2 (sb false)] 0 none) []
   (.ret (0 :: 1 :: (rl 3 39 []))))
  .skip)))) (2 :: 4 :: (rl 15 26 []))
 A19v1)
def A19v3 : AC := (.seq (.region 5 [o1 14 (bt .lss 3 13 12)] 0 none) []
 (.seq (.cond (tm 14)
 .skip
 (.exit 0 (rl 0 42 []))) []
 A19v2))
def A19v4 : AC := (.seq (.region 10 [o1 2 (sb true)] 0 none) []
 (.ret (0 :: 1 :: (rl 3 39 []))))
def A19v5 : AC := (.seq (.region 3 [mv 8 0,o1 9 (cs 32 [8] [22]),o1 10 (cs 35 [9] [3]),o1 3 (sg 10)] 0 none) []
 (.seq (.seq (.region 4 [mv 11 0,o1 12 (.len 22 false (tm 11)),o1 13 (.move (ic 0))] 0 none) []
 (.block 0
 (.loop [] (1 :: 2 :: (rl 4 8 (rl 14 28 [])))
  A19v3))) (2 :: 4 :: (rl 11 31 []))
 A19v4))
def A19 : AF := ⟨42,[.tmp 2],
 (.seq (.region 0 [o1 2 (sb false)] 0 none) []
 (.seq (.seq (.region 1 [mv 5 0,o1 6 (cs 12 [5] [22]),o1 7 (bk .neq 23 6 0)] 0 none) []
 (.cond (tm 7)
 (.seq (.region 2 [o1 2 (sb false)] 0 none) []
  (.ret (0 :: 1 :: (rl 3 39 []))))
 .skip)) [2,5,6,7]
 A19v5))⟩
def N200v1 : St → Option St := nN 0 (1 :: 2 :: (rl 4 8 (rl 14 28 [])))
def s200v0 : St := ⟨(.x (.c (ro kP n0 f0)) :: .u :: .u :: vxi i0 :: (us 8 (vxi i1 :: vxi i2 :: (us 28 [])))),[]⟩
def s200v1 : St := ⟨(.u :: .u :: vxb false :: (us 39 [])),[]⟩
def s200v2 : St := ⟨(us 42 []),[]⟩
def L200v1 {ρ : Type} (u : Nat) (x0 : Nat) (x1 : FF) (x2 x3 : Int) : Nat → Int → (Option ρ) → (Option ρ) → Option ρ
 | 0,_,_,_ => none
 | m + 1,x4,k0,k1 =>
  (bif (decide (x4 < x3)) then (bif (inb x4 x0) then (bif ((Int.ofNat x0) == 0) then none else (bif (inb (Int.tmod (w64 (x4 + 1)) (Int.ofNat x0)) x0) then (bif ((Int.ofNat x0) == 0) then none else (bif (inb (Int.tmod (w64 (x4 + 2)) (Int.ofNat x0)) x0) then (ob (F79 u (x1 x4.toNat 0).int (x1 x4.toNat 1).int (CV.int (x1 (Int.toNat (Int.tmod (w64 (x4 + 1)) (Int.ofNat x0))) 0)) (CV.int (x1 (Int.toNat (Int.tmod (w64 (x4 + 1)) (Int.ofNat x0))) 1)) (CV.int (x1 (Int.toNat (Int.tmod (w64 (x4 + 2)) (Int.ofNat x0))) 0)) (CV.int (x1 (Int.toNat (Int.tmod (w64 (x4 + 2)) (Int.ofNat x0))) 1))) fun x5 => (ob (F86 u x5) fun x6 => (bif (decide ((w64 (x6 * x2)) < 0)) then k0 else (L200v1 u x0 x1 x2 x3 m (w64 (x4 + 1)) k0 k1)))) else none)) else none)) else none) else k1)
theorem nl200v1 : ∀ (m : Nat) (x0 : Int) (k0 : Option ρ) (k1 : Option ρ),ob (L200v1 u n0 f0 i0 i1 m x0 k0 k1) ng = L200v1 u n0 f0 i0 i1 m x0 (ob k0 ng) (ob k1 ng)
 | 0,_,_,_ => rfl
 | m + 1,x0,k0,k1 => by
  simp only [L200v1,ob_bif,ob_ob,ob_none,nl200v1 m]
theorem r200v1 :
  loopH (eB A19v3 (C24 u) u) N200v1 (m + 1) (s200v0 n0 f0 i0 i1 i2) k =
  (bif (decide (i2 < i1)) then (bif (inb i2 n0) then (bif ((Int.ofNat n0) == 0) then none else (bif (inb (Int.tmod (w64 (i2 + 1)) (Int.ofNat n0)) n0) then (bif ((Int.ofNat n0) == 0) then none else (bif (inb (Int.tmod (w64 (i2 + 2)) (Int.ofNat n0)) n0) then (ob (F79 u (f0 i2.toNat 0).int (f0 i2.toNat 1).int (CV.int (f0 (Int.toNat (Int.tmod (w64 (i2 + 1)) (Int.ofNat n0))) 0)) (CV.int (f0 (Int.toNat (Int.tmod (w64 (i2 + 1)) (Int.ofNat n0))) 1)) (CV.int (f0 (Int.toNat (Int.tmod (w64 (i2 + 2)) (Int.ofNat n0))) 0)) (CV.int (f0 (Int.toNat (Int.tmod (w64 (i2 + 2)) (Int.ofNat n0))) 1))) fun x0 => (ob (F86 u x0) fun x1 => (bif (decide ((w64 (x1 * i0)) < 0)) then (k .ret s200v1) else (loopH (eB A19v3 (C24 u) u) N200v1 m (s200v0 n0 f0 i0 i1 (w64 (i2 + 1))) k)))) else none)) else none)) else none) else (k (.exit 0) s200v2)) := by kernel_rfl
theorem q200v1 : ∀ (m : Nat) (x0 : Int),
  loopH (eB A19v3 (C24 u) u) N200v1 m (s200v0 n0 f0 i0 i1 x0) k = L200v1 u n0 f0 i0 i1 m x0 (k .ret s200v1) (k (.exit 0) s200v2)
 | 0,_ => rfl
 | m + 1,x0 => by
  rw [r200v1]
  simp only [L200v1,q200v1 m]
def F200 (x0 : Nat) (x1 : FF) : Option (Bool) :=
 (ob (F33 u x0 x1) fun x2 => (bif (x2 != 0) then (some false) else (ob (F63 u x0 x1) fun x3 => (ob (F86 u x3) fun x4 => (L200v1 u x0 x1 x4 (Int.ofNat x0) u 0
  (some false)
  (some true))))))
def s200v3 : St := ⟨(.x (.c (ro kP n0 f0)) :: uu :: .u :: vxi i0 :: uu :: (us 3 [.x (.c (ro kP n0 f0)),vxi i1,vxi i0,.x (.c (ro kP n0 f0)),vxi (Int.ofNat n0),vxi 0,uu,uu,uu,uu,uu,uu,uu,uu,uu,uu,uu,uu,uu,uu,uu,uu,uu,uu,uu,uu,uu,uu,uu,uu,uu,uu,uu,uu])),[]⟩
theorem t200v1 :
  loopN (eB A19v3 (C24 u) u) N200v1 u (s200v3 n0 f0 i0 i1) k =
  L200v1 u n0 f0 i0 (Int.ofNat n0) u 0 (k .ret s200v1) (k (.exit 0) s200v2) :=
 Eq.trans (loopN_at (by kernel_rfl)) (q200v1 ..)
theorem g200v2 :
  (kBlk 0 (kSeq (C24 u) u (2 :: 4 :: (rl 11 31 [])) A19v4 (finish A19))) .ret s200v1 =
  (some [.v (.b false)]) := by kernel_rfl
theorem g200v3 :
  (kBlk 0 (kSeq (C24 u) u (2 :: 4 :: (rl 11 31 [])) A19v4 (finish A19))) (.exit 0) s200v2 =
  (some [.v (.b true)]) := by kernel_rfl
theorem e200 : evalF (C24 u) u A19 [.v (ro kP n0 f0)] = ob (F200 u n0 f0) fun t => some [.v (.b t)] := Eq.trans (b := (ob (F33 u n0 f0) fun x0 => (bif (x0 != 0) then (some [.v (.b false)]) else (ob (F63 u n0 f0) fun x1 => (ob (F86 u x1) fun x2 => (loopN (eB A19v3 (C24 u) u) N200v1 u (s200v3 n0 f0 x2 x1) (kBlk 0 (kSeq (C24 u) u (2 :: 4 :: (rl 11 31 [])) A19v4 (finish A19))))))))) (by kernel_rfl) (by
 simp only [F200,ob_bif,ob_ob,ob_none,ob_some,nl200v1,t200v1,g200v2,g200v3])
def O200 : Ora := mkO (q1 (av (cL kP))) (fun x => F200 u x.1 x.2) fun t => [.v (.b t)]
theorem d200 : DO (O200 u) (C24 u) 19 A19 := dO u (fun x => by exact e200 u x.1 x.2)
def C25 : Oracle := (C24 u).add 19 (fun _ => true) (O200 u)
def A43v1 : AC := (.region 7 [o1 16 (bk .add 3 8 1),mv 8 16] 0 none)
def A43v2 : AC := (.seq (.block 1
 (.seq (.region 4 [o1 10 (.indexAddr 53 3 1 (tm 6) (tm 8)),o1 11 (lo 3 10),o1 5 (sg 11)] 0 none) []
  (.seq (.region 5 [mv 12 5,mv 13 3,o1 14 (bt .neq 3 12 13)] 0 none) []
  (.cond (tm 14)
  (.seq (.region 6 [mv 15 5,o1 2 (sg 15)] 0 none) []
   (.ret (0 :: 1 :: (rl 3 15 []))))
  .skip)))) (2 :: 5 :: (rl 10 6 []))
 A43v1)
def A43v3 : AC := (.seq (.region 3 [o1 9 (bt .lss 3 8 7)] 0 none) []
 (.seq (.cond (tm 9)
 .skip
 (.exit 0 (0 :: 1 :: 2 :: (rl 4 14 [])))) []
 A43v2))
def A43v4 : AC := (.seq (.region 8 [mv 17 3,o1 2 (sg 17)] 0 none) []
 (.ret (0 :: 1 :: (rl 3 15 []))))
def A43 : AF := ⟨18,[.tmp 2],
 (.seq (.region 0 [o1 2 (sk 0)] 0 none) []
 (.seq (.region 1 [o1 3 (sk 0)] 0 none) []
 (.seq (.seq (.region 2 [mv 6 0,o1 7 (.len 53 false (tm 6)),o1 8 (.move (ic 0))] 0 none) []
 (.block 0
 (.loop [] (0 :: 1 :: 2 :: 4 :: 5 :: (rl 9 9 []))
  A43v3))) (2 :: (rl 5 12 []))
 A43v4)))⟩
def N201v1 : St → Option St := nN 0 (0 :: 1 :: 2 :: 4 :: 5 :: (rl 9 9 []))
def s201v0 : St := ⟨(us 3 (vxi 0 :: .u :: .u :: .x (.c (ro (.pr (.int .i64) .nil) n0 f0)) :: vxi i0 :: vxi i1 :: (us 9 []))),[]⟩
def s201v1 : St := ⟨(.u :: .u :: vxi i0 :: (us 15 [])),[]⟩
def s201v2 : St := ⟨(us 3 (vxi 0 :: (us 14 []))),[]⟩
def L201v1 {ρ : Type} (u : Nat) (x0 : Nat) (x1 : FF) (x2 : Int) : Nat → Int → (Int → Option ρ) → (Option ρ) → Option ρ
 | 0,_,_,_ => none
 | m + 1,x3,k0,k1 =>
  (bif (decide (x3 < x2)) then (bif (inb x3 x0) then (bif ((x1 x3.toNat 0).int != 0) then (k0 (x1 x3.toNat 0).int) else (L201v1 u x0 x1 x2 m (w64 (x3 + 1)) k0 k1)) else none) else k1)
theorem nl201v1 : ∀ (m : Nat) (x0 : Int) (k0 : Int → Option ρ) (k1 : Option ρ),ob (L201v1 u n0 f0 i0 m x0 k0 k1) ng = L201v1 u n0 f0 i0 m x0 (fun x1 => ob (k0 x1) ng) (ob k1 ng)
 | 0,_,_,_ => rfl
 | m + 1,x0,k0,k1 => by
  simp only [L201v1,ob_bif,ob_ob,ob_none,nl201v1 m]
theorem r201v1 :
  loopH (eB A43v3 (C25 u) u) N201v1 (m + 1) (s201v0 n0 f0 i0 i1) k =
  (bif (decide (i1 < i0)) then (bif (inb i1 n0) then (bif ((f0 i1.toNat 0).int != 0) then (k .ret (s201v1 (f0 i1.toNat 0).int)) else (loopH (eB A43v3 (C25 u) u) N201v1 m (s201v0 n0 f0 i0 (w64 (i1 + 1))) k)) else none) else (k (.exit 0) s201v2)) := by kernel_rfl
theorem q201v1 : ∀ (m : Nat) (x0 : Int),
  loopH (eB A43v3 (C25 u) u) N201v1 m (s201v0 n0 f0 i0 x0) k = L201v1 u n0 f0 i0 m x0 (fun x1 => k .ret (s201v1 x1)) (k (.exit 0) s201v2)
 | 0,_ => rfl
 | m + 1,x0 => by
  rw [r201v1]
  simp only [L201v1,q201v1 m]
def F201 (x0 : Nat) (x1 : FF) : Option (Int) :=
 (L201v1 u x0 x1 (Int.ofNat x0) u 0
  (fun x2 => (some x2))
  (some 0))
def s201v3 : St := ⟨[.x (.c (ro (.pr (.int .i64) .nil) n0 f0)),uu,vxi 0,vxi 0,uu,uu,.x (.c (ro (.pr (.int .i64) .nil) n0 f0)),vxi (Int.ofNat n0),vxi 0,uu,uu,uu,uu,uu,uu,uu,uu,uu],[]⟩
theorem t201v1 :
  loopN (eB A43v3 (C25 u) u) N201v1 u (s201v3 n0 f0) k =
  L201v1 u n0 f0 (Int.ofNat n0) u 0 (fun x0 => k .ret (s201v1 x0)) (k (.exit 0) s201v2) :=
 Eq.trans (loopN_at (by kernel_rfl)) (q201v1 ..)
theorem g201v2 :
  (kBlk 0 (kSeq (C25 u) u (2 :: (rl 5 12 [])) A43v4 (finish A43))) .ret (s201v1 i0) =
  (some [.v (vi i0)]) := by kernel_rfl
theorem g201v3 :
  (kBlk 0 (kSeq (C25 u) u (2 :: (rl 5 12 [])) A43v4 (finish A43))) (.exit 0) s201v2 =
  (some [.v (vi 0)]) := by kernel_rfl
theorem e201 : evalF (C25 u) u A43 [.v (ro (.pr (.int .i64) .nil) n0 f0)] = ob (F201 u n0 f0) fun t => some [.v (vi t)] := Eq.trans (b := (loopN (eB A43v3 (C25 u) u) N201v1 u (s201v3 n0 f0) (kBlk 0 (kSeq (C25 u) u (2 :: (rl 5 12 [])) A43v4 (finish A43))))) (by kernel_rfl) (by
 simp only [F201,ob_bif,ob_ob,ob_none,ob_some,nl201v1,t201v1,g201v2,g201v3])
def O201 : Ora := mkO (q1 (av (cL (.pr (.int .i64) .nil)))) (fun x => F201 u x.1 x.2) fun t => [.v (vi t)]
theorem d201 : DO (O201 u) (C25 u) 43 A43 := dO u (fun x => by exact e201 u x.1 x.2)
def C26 : Oracle := (C25 u).add 43 (fun _ => true) (O201 u)
def A42 : AF := ⟨17,[.tmp 4],
 (.seq (.region 0 [o1 2 (bx 0 31 0),o1 3 (bx 1 31 1),o1 4 (sk 0)] 2 none) []
 (.seq (.region 1 [o1 5 (fa 31 2 0 0),o1 6 (lo 3 5),o1 7 (fa 31 3 0 0),o1 8 (lo 3 7),o1 9 (bt .sub 3 6 8),o1 10 (fa 31 2 1 1),o1 11 (lo 3 10),o1 12 (fa 31 3 1 1),o1 13 (lo 3 12),o1 14 (bt .sub 3 11 13),o1 15 (.buildSlice 0 53 3 (.pr (.int .i64) .nil) 2 [vci 0] [(0,(tm 9)),(1,(tm 14))]),o1 16 (cs 43 [15] [53]),o1 4 (sg 16)] 1 none) []
 (.ret (rl 0 4 (rl 5 12 [])))))⟩
def F202 (x0 x1 x2 x3 : Int) : Option (Int) :=
 (ob (F201 u 2 (rowsF 1 [(.i .i64 (w64 (x0 - x2))),(.i .i64 (w64 (x1 - x3)))])) fun x4 => (some x4))
theorem e202 : evalF (C26 u) u A42 [.agg [(vi i0),(vi i1)],.agg [(vi i2),(vi i3)]] = ob (F202 u i0 i1 i2 i3) fun t => some [.v (vi t)] := Eq.trans (b := (ob (F201 u 2 (rowsF 1 [(vi (w64 (i0 - i2))),(vi (w64 (i1 - i3)))])) fun x0 => (some [.v (vi x0)]))) (by kernel_rfl) (by
 simp only [F202,ob_bif,ob_ob,ob_none,ob_some])
def O202 : Ora := mkO (qc (ag (tc ci (t1 ci))) (q1 (ag (tc ci (t1 ci))))) (fun x => F202 u x.1.1 x.1.2 x.2.1 x.2.2) fun t => [.v (vi t)]
theorem d202 : DO (O202 u) (C26 u) 42 A42 := dO u (fun x => by exact e202 u x.1.1 x.1.2 x.2.1 x.2.2)
def C27 : Oracle := (C26 u).add 42 (fun _ => true) (O202 u)
def F203 (u : Nat) (n : Nat) (g : FF) : Option FF := sortT n g
def C28 : Oracle := (C27 u).addT 41 (fun r n g rest => bif r.beq kP && isClo 42 rest then F203 u n g else none)
def A45v1 : AC := (.block 3
 (.region 6 [mv 32 3,mv 33 3,o1 34 (.len 22 false (tm 33)),o1 35 (bk .sub 3 34 1),o1 36 (.slice 22 31 2 (tm 32) none (some (tm 35)) none),o1 3 (sg 36)] 0 none))
def A45v2 : AC := (.seq (.seq (.region 5 [mv 12 3,o1 13 (.len 22 false (tm 12)),o1 14 (bk .gtr 3 13 1),mv 15 14,og 16 (.move (tm 3)) 15 true,og 17 (.move (tm 3)) 15 true,og 18 (.len 22 false (tm 17)) 15 true,og 19 (bk .sub 3 18 2) 15 true,og 20 (.indexAddr 22 31 2 (tm 16) (tm 19)) 15 true,og 21 (ln 31 2 20) 15 true,og 22 (.move (tm 3)) 15 true,og 23 (.move (tm 3)) 15 true,og 24 (.len 22 false (tm 23)) 15 true,og 25 (bk .sub 3 24 1) 15 true,og 26 (.indexAddr 22 31 2 (tm 22) (tm 25)) 15 true,og 27 (ln 31 2 26) 15 true,og 28 (ln 31 2 5) 15 true,og 29 (cs 36 [21,27,28] [31,31,31]) 15 true,og 30 (bk .leq 3 29 0) 15 true,o1 31 (po 15 30)] 0 (some [[],[0],[0,1],[0,1,2],(rl 0 4 []),(rl 0 4 []),(rl 0 4 [5]),(rl 0 4 [5,6]),(rl 0 8 []),(rl 0 9 []),(rl 0 4 []),(rl 0 4 []),(rl 0 4 [11]),(rl 0 4 [11,12]),(rl 0 4 (rl 10 4 [])),(rl 0 4 (rl 10 5 [])),(rl 0 4 []),(rl 0 17 []),(rl 0 18 []),(rl 0 19 [])])) []
 (.cond (tm 31)
 .skip
 (.exit 2 (0 :: 1 :: 2 :: 4 :: (rl 9 34 []))))) (rl 12 20 [])
 A45v1)
def A45v3 : AC := (.region 7 [mv 37 3,o1 38 (ln 31 2 5),o1 39 (.buildSlice 0 22 31 kP 1 [vci 0,vci 0] [(0,(tm 38))]),o1 40 (.append 1 22 31 kP 16 (tm 37) (tm 39)),o1 3 (sg 40)] 2 none)
def A45v4 : AC := (.region 8 [o1 41 (bk .add 3 8 1),mv 8 41] 0 none)
def A45v5 : AC := (.seq (.block 1
 (.seq (.region 4 [o1 10 (.indexAddr 22 31 2 (tm 6) (tm 8)),o1 11 (ln 31 2 10),o1 5 (.alloc 0 31 [vci 0,vci 0]),o0 (.store 31 2 (tm 5) (tm 11))] 1 none) []
  (.seq (.block 2
  (.loop [] (0 :: 1 :: 2 :: 4 :: (rl 9 34 []))
   A45v2)) (rl 12 25 [])
  A45v3))) (5 :: (rl 10 31 []))
 A45v4)
def A45v6 : AC := (.seq (.region 3 [o1 9 (bt .lss 3 8 7)] 0 none) []
 (.seq (.cond (tm 9)
 .skip
 (.exit 0 (0 :: 1 :: 2 :: (rl 4 39 [])))) []
 A45v5))
def A45v7 : AC := (.seq (.region 9 [mv 42 3,o1 2 (sg 42)] 0 none) []
 (.ret (0 :: 1 :: (rl 3 40 []))))
def A45 : AF := ⟨43,[.tmp 2],
 (.seq (.region 0 [o1 2 (.assign (.const (.slice none 0 0)))] 0 none) []
 (.seq (.region 1 [o1 3 (.assign (.const (.slice none 0 0)))] 0 none) []
 (.seq (.seq (.region 2 [mv 6 0,o1 7 (.len 22 false (tm 6)),o1 8 (.move (ic 0))] 0 none) []
 (.block 0
 (.loop [.slot 3 kP] (0 :: 1 :: 2 :: 4 :: 5 :: (rl 9 34 []))
  A45v6))) (rl 5 37 [])
 A45v7)))⟩
def N204v2 : St → Option St := nN 2 (0 :: 1 :: 2 :: 4 :: (rl 9 34 []))
def s204v0 : St := ⟨(us 3 (.x (.own 0 0 n0) :: .u :: .x (.ptr 1 0) :: .x (.c (ro kP n1 f0)) :: vxi i0 :: vxi i1 :: (us 34 []))),[.arr kP n2 f1,.box [(vci i2),(vci i3)]]⟩
def s204v1 : St := ⟨(us 3 (.x (.own 0 0 n0) :: .u :: .x (.ptr 1 0) :: .x (.c (ro kP n1 f0)) :: vxi i0 :: vxi i1 :: (us 34 []))),[.arr kP n2 f1,.box [(vci i2),(vci i3)]]⟩
def L204v2 {ρ : Type} (u : Nat) (x0 : Nat) (x1 : FF) (x2 x3 : Int) (x4 : Nat) (x5 : FF) (x6 x7 : Int) : Nat → Nat → (Nat → Option ρ) → Option ρ
 | 0,_,_ => none
 | m + 1,x8,k0 =>
  (bif ((decide ((Int.ofNat x8) > 1)) == true) then (bif (inb (w64 ((Int.ofNat x8) - 2)) x8) then (bif (inb (w64 ((Int.ofNat x8) - 1)) x8) then (ob (F79 u (CV.int (x5 (0 + (Int.toNat (w64 ((Int.ofNat x8) - 2)))) 0)) (CV.int (x5 (0 + (Int.toNat (w64 ((Int.ofNat x8) - 2)))) 1)) (CV.int (x5 (0 + (Int.toNat (w64 ((Int.ofNat x8) - 1)))) 0)) (CV.int (x5 (0 + (Int.toNat (w64 ((Int.ofNat x8) - 1)))) 1)) x6 x7) fun x9 => (bif (decide (x9 ≤ 0)) then (bif (inbe (w64 ((Int.ofNat x8) - 1)) x8) then (L204v2 u x0 x1 x2 x3 x4 x5 x6 x7 m ((Int.toNat (w64 ((Int.ofNat x8) - 1))) - 0) k0) else none) else (k0 x8))) else none) else none) else (k0 x8))
theorem r204v2 :
  loopH (eB A45v2 (C28 u) u) N204v2 (m + 1) (s204v0 n2 n0 n1 f0 f1 i0 i1 i2 i3) k =
  (bif ((decide ((Int.ofNat n2) > 1)) == true) then (bif (inb (w64 ((Int.ofNat n2) - 2)) n2) then (bif (inb (w64 ((Int.ofNat n2) - 1)) n2) then (ob (F79 u (CV.int (f1 (0 + (Int.toNat (w64 ((Int.ofNat n2) - 2)))) 0)) (CV.int (f1 (0 + (Int.toNat (w64 ((Int.ofNat n2) - 2)))) 1)) (CV.int (f1 (0 + (Int.toNat (w64 ((Int.ofNat n2) - 1)))) 0)) (CV.int (f1 (0 + (Int.toNat (w64 ((Int.ofNat n2) - 1)))) 1)) i2 i3) fun x0 => (bif (decide (x0 ≤ 0)) then (bif (inbe (w64 ((Int.ofNat n2) - 1)) n2) then (loopH (eB A45v2 (C28 u) u) N204v2 m (s204v0 ((Int.toNat (w64 ((Int.ofNat n2) - 1))) - 0) n0 n1 f0 f1 i0 i1 i2 i3) k) else none) else (k (.exit 2) (s204v1 n2 n0 n1 f0 f1 i0 i1 i2 i3)))) else none) else none) else (k (.exit 2) (s204v1 n2 n0 n1 f0 f1 i0 i1 i2 i3))) := by kernel_rfl
theorem q204v2 : ∀ (m : Nat) (x0 : Nat),
  loopH (eB A45v2 (C28 u) u) N204v2 m (s204v0 x0 n0 n1 f0 f1 i0 i1 i2 i3) k = L204v2 u n0 f0 i0 i1 n1 f1 i2 i3 m x0 (fun x1 => k (.exit 2) (s204v1 x1 n0 n1 f0 f1 i0 i1 i2 i3))
 | 0,_ => rfl
 | m + 1,x0 => by
  rw [r204v2]
  simp only [L204v2,q204v2 m]
def N204v3 : St → Option St := nN 1 (0 :: 1 :: 2 :: 4 :: 5 :: (rl 9 34 []))
def s204v2 : St := ⟨(us 3 (.x (.own 0 0 n0) :: .u :: .u :: .x (.c (ro kP n1 f0)) :: vxi i0 :: vxi i1 :: (us 34 []))),[.arr kP n0 f1]⟩
def s204v3 : St := ⟨(us 3 (.x (.own 0 0 n0) :: (us 39 []))),[.arr kP n0 f0]⟩
def L204v3 {ρ : Type} (u : Nat) (x0 : Nat) (x1 : FF) (x2 : Int) : Nat → Nat → Int → FF → (Nat → FF → Option ρ) → Option ρ
 | 0,_,_,_,_ => none
 | m + 1,x3,x4,x5,k0 =>
  (bif (decide (x4 < x2)) then (bif (inb x4 x0) then (L204v2 u x0 x1 x2 x4 x3 x5 (x1 x4.toNat 0).int (x1 x4.toNat 1).int u x3
  (fun x6 => (bif (Nat.ble (x6 + 1) 1073741824) then (L204v3 u x0 x1 x2 m (x6 + 1) (w64 (x4 + 1)) (joinF x6 x5 (rowsF 2 [(.i .i64 (x1 x4.toNat 0).int),(.i .i64 (x1 x4.toNat 1).int)])) k0) else none))) else none) else (k0 x3 x5))
def s204v4 : St := ⟨(us 3 (.x (.own 0 0 n0) :: .u :: .x (.ptr 1 0) :: .x (.c (ro kP n1 f0)) :: vxi i0 :: vxi i1 :: vxb true :: .x (.c (.rp kP (f0 i1.toNat))) :: .agg [(vci (f0 i1.toNat 0).int),(vci (f0 i1.toNat 1).int)] :: (us 31 []))),[.arr kP n0 f1,.box [(vci (f0 i1.toNat 0).int),(vci (f0 i1.toNat 1).int)]]⟩
theorem r204v3 :
  loopH (eB A45v6 (C28 u) u) N204v3 (m + 1) (s204v2 n1 n0 f0 f1 i0 i1) k =
  (bif (decide (i1 < i0)) then (bif (inb i1 n0) then (loopN (eB A45v2 (C28 u) u) N204v2 u (s204v4 n1 n0 f0 f1 i0 i1) (kBlk 2 (kSeq (C28 u) u (rl 12 25 []) A45v3 (kBlk 1 (kSeq (C28 u) u (5 :: (rl 10 31 [])) A45v4 (kLoop (eB A45v6 (C28 u) u) N204v3 m k)))))) else none) else (k (.exit 0) (s204v3 n1 f1))) := by kernel_rfl
theorem t204v1 :
  loopN (eB A45v2 (C28 u) u) N204v2 u (s204v4 n0 n1 f0 f1 i0 i1) k =
  L204v2 u n1 f0 i0 i1 n0 f1 (f0 i1.toNat 0).int (f0 i1.toNat 1).int u n0 (fun x0 => k (.exit 2) (s204v1 x0 n1 n0 f0 f1 i0 i1 (f0 i1.toNat 0).int (f0 i1.toNat 1).int)) :=
 Eq.trans (loopN_at (by kernel_rfl)) (q204v2 ..)
theorem g204v2 :
  (kBlk 2 (kSeq (C28 u) u (rl 12 25 []) A45v3 (kBlk 1 (kSeq (C28 u) u (5 :: (rl 10 31 [])) A45v4 (kLoop (eB A45v6 (C28 u) u) N204v3 m k))))) (.exit 2) (s204v1 n0 n1 n2 f0 f1 i0 i1 (f0 i1.toNat 0).int (f0 i1.toNat 1).int) =
  (bif (Nat.ble (n0 + 1) 1073741824) then (loopH (eB A45v6 (C28 u) u) N204v3 m (s204v2 (n0 + 1) n1 f0 (joinF n0 f1 (rowsF 2 [(vi (f0 i1.toNat 0).int),(vi (f0 i1.toNat 1).int)])) i0 (w64 (i1 + 1))) k) else none) := by kernel_rfl
theorem q204v3 : ∀ (m : Nat) (x0 : Nat) (x1 : Int) (x2 : FF),
  loopH (eB A45v6 (C28 u) u) N204v3 m (s204v2 x0 n0 f0 x2 i0 x1) k = L204v3 u n0 f0 i0 m x0 x1 x2 (fun x3 x4 => k (.exit 0) (s204v3 x3 x4))
 | 0,_,_,_ => rfl
 | m + 1,x0,x1,x2 => by
  rw [r204v3]
  simp only [L204v3,q204v3 m,t204v1,g204v2]
def D204 (x0 : Nat) (x1 : FF) (k : (Nat × FF) → Option ρ) : Option ρ :=
 (L204v3 u x0 x1 (Int.ofNat x0) u 0 0 (fun _ _ => .any)
  (fun x2 x3 => (k (x2,x3))))
def F204 (x0 : Nat) (x1 : FF) : Option (Nat × FF) := D204 u x0 x1 some
def s204v5 : St := ⟨[.x (.c (ro kP n0 f0)),uu,.x (vcn),.x (.own 0 0 0),uu,uu,.x (.c (ro kP n0 f0)),vxi (Int.ofNat n0),vxi 0,uu,uu,uu,uu,uu,uu,uu,uu,uu,uu,uu,uu,uu,uu,uu,uu,uu,uu,uu,uu,uu,uu,uu,uu,uu,uu,uu,uu,uu,uu,uu,uu,uu,uu],[.arr kP 0 nilF]⟩
theorem walk204 (x0 : Nat) (x1 : FF) :
  evalC (C28 u) u A45.body ⟨[.x (.c (ro kP x0 x1)),uu,uu,uu,uu,uu,uu,uu,uu,uu,uu,uu,uu,uu,uu,uu,uu,uu,uu,uu,uu,uu,uu,uu,uu,uu,uu,uu,uu,uu,uu,uu,uu,uu,uu,uu,uu,uu,uu,uu,uu,uu,uu],[]⟩ (finO 2 kP) =
  (loopN (eB A45v6 (C28 u) u) N204v3 u (s204v5 x0 x1) (kBlk 0 (kSeq (C28 u) u (rl 5 37 []) A45v7 (finO 2 kP)))) := by kernel_rfl
theorem t204v3 :
  loopN (eB A45v6 (C28 u) u) N204v3 u (s204v5 n0 f0) k =
  L204v3 u n0 f0 (Int.ofNat n0) u 0 0 nilF (fun x0 x1 => k (.exit 0) (s204v3 x0 x1)) :=
 Eq.trans (loopN_at (by kernel_rfl)) (q204v3 ..)
theorem g204v4 :
  (kBlk 0 (kSeq (C28 u) u (rl 5 37 []) A45v7 (finO 2 kP))) (.exit 0) (s204v3 n0 f0) =
  (some (n0,f0)) := by kernel_rfl
theorem e204 : evalC (C28 u) u A45.body ⟨[.x (.c (ro kP n0 f0)),uu,uu,uu,uu,uu,uu,uu,uu,uu,uu,uu,uu,uu,uu,uu,uu,uu,uu,uu,uu,uu,uu,uu,uu,uu,uu,uu,uu,uu,uu,uu,uu,uu,uu,uu,uu,uu,uu,uu,uu,uu,uu],[]⟩ (finO 2 kP) = F204 u n0 f0 := by
 rw [walk204]
 simp only [F204,D204,t204v3,g204v4]
def C29 : Oracle := (C28 u).addF 45 (fun r args => match args with | [.v (.ro _ r1 n g)] => bif r.beq kP && r1.beq kP then F204 u n g else none | _ => none)
def A24v1 : AC := (.seq (.region 8 [mv 18 3,o1 19 (.callo 0 45 [(tm 18)] [22] kP),o1 4 (sg 19)] 1 none) []
 (.seq (.region 9 [mv 20 3,o1 21 (.turn 46 (tm 20) [] [22])] 0 none) []
 (.seq (.region 10 [mv 22 3,o1 23 (.callo 0 45 [(tm 22)] [22] kP),o1 5 (sg 23)] 1 none) []
 (.seq (.region 11 [mv 24 4,mv 25 4,o1 26 (.len 22 false (tm 25)),o1 27 (bk .sub 3 26 1),o1 28 (.slice 22 31 2 (tm 24) none (some (tm 27)) none),mv 29 5,mv 30 5,o1 31 (.len 22 false (tm 30)),o1 32 (bk .sub 3 31 1),o1 33 (.slice 22 31 2 (tm 29) none (some (tm 32)) none),o1 34 (.append 0 22 31 kP 16 (tm 28) (tm 33)),o1 2 (sg 34)] 1 (some [[],[],[1],[1,2],(rl 0 4 []),[],[],[6],[6,7],(rl 5 4 []),(rl 0 10 []),(rl 0 11 [])])) []
 (.ret (0 :: 1 :: (rl 3 32 [])))))))
def A24v2 : AC := (.seq (.region 3 [mv 8 0,o1 9 (.callo 0 40 [(tm 8)] [22] kP),o1 3 (sg 9)] 1 none) []
 (.seq (.region 4 [mv 10 3,o1 11 (.turn 41 (tm 10) [(.func 42)] [22,50])] 0 none) []
 (.seq (.region 5 [mv 12 3,o1 13 (.cut 0 44 (tm 12) [] [22] kP),o1 3 (sg 13)] 1 none) []
 (.seq (.seq (.region 6 [mv 14 3,o1 15 (.len 22 false (tm 14)),o1 16 (bk .lss 3 15 3)] 0 none) []
 (.cond (tm 16)
 (.seq (.region 7 [mv 17 3,o1 2 (sg 17)] 0 none) []
  (.ret (0 :: 1 :: (rl 3 32 []))))
 .skip)) (2 :: (rl 14 4 []))
 A24v1))))
def A24 : AF := ⟨35,[.tmp 2],
 (.seq (.region 0 [o1 2 (.assign (.const (.slice none 0 0)))] 0 none) []
 (.seq (.seq (.region 1 [mv 6 0,o1 7 (.call 29 [(tm 6),(.func 30)] [22,42] .snap)] 0 none) []
 (.cond (tm 7)
 (.seq (.region 2 [o1 2 (.assign (.const (.slice none 0 0)))] 0 none) []
  (.ret (0 :: 1 :: (rl 3 32 []))))
 .skip)) [2,6,7]
 A24v2))⟩
def FT205 (x0 : Nat) (x1 : FF) : Option (Bool × Nat × FF) :=
 (ob (F50 u x0 x1) fun x2 => (bif x2 then (some (true,0,(fun _ _ => .any))) else (bif (Nat.ble x0 1073741824) then (ob (F203 u x0 x1) fun x3 => (bif (Nat.beq x0 x0) then (bif (Nat.beq x0 0) then (bif (Nat.beq x0 x0 && Nat.ble (cutN x0 x1) x0) then (bif (decide ((Int.ofNat (cutN x0 x1)) < 3)) then (some (false,(cutN x0 x1),(cutF x0 x1))) else (ob (F204 u (cutN x0 x1) (cutF x0 x1)) fun x4 => (bif (Nat.ble x4.1 1073741824) then (bif (Nat.beq (cutN x0 x1) (cutN x0 x1)) then (bif (Nat.beq (cutN x0 x1) 0) then (ob (F204 u (cutN x0 x1) (cutF x0 x1)) fun x5 => (bif (Nat.ble x5.1 1073741824) then (bif (inbe (w64 ((Int.ofNat x4.1) - 1)) x4.1) then (bif (inbe (w64 ((Int.ofNat x5.1) - 1)) x5.1) then (bif (Nat.ble (((Int.toNat (w64 ((Int.ofNat x4.1) - 1))) - 0) + ((Int.toNat (w64 ((Int.ofNat x5.1) - 1))) - 0)) 1073741824) then (some (false,(((Int.toNat (w64 ((Int.ofNat x4.1) - 1))) - 0) + ((Int.toNat (w64 ((Int.ofNat x5.1) - 1))) - 0)),(joinF ((Int.toNat (w64 ((Int.ofNat x4.1) - 1))) - 0) x4.2 x5.2))) else none) else none) else none) else none)) else (ob (F204 u (cutN x0 x1) (revF (cutN x0 x1) (cutF x0 x1))) fun x6 => (bif (Nat.ble x6.1 1073741824) then (bif (inbe (w64 ((Int.ofNat x4.1) - 1)) x4.1) then (bif (inbe (w64 ((Int.ofNat x6.1) - 1)) x6.1) then (bif (Nat.ble (((Int.toNat (w64 ((Int.ofNat x4.1) - 1))) - 0) + ((Int.toNat (w64 ((Int.ofNat x6.1) - 1))) - 0)) 1073741824) then (some (false,(((Int.toNat (w64 ((Int.ofNat x4.1) - 1))) - 0) + ((Int.toNat (w64 ((Int.ofNat x6.1) - 1))) - 0)),(joinF ((Int.toNat (w64 ((Int.ofNat x4.1) - 1))) - 0) x4.2 x6.2))) else none) else none) else none) else none))) else none) else none))) else none) else (bif (Nat.beq x0 x0 && Nat.ble (cutN x0 x3) x0) then (bif (decide ((Int.ofNat (cutN x0 x3)) < 3)) then (some (false,(cutN x0 x3),(cutF x0 x3))) else (ob (F204 u (cutN x0 x3) (cutF x0 x3)) fun x7 => (bif (Nat.ble x7.1 1073741824) then (bif (Nat.beq (cutN x0 x3) (cutN x0 x3)) then (bif (Nat.beq (cutN x0 x3) 0) then (ob (F204 u (cutN x0 x3) (cutF x0 x3)) fun x8 => (bif (Nat.ble x8.1 1073741824) then (bif (inbe (w64 ((Int.ofNat x7.1) - 1)) x7.1) then (bif (inbe (w64 ((Int.ofNat x8.1) - 1)) x8.1) then (bif (Nat.ble (((Int.toNat (w64 ((Int.ofNat x7.1) - 1))) - 0) + ((Int.toNat (w64 ((Int.ofNat x8.1) - 1))) - 0)) 1073741824) then (some (false,(((Int.toNat (w64 ((Int.ofNat x7.1) - 1))) - 0) + ((Int.toNat (w64 ((Int.ofNat x8.1) - 1))) - 0)),(joinF ((Int.toNat (w64 ((Int.ofNat x7.1) - 1))) - 0) x7.2 x8.2))) else none) else none) else none) else none)) else (ob (F204 u (cutN x0 x3) (revF (cutN x0 x3) (cutF x0 x3))) fun x9 => (bif (Nat.ble x9.1 1073741824) then (bif (inbe (w64 ((Int.ofNat x7.1) - 1)) x7.1) then (bif (inbe (w64 ((Int.ofNat x9.1) - 1)) x9.1) then (bif (Nat.ble (((Int.toNat (w64 ((Int.ofNat x7.1) - 1))) - 0) + ((Int.toNat (w64 ((Int.ofNat x9.1) - 1))) - 0)) 1073741824) then (some (false,(((Int.toNat (w64 ((Int.ofNat x7.1) - 1))) - 0) + ((Int.toNat (w64 ((Int.ofNat x9.1) - 1))) - 0)),(joinF ((Int.toNat (w64 ((Int.ofNat x7.1) - 1))) - 0) x7.2 x9.2))) else none) else none) else none) else none))) else none) else none))) else none)) else none)) else none)))
theorem e205 : evalF (C29 u) u A24 [.v (ro kP n0 f0)] = ob (FT205 u n0 f0) fun t => some (bif t.1 then [.v (.ro true .nil 0 nilF)] else [.v (ro kP t.2.1 t.2.2)]) := Eq.trans (b := (ob (F50 u n0 f0) fun x0 => (bif x0 then (some [.v (.ro true .nil 0 nilF)]) else (bif (Nat.ble n0 1073741824) then (ob (F203 u n0 f0) fun x1 => (bif (Nat.beq n0 n0) then (bif (Nat.beq n0 0) then (bif (Nat.beq n0 n0 && Nat.ble (cutN n0 f0) n0) then (bif (decide ((Int.ofNat (cutN n0 f0)) < 3)) then (some [.v (ro kP (cutN n0 f0) (cutF n0 f0))]) else (ob (F204 u (cutN n0 f0) (cutF n0 f0)) fun x2 => (bif (Nat.ble x2.1 1073741824) then (bif (Nat.beq (cutN n0 f0) (cutN n0 f0)) then (bif (Nat.beq (cutN n0 f0) 0) then (ob (F204 u (cutN n0 f0) (cutF n0 f0)) fun x3 => (bif (Nat.ble x3.1 1073741824) then (bif (inbe (w64 ((Int.ofNat x2.1) - 1)) x2.1) then (bif (inbe (w64 ((Int.ofNat x3.1) - 1)) x3.1) then (bif (Nat.ble (((Int.toNat (w64 ((Int.ofNat x2.1) - 1))) - 0) + ((Int.toNat (w64 ((Int.ofNat x3.1) - 1))) - 0)) 1073741824) then (some [.v (ro kP (((Int.toNat (w64 ((Int.ofNat x2.1) - 1))) - 0) + ((Int.toNat (w64 ((Int.ofNat x3.1) - 1))) - 0)) (joinF ((Int.toNat (w64 ((Int.ofNat x2.1) - 1))) - 0) x2.2 x3.2))]) else none) else none) else none) else none)) else (ob (F204 u (cutN n0 f0) (revF (cutN n0 f0) (cutF n0 f0))) fun x4 => (bif (Nat.ble x4.1 1073741824) then (bif (inbe (w64 ((Int.ofNat x2.1) - 1)) x2.1) then (bif (inbe (w64 ((Int.ofNat x4.1) - 1)) x4.1) then (bif (Nat.ble (((Int.toNat (w64 ((Int.ofNat x2.1) - 1))) - 0) + ((Int.toNat (w64 ((Int.ofNat x4.1) - 1))) - 0)) 1073741824) then (some [.v (ro kP (((Int.toNat (w64 ((Int.ofNat x2.1) - 1))) - 0) + ((Int.toNat (w64 ((Int.ofNat x4.1) - 1))) - 0)) (joinF ((Int.toNat (w64 ((Int.ofNat x2.1) - 1))) - 0) x2.2 x4.2))]) else none) else none) else none) else none))) else none) else none))) else none) else (bif (Nat.beq n0 n0 && Nat.ble (cutN n0 x1) n0) then (bif (decide ((Int.ofNat (cutN n0 x1)) < 3)) then (some [.v (ro kP (cutN n0 x1) (cutF n0 x1))]) else (ob (F204 u (cutN n0 x1) (cutF n0 x1)) fun x5 => (bif (Nat.ble x5.1 1073741824) then (bif (Nat.beq (cutN n0 x1) (cutN n0 x1)) then (bif (Nat.beq (cutN n0 x1) 0) then (ob (F204 u (cutN n0 x1) (cutF n0 x1)) fun x6 => (bif (Nat.ble x6.1 1073741824) then (bif (inbe (w64 ((Int.ofNat x5.1) - 1)) x5.1) then (bif (inbe (w64 ((Int.ofNat x6.1) - 1)) x6.1) then (bif (Nat.ble (((Int.toNat (w64 ((Int.ofNat x5.1) - 1))) - 0) + ((Int.toNat (w64 ((Int.ofNat x6.1) - 1))) - 0)) 1073741824) then (some [.v (ro kP (((Int.toNat (w64 ((Int.ofNat x5.1) - 1))) - 0) + ((Int.toNat (w64 ((Int.ofNat x6.1) - 1))) - 0)) (joinF ((Int.toNat (w64 ((Int.ofNat x5.1) - 1))) - 0) x5.2 x6.2))]) else none) else none) else none) else none)) else (ob (F204 u (cutN n0 x1) (revF (cutN n0 x1) (cutF n0 x1))) fun x7 => (bif (Nat.ble x7.1 1073741824) then (bif (inbe (w64 ((Int.ofNat x5.1) - 1)) x5.1) then (bif (inbe (w64 ((Int.ofNat x7.1) - 1)) x7.1) then (bif (Nat.ble (((Int.toNat (w64 ((Int.ofNat x5.1) - 1))) - 0) + ((Int.toNat (w64 ((Int.ofNat x7.1) - 1))) - 0)) 1073741824) then (some [.v (ro kP (((Int.toNat (w64 ((Int.ofNat x5.1) - 1))) - 0) + ((Int.toNat (w64 ((Int.ofNat x7.1) - 1))) - 0)) (joinF ((Int.toNat (w64 ((Int.ofNat x5.1) - 1))) - 0) x5.2 x7.2))]) else none) else none) else none) else none))) else none) else none))) else none)) else none)) else none)))) (by kernel_rfl) (by
 simp only [FT205,ob_bif,ob_ob,ob_none,ob_some,cond_true,cond_false])
def F205 (x0 : Nat) (x1 : FF) : Option (Nat × FF) := ob (FT205 u x0 x1) fun t => some (bif t.1 then (0,(fun _ _ => .any)) else (t.2.1,t.2.2))
def O205 : Ora := mkO (q1 (av (cL kP))) (fun x => F205 u x.1 x.2) fun t => [.v (ro kP t.1 t.2)]
theorem d205 : DO (O205 u) (C29 u) 24 A24 := dW u (fun x => by exact e205 u x.1 x.2) (fun _ => rfl) fun t => by
 obtain ⟨b,t⟩ := t
 cases b with
 | true => exact (.cons (WkA.v (Wk.ro (by rfl))) .nil)
 | false =>
  exact (.cons (WkA.v (Wk.refl _)) .nil)
def C30 : Oracle := (C29 u).add 24 (fun _ => true) (O205 u)
def A23v1 : AC := (.region 5 [mv 15 5,o1 16 (bk .add 3 15 1),o1 5 (sg 16)] 0 none)
def A23v2 : AC := (.seq (.block 1
 (.seq (.region 6 [mv 17 0,mv 18 5,o1 19 (.indexAddr 22 31 2 (tm 17) (tm 18)),o1 20 (ln 31 2 19),mv 21 1,mv 22 5,o1 23 (.indexAddr 22 31 2 (tm 21) (tm 22)),o1 24 (ln 31 2 23),o1 25 (.eqA true kP 31 (tm 20) (tm 24) 31)] 0 (some [[],[],[0,1],[0,1,2],[],[],[4,5],[4,5,6],(rl 0 8 [])])) []
  (.cond (tm 25)
  (.seq (.region 7 [o1 4 (sb false)] 0 none) []
   (.ret (rl 0 4 (rl 5 21 []))))
  .skip))) (4 :: (rl 17 9 []))
 A23v1)
def A23v3 : AC := (.seq (.seq (.region 4 [mv 11 5,mv 12 0,o1 13 (.len 22 false (tm 12)),o1 14 (bt .lss 3 11 13)] 0 none) []
 (.cond (tm 14)
 .skip
 (.exit 0 (rl 0 26 [])))) (rl 11 4 [])
 A23v2)
def A23v4 : AC := (.seq (.region 8 [o1 4 (sb true)] 0 none) []
 (.ret (rl 0 4 (rl 5 21 []))))
def A23v5 : AC := (.seq (.seq (.region 3 [o1 5 (sk 0)] 0 none) []
 (.block 0
 (.loop [] (2 :: 3 :: 4 :: (rl 6 20 []))
  A23v3))) (4 :: 5 :: (rl 11 15 []))
 A23v4)
def A23 : AF := ⟨26,[.tmp 4],
 (.seq (.region 0 [o1 4 (sb false)] 0 none) []
 (.seq (.seq (.region 1 [mv 6 0,o1 7 (.len 22 false (tm 6)),mv 8 1,o1 9 (.len 22 false (tm 8)),o1 10 (bt .neq 3 7 9)] 0 none) []
 (.cond (tm 10)
 (.seq (.region 2 [o1 4 (sb false)] 0 none) []
  (.ret (rl 0 4 (rl 5 21 []))))
 .skip)) (4 :: (rl 6 5 []))
 A23v5))⟩
def N206v1 : St → Option St := nN 0 (2 :: 3 :: 4 :: (rl 6 20 []))
def s206v0 : St := ⟨(.x (.c (ro kP n0 f0)) :: .x (.c (ro kP n1 f1)) :: (us 3 (vxi i0 :: (us 20 [])))),[]⟩
def s206v1 : St := ⟨(us 4 (vxb false :: (us 21 []))),[]⟩
def s206v2 : St := ⟨(us 26 []),[]⟩
def L206v1 {ρ : Type} (u : Nat) (x0 : Nat) (x1 : FF) (x2 : Nat) (x3 : FF) : Nat → Int → (Option ρ) → (Option ρ) → Option ρ
 | 0,_,_,_ => none
 | m + 1,x4,k0,k1 =>
  (bif (decide (x4 < (Int.ofNat x0))) then (bif (inb x4 x0) then (bif (inb x4 x2) then (bif (!(((x1 x4.toNat 0).int == (x3 x4.toNat 0).int) && (((x1 x4.toNat 1).int == (x3 x4.toNat 1).int) && true))) then k0 else (L206v1 u x0 x1 x2 x3 m (w64 (x4 + 1)) k0 k1)) else none) else none) else k1)
theorem nl206v1 : ∀ (m : Nat) (x0 : Int) (k0 : Option ρ) (k1 : Option ρ),ob (L206v1 u n0 f0 n1 f1 m x0 k0 k1) ng = L206v1 u n0 f0 n1 f1 m x0 (ob k0 ng) (ob k1 ng)
 | 0,_,_,_ => rfl
 | m + 1,x0,k0,k1 => by
  simp only [L206v1,ob_bif,ob_ob,ob_none,nl206v1 m]
theorem r206v1 :
  loopH (eB A23v3 (C30 u) u) N206v1 (m + 1) (s206v0 n0 n1 f0 f1 i0) k =
  (bif (decide (i0 < (Int.ofNat n0))) then (bif (inb i0 n0) then (bif (inb i0 n1) then (bif (!(((f0 i0.toNat 0).int == (f1 i0.toNat 0).int) && (((f0 i0.toNat 1).int == (f1 i0.toNat 1).int) && true))) then (k .ret s206v1) else (loopH (eB A23v3 (C30 u) u) N206v1 m (s206v0 n0 n1 f0 f1 (w64 (i0 + 1))) k)) else none) else none) else (k (.exit 0) s206v2)) := by kernel_rfl
theorem q206v1 : ∀ (m : Nat) (x0 : Int),
  loopH (eB A23v3 (C30 u) u) N206v1 m (s206v0 n0 n1 f0 f1 x0) k = L206v1 u n0 f0 n1 f1 m x0 (k .ret s206v1) (k (.exit 0) s206v2)
 | 0,_ => rfl
 | m + 1,x0 => by
  rw [r206v1]
  simp only [L206v1,q206v1 m]
def F206 (x0 : Nat) (x1 : FF) (x2 : Nat) (x3 : FF) : Option (Bool) :=
 (bif ((Int.ofNat x0) != (Int.ofNat x2)) then (some false) else (L206v1 u x0 x1 x2 x3 u 0
  (some false)
  (some true)))
def s206v3 : St := ⟨(.x (.c (ro kP n0 f0)) :: .x (.c (ro kP n1 f1)) :: uu :: uu :: .u :: vxi 0 :: (us 5 [uu,uu,uu,uu,uu,uu,uu,uu,uu,uu,uu,uu,uu,uu,uu])),[]⟩
theorem t206v1 :
  loopN (eB A23v3 (C30 u) u) N206v1 u (s206v3 n0 n1 f0 f1) k =
  L206v1 u n0 f0 n1 f1 u 0 (k .ret s206v1) (k (.exit 0) s206v2) :=
 Eq.trans (loopN_at (by kernel_rfl)) (q206v1 ..)
theorem g206v2 :
  (kBlk 0 (kSeq (C30 u) u (4 :: 5 :: (rl 11 15 [])) A23v4 (finish A23))) .ret s206v1 =
  (some [.v (.b false)]) := by kernel_rfl
theorem g206v3 :
  (kBlk 0 (kSeq (C30 u) u (4 :: 5 :: (rl 11 15 [])) A23v4 (finish A23))) (.exit 0) s206v2 =
  (some [.v (.b true)]) := by kernel_rfl
theorem e206 : evalF (C30 u) u A23 [.v (ro kP n0 f0),.v (ro kP n1 f1)] = ob (F206 u n0 f0 n1 f1) fun t => some [.v (.b t)] := Eq.trans (b := (bif ((Int.ofNat n0) != (Int.ofNat n1)) then (some [.v (.b false)]) else (loopN (eB A23v3 (C30 u) u) N206v1 u (s206v3 n0 n1 f0 f1) (kBlk 0 (kSeq (C30 u) u (4 :: 5 :: (rl 11 15 [])) A23v4 (finish A23)))))) (by kernel_rfl) (by
 simp only [F206,ob_bif,ob_ob,ob_none,ob_some,nl206v1,t206v1,g206v2,g206v3])
def O206 : Ora := mkO (qc (av (cL kP)) (q1 (av (cL kP)))) (fun x => F206 u x.1.1 x.1.2 x.2.1 x.2.2) fun t => [.v (.b t)]
theorem d206 : DO (O206 u) (C30 u) 23 A23 := dO u (fun x => by exact e206 u x.1.1 x.2.1 x.1.2 x.2.2)
def C31 : Oracle := (C30 u).add 23 (fun _ => true) (O206 u)
def A49v1 : AC := (.seq (.block 1
 (.seq (.region 4 [o1 14 (.indexAddr 53 3 1 (tm 10) (tm 12)),o1 15 (lo 3 14),o1 7 (sg 15)] 0 none) []
  (.region 5 [mv 16 4,mv 17 7,o1 18 (.mm false [(tm 16),(tm 17)] [3,3]),mv 19 5,mv 20 7,o1 21 (.mm true [(tm 19),(tm 20)] [3,3]),o1 4 (sg 18),o1 5 (sg 21)] 0 none))) []
 (.region 6 [o1 22 (bk .add 3 12 1),mv 12 22] 0 none))
def A49v2 : AC := (.seq (.region 3 [o1 13 (bt .lss 3 12 11)] 0 none) []
 (.seq (.cond (tm 13)
 .skip
 (.exit 0 (rl 0 4 (rl 6 19 [])))) []
 A49v1))
def A49v3 : AC := (.seq (.region 7 [mv 23 4,mv 24 5,o1 4 (sg 23),o1 5 (sg 24)] 0 none) []
 (.ret (rl 0 4 (rl 6 19 []))))
def A49 : AF := ⟨25,[.tmp 4,.tmp 5],
 (.seq (.region 0 [o1 4 (sk 0),o1 5 (sk 0)] 0 none) []
 (.seq (.region 1 [mv 8 0,mv 9 0,o1 4 (sg 8),o1 5 (sg 9)] 0 none) []
 (.seq (.seq (.region 2 [mv 10 1,o1 11 (.len 53 false (tm 10)),o1 12 (.move (ic 0))] 0 none) []
 (.block 0
 (.loop [] (rl 0 4 (rl 6 4 (rl 13 12 [])))
  A49v2))) (7 :: (rl 10 13 []))
 A49v3)))⟩
def N72v1 : St → Option St := nN 0 (rl 0 4 (rl 6 4 (rl 13 12 [])))
def s72v0 : St := ⟨(us 4 (vxi i0 :: vxi i1 :: (us 4 (.x (.c (ro (.pr (.int .i64) .nil) n0 f0)) :: vxi i2 :: vxi i3 :: (us 12 []))))),[]⟩
def s72v1 : St := ⟨(us 4 (vxi i0 :: vxi i1 :: (us 19 []))),[]⟩
def L72v1 {ρ : Type} (u : Nat) (x0 : Nat) (x1 : FF) (x2 : Int) : Nat → Int → Int → Int → (Int → Int → Option ρ) → Option ρ
 | 0,_,_,_,_ => none
 | m + 1,x3,x4,x5,k0 =>
  (bif (decide (x5 < x2)) then (bif (inb x5 x0) then (L72v1 u x0 x1 x2 m (if (x1 x5.toNat 0).int < x3 then (x1 x5.toNat 0).int else x3) (if (x1 x5.toNat 0).int > x4 then (x1 x5.toNat 0).int else x4) (w64 (x5 + 1)) k0) else none) else (k0 x3 x4))
theorem nl72v1 : ∀ (m : Nat) (x0 x1 x2 : Int) (k0 : Int → Int → Option ρ),ob (L72v1 u n0 f0 i0 m x0 x1 x2 k0) ng = L72v1 u n0 f0 i0 m x0 x1 x2 (fun x3 x4 => ob (k0 x3 x4) ng)
 | 0,_,_,_,_ => rfl
 | m + 1,x0,x1,x2,k0 => by
  simp only [L72v1,ob_bif,ob_ob,ob_none,nl72v1 m]
theorem r72v1 :
  loopH (eB A49v2 (C31 u) u) N72v1 (m + 1) (s72v0 n0 f0 i1 i2 i0 i3) k =
  (bif (decide (i3 < i0)) then (bif (inb i3 n0) then (loopH (eB A49v2 (C31 u) u) N72v1 m (s72v0 n0 f0 (if (f0 i3.toNat 0).int < i1 then (f0 i3.toNat 0).int else i1) (if (f0 i3.toNat 0).int > i2 then (f0 i3.toNat 0).int else i2) i0 (w64 (i3 + 1))) k) else none) else (k (.exit 0) (s72v1 i1 i2))) := by kernel_rfl
theorem q72v1 : ∀ (m : Nat) (x0 x1 x2 : Int),
  loopH (eB A49v2 (C31 u) u) N72v1 m (s72v0 n0 f0 x0 x1 i0 x2) k = L72v1 u n0 f0 i0 m x0 x1 x2 (fun x3 x4 => k (.exit 0) (s72v1 x3 x4))
 | 0,_,_,_ => rfl
 | m + 1,x0,x1,x2 => by
  rw [r72v1]
  simp only [L72v1,q72v1 m]
def F72 (x0 : Int) (x1 : Nat) (x2 : FF) : Option (Int × Int) :=
 (L72v1 u x1 x2 (Int.ofNat x1) u x0 x0 0
  (fun x3 x4 => (some (x3,x4))))
def s72v2 : St := ⟨[vxi i0,.x (.c (ro (.pr (.int .i64) .nil) n0 f0)),uu,uu,vxi i0,vxi i0,uu,uu,vxi i0,vxi i0,.x (.c (ro (.pr (.int .i64) .nil) n0 f0)),vxi (Int.ofNat n0),vxi 0,uu,uu,uu,uu,uu,uu,uu,uu,uu,uu,uu,uu],[]⟩
theorem t72v1 :
  loopN (eB A49v2 (C31 u) u) N72v1 u (s72v2 n0 f0 i0) k =
  L72v1 u n0 f0 (Int.ofNat n0) u i0 i0 0 (fun x0 x1 => k (.exit 0) (s72v1 x0 x1)) :=
 Eq.trans (loopN_at (by kernel_rfl)) (q72v1 ..)
theorem g72v2 :
  (kBlk 0 (kSeq (C31 u) u (7 :: (rl 10 13 [])) A49v3 (finish A49))) (.exit 0) (s72v1 i0 i1) =
  (some [.v (vi i0),.v (vi i1)]) := by kernel_rfl
theorem e72 : evalF (C31 u) u A49 [.v (vi i0),.v (ro (.pr (.int .i64) .nil) n0 f0)] = ob (F72 u i0 n0 f0) fun t => some [.v (vi t.1),.v (vi t.2)] := Eq.trans (b := (loopN (eB A49v2 (C31 u) u) N72v1 u (s72v2 n0 f0 i0) (kBlk 0 (kSeq (C31 u) u (7 :: (rl 10 13 [])) A49v3 (finish A49))))) (by kernel_rfl) (by
 simp only [F72,ob_bif,ob_ob,ob_none,ob_some,nl72v1,t72v1,g72v2])
def O72 : Ora := mkO (qc (av ci) (q1 (av (cL (.pr (.int .i64) .nil))))) (fun x => F72 u x.1 x.2.1 x.2.2) fun t => [.v (vi t.1),.v (vi t.2)]
theorem d72 : DO (O72 u) (C31 u) 49 A49 := dO u (fun x => by exact e72 u x.2.1 x.2.2 x.1)
def C32 : Oracle := (C31 u).add 49 (fun _ => true) (O72 u)
def A26v1 : AC := (.seq (.block 1
 (.seq (.region 6 [o1 15 (.indexAddr 22 31 2 (tm 11) (tm 13)),o1 16 (ln 31 2 15),o1 6 (.alloc 0 31 [vci 0,vci 0]),o0 (.store 31 2 (tm 6) (tm 16))] 1 none) []
  (.region 7 [mv 17 3,o1 18 (fa 31 6 0 0),o1 19 (lo 3 18),o1 20 (.buildSlice 0 53 3 (.pr (.int .i64) .nil) 1 [vci 0] [(0,(tm 19))]),o1 21 (.append 1 53 3 (.pr (.int .i64) .nil) 8 (tm 17) (tm 20)),mv 22 4,o1 23 (fa 31 6 1 1),o1 24 (lo 3 23),o1 25 (.buildSlice 2 53 3 (.pr (.int .i64) .nil) 1 [vci 0] [(0,(tm 24))]),o1 26 (.append 3 53 3 (.pr (.int .i64) .nil) 8 (tm 22) (tm 25)),o1 3 (sg 21),o1 4 (sg 26)] 4 (some [[],[],[1],[1,2],(rl 0 4 []),[],[],[6],[6,7],(rl 0 9 []),(rl 0 10 []),(rl 0 11 [])])))) []
 (.region 8 [o1 27 (bk .add 3 13 1),mv 13 27] 0 none))
def A26v2 : AC := (.seq (.region 5 [o1 14 (bt .lss 3 13 12)] 0 none) []
 (.seq (.cond (tm 14)
 .skip
 (.exit 0 (0 :: 1 :: (rl 5 48 [])))) []
 A26v1))
def A26v3 : AC := (.seq (.region 9 [mv 29 3,o1 30 (.indexAddr 53 3 1 (tm 29) (ic 0)),o1 31 (lo 3 30),mv 32 3,o1 33 (cs 49 [31,32] [3,53]),mv 28 33,o1 34 (.extract (tm 28) 0),o1 35 (.extract (tm 28) 1),o1 36 (fa 37 2 0 0),o1 37 (fa 31 36 0 0),o0 (.store 3 1 (tm 37) (tm 34)),o1 38 (fa 37 2 1 2),o1 39 (fa 31 38 0 0),o0 (.store 3 1 (tm 39) (tm 35))] 0 none) []
 (.seq (.region 10 [mv 41 4,o1 42 (.indexAddr 53 3 1 (tm 41) (ic 0)),o1 43 (lo 3 42),mv 44 4,o1 45 (cs 49 [43,44] [3,53]),mv 40 45,o1 46 (.extract (tm 40) 0),o1 47 (.extract (tm 40) 1),o1 48 (fa 37 2 0 0),o1 49 (fa 31 48 1 1),o0 (.store 3 1 (tm 49) (tm 46)),o1 50 (fa 37 2 1 2),o1 51 (fa 31 50 1 1),o0 (.store 3 1 (tm 51) (tm 47))] 0 none) []
 (.seq (.region 11 [o1 52 (ln 37 4 2),o0 (.store 37 4 (tm 2) (tm 52))] 0 none) []
 (.ret (0 :: 1 :: (rl 3 50 []))))))
def A26v4 : AC := (.seq (.region 3 [o1 3 (.assign (.const (.slice none 0 0))),o1 4 (.assign (.const (.slice none 0 0)))] 0 none) []
 (.seq (.seq (.region 4 [mv 11 0,o1 12 (.len 22 false (tm 11)),o1 13 (.move (ic 0))] 0 none) []
 (.block 0
 (.loop [.slot 3 (.pr (.int .i64) .nil),.slot 4 (.pr (.int .i64) .nil)] (0 :: 1 :: (rl 5 6 (rl 14 39 [])))
  A26v2))) (6 :: (rl 11 17 []))
 A26v3))
def A26 : AF := ⟨53,[.cell 2 37 (some 4)],
 (.seq (.region 0 [o1 2 (.alloc 0 37 [vci 0,vci 0,vci 0,vci 0])] 1 none) []
 (.seq (.seq (.region 1 [mv 7 0,o1 8 (.len 22 false (tm 7)),o1 9 (bk .eql 3 8 0)] 0 none) []
 (.cond (tm 9)
 (.seq (.region 2 [o1 10 (ln 37 4 2),o0 (.store 37 4 (tm 2) (tm 10))] 0 none) []
  (.ret (0 :: 1 :: (rl 3 50 []))))
 .skip)) (rl 7 4 [])
 A26v4))⟩
def N46v1 : St → Option St := nN 3 (0 :: 1 :: (rl 5 6 (rl 14 39 [])))
def s46v0 : St := ⟨(.u :: .u :: .x (.ptr 0 0) :: .x (.own 1 0 n0) :: .x (.own 2 0 n0) :: (us 6 (.x (.c (ro kP n1 f0)) :: vxi i0 :: vxi i1 :: (us 39 [])))),[.box [(vci 0),(vci 0),(vci 0),(vci 0)],.arr (.pr (.int .i64) .nil) n0 f1,.arr (.pr (.int .i64) .nil) n0 f2]⟩
def s46v1 : St := ⟨(.u :: .u :: .x (.ptr 0 0) :: .x (.own 1 0 n0) :: .x (.own 2 0 n0) :: (us 48 [])),[.box [(vci 0),(vci 0),(vci 0),(vci 0)],.arr (.pr (.int .i64) .nil) n0 f0,.arr (.pr (.int .i64) .nil) n0 f1]⟩
def L46v1 {ρ : Type} (u : Nat) (x0 : Nat) (x1 : FF) (x2 : Int) : Nat → Nat → Int → FF → FF → (Nat → FF → FF → Option ρ) → Option ρ
 | 0,_,_,_,_,_ => none
 | m + 1,x3,x4,x5,x6,k0 =>
  (bif (decide (x4 < x2)) then (bif (inb x4 x0) then (bif (Nat.ble (x3 + 1) 1073741824) then (bif (Nat.ble (x3 + 1) 1073741824) then (L46v1 u x0 x1 x2 m (x3 + 1) (w64 (x4 + 1)) (joinF x3 x5 (rowsF 1 [(.i .i64 (x1 x4.toNat 0).int)])) (joinF x3 x6 (rowsF 1 [(.i .i64 (x1 x4.toNat 1).int)])) k0) else none) else none) else none) else (k0 x3 x5 x6))
theorem nl46v1 : ∀ (m : Nat) (x0 : Nat) (x1 : Int) (x2 x3 : FF) (k0 : Nat → FF → FF → Option ρ),ob (L46v1 u n0 f0 i0 m x0 x1 x2 x3 k0) ng = L46v1 u n0 f0 i0 m x0 x1 x2 x3 (fun x4 x5 x6 => ob (k0 x4 x5 x6) ng)
 | 0,_,_,_,_,_ => rfl
 | m + 1,x0,x1,x2,x3,k0 => by
  simp only [L46v1,ob_bif,ob_ob,ob_none,nl46v1 m]
theorem r46v1 :
  loopH (eB A26v2 (C32 u) u) N46v1 (m + 1) (s46v0 n1 n0 f0 f1 f2 i0 i1) k =
  (bif (decide (i1 < i0)) then (bif (inb i1 n0) then (bif (Nat.ble (n1 + 1) 1073741824) then (bif (Nat.ble (n1 + 1) 1073741824) then (loopH (eB A26v2 (C32 u) u) N46v1 m (s46v0 (n1 + 1) n0 f0 (joinF n1 f1 (rowsF 1 [(vi (f0 i1.toNat 0).int)])) (joinF n1 f2 (rowsF 1 [(vi (f0 i1.toNat 1).int)])) i0 (w64 (i1 + 1))) k) else none) else none) else none) else (k (.exit 0) (s46v1 n1 f1 f2))) := by kernel_rfl
theorem q46v1 : ∀ (m : Nat) (x0 : Nat) (x1 : Int) (x2 x3 : FF),
  loopH (eB A26v2 (C32 u) u) N46v1 m (s46v0 x0 n0 f0 x2 x3 i0 x1) k = L46v1 u n0 f0 i0 m x0 x1 x2 x3 (fun x4 x5 x6 => k (.exit 0) (s46v1 x4 x5 x6))
 | 0,_,_,_,_ => rfl
 | m + 1,x0,x1,x2,x3 => by
  rw [r46v1]
  simp only [L46v1,q46v1 m]
def F46 (x0 : Nat) (x1 : FF) : Option (Int × Int × Int × Int) :=
 (bif ((Int.ofNat x0) == 0) then (some (0,0,0,0)) else (L46v1 u x0 x1 (Int.ofNat x0) u 0 0 (fun _ _ => .any) (fun _ _ => .any)
  (fun x2 x3 x4 => (bif (inb 0 x2) then (ob (F72 u (x3 0 0).int x2 x3) fun x5 => (bif (inb 0 x2) then (ob (F72 u (x4 0 0).int x2 x4) fun x6 => (some (x5.1,x6.1,x5.2,x6.2))) else none)) else none))))
def s46v2 : St := ⟨(.x (.c (ro kP n0 f0)) :: uu :: .x (.ptr 0 0) :: .x (.own 1 0 0) :: .x (.own 2 0 0) :: uu :: uu :: (us 4 [.x (.c (ro kP n0 f0)),vxi (Int.ofNat n0),vxi 0,uu,uu,uu,uu,uu,uu,uu,uu,uu,uu,uu,uu,uu,uu,uu,uu,uu,uu,uu,uu,uu,uu,uu,uu,uu,uu,uu,uu,uu,uu,uu,uu,uu,uu,uu,uu,uu,uu,uu])),[.box [(vci 0),(vci 0),(vci 0),(vci 0)],.arr (.pr (.int .i64) .nil) 0 nilF,.arr (.pr (.int .i64) .nil) 0 nilF]⟩
theorem t46v1 :
  loopN (eB A26v2 (C32 u) u) N46v1 u (s46v2 n0 f0) k =
  L46v1 u n0 f0 (Int.ofNat n0) u 0 0 nilF nilF (fun x0 x1 x2 => k (.exit 0) (s46v1 x0 x1 x2)) :=
 Eq.trans (loopN_at (by kernel_rfl)) (q46v1 ..)
theorem g46v2 :
  (kBlk 0 (kSeq (C32 u) u (6 :: (rl 11 17 [])) A26v3 (finish A26))) (.exit 0) (s46v1 n0 f0 f1) =
  (bif (inb 0 n0) then (ob (F72 u (f0 0 0).int n0 f0) fun x0 => (bif (inb 0 n0) then (ob (F72 u (f1 0 0).int n0 f1) fun x1 => (some [.agg [(vi x0.1),(vi x1.1),(vi x0.2),(vi x1.2)]])) else none)) else none) := by kernel_rfl
theorem e46 : evalF (C32 u) u A26 [.v (ro kP n0 f0)] = ob (F46 u n0 f0) fun t => some [.agg [(vi t.1),(vi t.2.1),(vi t.2.2.1),(vi t.2.2.2)]] := Eq.trans (b := (bif ((Int.ofNat n0) == 0) then (some [.agg [(vi 0),(vi 0),(vi 0),(vi 0)]]) else (loopN (eB A26v2 (C32 u) u) N46v1 u (s46v2 n0 f0) (kBlk 0 (kSeq (C32 u) u (6 :: (rl 11 17 [])) A26v3 (finish A26)))))) (by kernel_rfl) (by
 simp only [F46,ob_bif,ob_ob,ob_none,ob_some,nl46v1,t46v1,g46v2])
def O46 : Ora := mkO (q1 (av (cL kP))) (fun x => F46 u x.1 x.2) fun t => [.agg [(vi t.1),(vi t.2.1),(vi t.2.2.1),(vi t.2.2.2)]]
theorem d46 : DO (O46 u) (C32 u) 26 A26 := dO u (fun x => by exact e46 u x.1 x.2)
def C33 : Oracle := (C32 u).add 26 (fun _ => true) (O46 u)
def A14v1 : AC := (.seq (.region 8 [mv 79 2,o1 80 (cf 24 [79] [22]),o1 81 (.build 31 [vci 0,vci 0] [(0,1),(1,1)] 0 []),o1 82 (.build 31 [vci 0,vci 0] [(0,1),(1,1)] 0 [(0,(ic 6))]),o1 83 (.build 31 [vci 0,vci 0] [(0,1),(1,1)] 0 [(0,(ic 6)),(1,(ic 4))]),o1 84 (.build 31 [vci 0,vci 0] [(0,1),(1,1)] 0 [(1,(ic 4))]),o1 85 (.buildSlice 0 22 31 kP 4 [vci 0,vci 0] [(0,(tm 81)),(1,(tm 82)),(2,(tm 83)),(3,(tm 84))]),o1 86 (cs 23 [80,85] [22,22]),mv 87 86,og 88 (.move (tm 1)) 87 true,og 89 (cs 26 [88] [22]) 87 true,og 90 (.build 31 [vci 0,vci 0] [(0,1),(1,1)] 0 [(0,(ic 4)),(1,(ic 3))]) 87 true,og 91 (.build 37 [vci 0,vci 0,vci 0,vci 0] [(0,2),(2,2)] 0 [(1,(tm 90))]) 87 true,og 92 (.eqA false (.pr (.int .i64) kV) 37 (tm 89) (tm 91) 37) 87 true,o1 93 (po 87 92),o1 0 (sg 93)] 1 none) []
 (.ghost [0,2,3] (.ret (rl 1 93 []))))
def A14v2 : AC := (.seq (.seq (.region 6 [mv 54 1,o1 55 (.build 31 [vci 0,vci 0] [(0,1),(1,1)] 0 [(0,(ic 3)),(1,(ic 1))]),o1 56 (cs 21 [54,55] [22,31]),o1 57 (bk .neq 3 56 1),mv 58 57,og 59 (.move (tm 1)) 58 false,og 60 (.build 31 [vci 0,vci 0] [(0,1),(1,1)] 0 [(0,(ic 4)),(1,(ic 1))]) 58 false,og 61 (cs 21 [59,60] [22,31]) 58 false,og 62 (bk .neq 3 61 0) 58 false,o1 63 (pa 58 62),mv 64 63,og 65 (.move (tm 2)) 64 false,og 66 (.build 31 [vci 0,vci 0] [(0,1),(1,1)] 0 [(0,(ic 3)),(1,(ic 3))]) 64 false,og 67 (cs 21 [65,66] [22,31]) 64 false,og 68 (bk .neq 3 67 (-1)) 64 false,o1 69 (pa 64 68),mv 70 69,og 71 (.move (tm 1)) 70 false,og 72 (cs 19 [71] [22]) 70 false,og 73 (.unOp .not 4 (tm 72)) 70 false,o1 74 (pa 70 73),mv 75 74,og 76 (.move (tm 2)) 75 false,og 77 (cs 19 [76] [22]) 75 false,o1 78 (pa 75 77)] 0 none) []
 (.cond (tm 78)
 (.seq (.region 7 [o1 0 (sb false)] 0 none) []
  (.ghost [0,1,2] (.ret (rl 1 93 []))))
 .skip)) (0 :: (rl 54 25 []))
 A14v1)
def A14 : AF := ⟨94,[.tmp 0],
 (.seq (.region 0 [o1 0 (sb false)] 0 none) []
 (.seq (.region 1 [o1 5 (.build 31 [vci 0,vci 0] [(0,1),(1,1)] 0 []),o1 6 (.build 31 [vci 0,vci 0] [(0,1),(1,1)] 0 [(0,(ic 4))]),o1 7 (.build 31 [vci 0,vci 0] [(0,1),(1,1)] 0 [(0,(ic 4)),(1,(ic 3))]),o1 8 (.buildSlice 0 22 31 kP 3 [vci 0,vci 0] [(0,(tm 5)),(1,(tm 6)),(2,(tm 7))]),o1 1 (sg 8)] 1 none) []
 (.seq (.region 2 [o1 9 (.build 31 [vci 0,vci 0] [(0,1),(1,1)] 0 []),o1 10 (.build 31 [vci 0,vci 0] [(0,1),(1,1)] 0 [(0,(ic 6))]),o1 11 (.build 31 [vci 0,vci 0] [(0,1),(1,1)] 0 [(0,(ic 6)),(1,(ic 4))]),o1 12 (.build 31 [vci 0,vci 0] [(0,1),(1,1)] 0 [(0,(ic 4)),(1,(ic 4))]),o1 13 (.build 31 [vci 0,vci 0] [(0,1),(1,1)] 0 [(0,(ic 4)),(1,(ic 2))]),o1 14 (.build 31 [vci 0,vci 0] [(0,1),(1,1)] 0 [(0,(ic 2)),(1,(ic 2))]),o1 15 (.build 31 [vci 0,vci 0] [(0,1),(1,1)] 0 [(0,(ic 2)),(1,(ic 4))]),o1 16 (.build 31 [vci 0,vci 0] [(0,1),(1,1)] 0 [(1,(ic 4))]),o1 17 (.buildSlice 0 22 31 kP 8 [vci 0,vci 0] [(0,(tm 9)),(1,(tm 10)),(2,(tm 11)),(3,(tm 12)),(4,(tm 13)),(5,(tm 14)),(6,(tm 15)),(7,(tm 16))]),o1 2 (sg 17)] 1 none) []
 (.seq (.region 3 [mv 19 1,o1 20 (cs 15 [19] [22]),mv 18 20,o1 21 (.extract (tm 18) 0),o1 22 (.extract (tm 18) 1),o1 3 (sg 21),o1 4 (sg 22)] 0 none) []
 (.seq (.seq (.region 4 [mv 23 1,o1 24 (cs 12 [23] [22]),o1 25 (bk .neq 23 24 0),mv 26 25,og 27 (.build 31 [vci 0,vci 0] [(0,1),(1,1)] 0 []) 26 false,og 28 (.build 31 [vci 0,vci 0] [(0,1),(1,1)] 0 [(0,(ic 4))]) 26 false,og 29 (.build 31 [vci 0,vci 0] [(0,1),(1,1)] 0 [(1,(ic 4))]) 26 false,og 30 (.build 31 [vci 0,vci 0] [(0,1),(1,1)] 0 [(0,(ic 4)),(1,(ic 4))]) 26 false,og 31 (.buildSlice 0 22 31 kP 4 [vci 0,vci 0] [(0,(tm 27)),(1,(tm 28)),(2,(tm 29)),(3,(tm 30))]) 26 false,og 32 (cs 12 [31] [22]) 26 false,og 33 (bk .neq 23 32 17) 26 false,o1 34 (pa 26 33),mv 35 34,og 36 (.move (tm 1)) 35 false,og 37 (.slice 22 31 2 (tm 36) none (some (ic 2)) none) 35 false,og 38 (cs 12 [37] [22]) 35 false,og 39 (bk .neq 23 38 3) 35 false,o1 40 (pa 35 39),mv 41 40,og 42 (.move (tm 1)) 41 false,og 43 (cs 17 [42] [22]) 41 false,og 44 (bk .neq 3 43 12) 41 false,o1 45 (pa 41 44),mv 46 45,og 47 (.move (tm 3)) 46 false,og 48 (bk .neq 3 47 96) 46 false,o1 49 (pa 46 48),mv 50 49,og 51 (.move (tm 4)) 50 false,og 52 (bk .neq 3 51 36) 50 false,o1 53 (pa 50 52)] 1 none) []
 (.cond (tm 53)
 (.seq (.region 5 [o1 0 (sb false)] 0 none) []
  (.ghost [0,1,2] (.ret (rl 1 93 []))))
 .skip)) (0 :: (rl 23 31 []))
 A14v2)))))⟩
def F207 : Option (Bool) :=
 (ob (F43 u 3 (rowsF 2 [(.i .i64 0),(.i .i64 0),(.i .i64 4),(.i .i64 0),(.i .i64 4),(.i .i64 3)])) fun x0 => (ob (F33 u 3 (rowsF 2 [(.i .i64 0),(.i .i64 0),(.i .i64 4),(.i .i64 0),(.i .i64 4),(.i .i64 3)])) fun x1 => (bif ((x1 != 0) == false) then (ob (F33 u 4 (rowsF 2 [(.i .i64 0),(.i .i64 0),(.i .i64 4),(.i .i64 0),(.i .i64 0),(.i .i64 4),(.i .i64 4),(.i .i64 4)])) fun x2 => (bif ((x2 != 17) == false) then (ob (F33 u 2 (rowsF 2 [(.i .i64 0),(.i .i64 0),(.i .i64 4),(.i .i64 0),(.i .i64 4),(.i .i64 3)])) fun x3 => (bif ((x3 != 3) == false) then (ob (F34 u 3 (rowsF 2 [(.i .i64 0),(.i .i64 0),(.i .i64 4),(.i .i64 0),(.i .i64 4),(.i .i64 3)])) fun x4 => (bif ((x4 != 12) == false) then (bif ((x0.1 != 96) == false) then (bif (x0.2 != 36) then (some false) else (ob (F65 u 3 (rowsF 2 [(.i .i64 0),(.i .i64 0),(.i .i64 4),(.i .i64 0),(.i .i64 4),(.i .i64 3)]) 3 1) fun x5 => (bif ((x5 != 1) == false) then (ob (F65 u 3 (rowsF 2 [(.i .i64 0),(.i .i64 0),(.i .i64 4),(.i .i64 0),(.i .i64 4),(.i .i64 3)]) 4 1) fun x6 => (bif ((x6 != 0) == false) then (ob (F65 u 8 (rowsF 2 [(.i .i64 0),(.i .i64 0),(.i .i64 6),(.i .i64 0),(.i .i64 6),(.i .i64 4),(.i .i64 4),(.i .i64 4),(.i .i64 4),(.i .i64 2),(.i .i64 2),(.i .i64 2),(.i .i64 2),(.i .i64 4),(.i .i64 0),(.i .i64 4)]) 3 3) fun x7 => (bif ((x7 != (-1)) == false) then (ob (F200 u 3 (rowsF 2 [(.i .i64 0),(.i .i64 0),(.i .i64 4),(.i .i64 0),(.i .i64 4),(.i .i64 3)])) fun x8 => (bif ((!x8) == false) then (ob (F200 u 8 (rowsF 2 [(.i .i64 0),(.i .i64 0),(.i .i64 6),(.i .i64 0),(.i .i64 6),(.i .i64 4),(.i .i64 4),(.i .i64 4),(.i .i64 4),(.i .i64 2),(.i .i64 2),(.i .i64 2),(.i .i64 2),(.i .i64 4),(.i .i64 0),(.i .i64 4)])) fun x9 => (bif x9 then (some false) else (ob (F205 u 8 (rowsF 2 [(.i .i64 0),(.i .i64 0),(.i .i64 6),(.i .i64 0),(.i .i64 6),(.i .i64 4),(.i .i64 4),(.i .i64 4),(.i .i64 4),(.i .i64 2),(.i .i64 2),(.i .i64 2),(.i .i64 2),(.i .i64 4),(.i .i64 0),(.i .i64 4)])) fun xA => (ob (F206 u xA.1 xA.2 4 (rowsF 2 [(.i .i64 0),(.i .i64 0),(.i .i64 6),(.i .i64 0),(.i .i64 6),(.i .i64 4),(.i .i64 0),(.i .i64 4)])) fun xB => (bif (xB == true) then (ob (F46 u 3 (rowsF 2 [(.i .i64 0),(.i .i64 0),(.i .i64 4),(.i .i64 0),(.i .i64 4),(.i .i64 3)])) fun xC => (some ((xC.1 == 0) && ((xC.2.1 == 0) && ((xC.2.2.1 == 4) && ((xC.2.2.2 == 3) && true)))))) else (some false)))))) else (some false))) else (some false))) else (some false))) else (some false)))) else (some false)) else (some false))) else (some false))) else (some false))) else (some false))))
theorem e207 : evalF (C33 u) u A14 [] = ob (F207 u) fun t => some [.v (.b t)] := Eq.trans (b := (ob (F43 u 3 (rowsF 2 [(vi 0),(vi 0),(vi 4),(vi 0),(vi 4),(vi 3)])) fun x0 => (ob (F33 u 3 (rowsF 2 [(vi 0),(vi 0),(vi 4),(vi 0),(vi 4),(vi 3)])) fun x1 => (bif ((x1 != 0) == false) then (ob (F33 u 4 (rowsF 2 [(vi 0),(vi 0),(vi 4),(vi 0),(vi 0),(vi 4),(vi 4),(vi 4)])) fun x2 => (bif ((x2 != 17) == false) then (ob (F33 u 2 (rowsF 2 [(vi 0),(vi 0),(vi 4),(vi 0),(vi 4),(vi 3)])) fun x3 => (bif ((x3 != 3) == false) then (ob (F34 u 3 (rowsF 2 [(vi 0),(vi 0),(vi 4),(vi 0),(vi 4),(vi 3)])) fun x4 => (bif ((x4 != 12) == false) then (bif ((x0.1 != 96) == false) then (bif (x0.2 != 36) then (some [.v (.b false)]) else (ob (F65 u 3 (rowsF 2 [(vi 0),(vi 0),(vi 4),(vi 0),(vi 4),(vi 3)]) 3 1) fun x5 => (bif ((x5 != 1) == false) then (ob (F65 u 3 (rowsF 2 [(vi 0),(vi 0),(vi 4),(vi 0),(vi 4),(vi 3)]) 4 1) fun x6 => (bif ((x6 != 0) == false) then (ob (F65 u 8 (rowsF 2 [(vi 0),(vi 0),(vi 6),(vi 0),(vi 6),(vi 4),(vi 4),(vi 4),(vi 4),(vi 2),(vi 2),(vi 2),(vi 2),(vi 4),(vi 0),(vi 4)]) 3 3) fun x7 => (bif ((x7 != (-1)) == false) then (ob (F200 u 3 (rowsF 2 [(vi 0),(vi 0),(vi 4),(vi 0),(vi 4),(vi 3)])) fun x8 => (bif ((!x8) == false) then (ob (F200 u 8 (rowsF 2 [(vi 0),(vi 0),(vi 6),(vi 0),(vi 6),(vi 4),(vi 4),(vi 4),(vi 4),(vi 2),(vi 2),(vi 2),(vi 2),(vi 4),(vi 0),(vi 4)])) fun x9 => (bif x9 then (some [.v (.b false)]) else (ob (F205 u 8 (rowsF 2 [(vi 0),(vi 0),(vi 6),(vi 0),(vi 6),(vi 4),(vi 4),(vi 4),(vi 4),(vi 2),(vi 2),(vi 2),(vi 2),(vi 4),(vi 0),(vi 4)])) fun xA => (ob (F206 u xA.1 xA.2 4 (rowsF 2 [(vi 0),(vi 0),(vi 6),(vi 0),(vi 6),(vi 4),(vi 0),(vi 4)])) fun xB => (bif (xB == true) then (ob (F46 u 3 (rowsF 2 [(vi 0),(vi 0),(vi 4),(vi 0),(vi 4),(vi 3)])) fun xC => (some [.v (.b ((xC.1 == 0) && ((xC.2.1 == 0) && ((xC.2.2.1 == 4) && ((xC.2.2.2 == 3) && true)))))])) else (some [.v (.b false)])))))) else (some [.v (.b false)]))) else (some [.v (.b false)]))) else (some [.v (.b false)]))) else (some [.v (.b false)])))) else (some [.v (.b false)])) else (some [.v (.b false)]))) else (some [.v (.b false)]))) else (some [.v (.b false)]))) else (some [.v (.b false)]))))) (by kernel_rfl) (by
 simp only [F207,ob_bif,ob_ob,ob_none,ob_some])
def O207 : Ora := mkO q0 (fun x => F207 u) fun t => [.v (.b t)]
theorem d207 : DO (O207 u) (C33 u) 14 A14 := dO u (fun x => by exact e207 u)
def C34 : Oracle := (C33 u).add 14 (fun _ => true) (O207 u)
def A10v1 : AC := (.region 8 [mv 39 4,o1 40 (bk .add 3 39 1),o1 4 (sg 40)] 0 none)
def A10v2 : AC := (.seq (.block 1
 (.seq (.region 9 [mv 41 3,mv 42 0,mv 43 4,o1 44 (.indexAddr 22 31 2 (tm 42) (tm 43)),o1 45 (ln 31 2 44),o1 46 (cs 21 [41,45] [22,31]),o1 47 (bk .lss 3 46 0)] 0 none) []
  (.cond (tm 47)
  (.seq (.region 10 [o1 2 (sb false)] 0 none) []
   (.ret (0 :: 1 :: (rl 3 92 []))))
  .skip))) (2 :: (rl 41 7 []))
 A10v1)
def A10v3 : AC := (.seq (.seq (.region 7 [mv 35 4,mv 36 0,o1 37 (.len 22 false (tm 36)),o1 38 (bt .lss 3 35 37)] 0 none) []
 (.cond (tm 38)
 .skip
 (.exit 0 (1 :: 2 :: (rl 4 91 []))))) (rl 35 4 [])
 A10v2)
def A10v4 : AC := (.seq (.block 5
 (.region 18 [mv 60 6,mv 61 60,og 62 (.move (tm 0)) 61 false,og 63 (.move (tm 7)) 61 false,og 64 (.indexAddr 22 31 2 (tm 62) (tm 63)) 61 false,og 65 (ln 31 2 64) 61 false,og 66 (.move (tm 3)) 61 false,og 67 (.move (tm 5)) 61 false,og 68 (.indexAddr 22 31 2 (tm 66) (tm 67)) 61 false,og 69 (ln 31 2 68) 61 false,og 70 (.eqA false kP 31 (tm 65) (tm 69) 31) 61 false,o1 71 (pa 61 70),o1 6 (sg 71)] 0 (some [[],[0],[0,1],[0,1],(rl 0 4 []),(rl 0 5 []),[0,1],[0,1],[0,1,6,7],[0,1,6,7,8],(rl 0 10 []),(rl 0 11 []),(rl 0 12 [])]))) []
 (.region 17 [mv 58 7,o1 59 (bk .add 3 58 1),o1 7 (sg 59)] 0 none))
def A10v5 : AC := (.seq (.seq (.region 16 [mv 54 7,mv 55 0,o1 56 (.len 22 false (tm 55)),o1 57 (bt .lss 3 54 56)] 0 none) []
 (.cond (tm 57)
 .skip
 (.exit 4 (1 :: 2 :: 4 :: (rl 7 88 []))))) (rl 54 4 [])
 A10v4)
def A10v6 : AC := (.seq (.region 19 [mv 72 6,o1 73 (.unOp .not 4 (tm 72))] 0 none) []
 (.cond (tm 73)
 (.seq (.region 20 [o1 2 (sb false)] 0 none) []
  (.ret (0 :: 1 :: (rl 3 92 []))))
 .skip))
def A10v7 : AC := (.region 13 [mv 52 5,o1 53 (bk .add 3 52 1),o1 5 (sg 53)] 0 none)
def A10v8 : AC := (.seq (.block 3
 (.seq (.region 14 [o1 6 (sb false)] 0 none) []
  (.seq (.seq (.region 15 [o1 7 (sk 0)] 0 none) []
  (.block 4
  (.loop [] (1 :: 2 :: 4 :: (rl 8 87 []))
   A10v5))) (7 :: (rl 54 18 []))
  A10v6))) (2 :: 6 :: 7 :: (rl 54 20 []))
 A10v7)
def A10v9 : AC := (.seq (.seq (.region 12 [mv 48 5,mv 49 3,o1 50 (.len 22 false (tm 49)),o1 51 (bt .lss 3 48 50)] 0 none) []
 (.cond (tm 51)
 .skip
 (.exit 2 (1 :: 2 :: (rl 4 91 []))))) (rl 48 4 [])
 A10v8)
def A10v10 : AC := (.seq (.region 21 [mv 74 0,o1 75 (cs 17 [74] [22]),o1 8 (sg 75)] 0 none) []
 (.seq (.region 22 [mv 76 0,o1 77 (cs 19 [76] [22]),mv 78 8,mv 79 8,o1 80 (.unOp .neg 3 (tm 79)),o1 81 (.mm true [(tm 78),(tm 80)] [3,3]),mv 82 3,o1 83 (cs 17 [82] [22]),o1 84 (bt .eql 3 81 83),o1 85 (.eqB false 4 (tm 77) (tm 84) 4),mv 86 85,og 87 (.move (tm 3)) 86 true,og 88 (cf 24 [87] [22]) 86 true,og 89 (.move (tm 3)) 86 true,og 90 (cs 23 [88,89] [22,22]) 86 true,o1 91 (po 86 90),mv 92 91,og 93 (cs 14 [] []) 92 true,o1 94 (po 92 93),o1 2 (sg 94)] 0 none) []
 (.ret (0 :: 1 :: (rl 3 92 [])))))
def A10v11 : AC := (.seq (.seq (.region 11 [o1 5 (sk 0)] 0 none) []
 (.block 2
 (.loop [] (1 :: 2 :: 4 :: (rl 6 89 []))
  A10v9))) (2 :: 5 :: 6 :: 7 :: (rl 48 26 []))
 A10v10)
def A10v12 : AC := (.seq (.seq (.region 6 [o1 4 (sk 0)] 0 none) []
 (.block 0
 (.loop [] (1 :: 2 :: (rl 5 90 []))
  A10v3))) (2 :: 4 :: (rl 35 13 []))
 A10v11)
def A10v13 : AC := (.seq (.region 3 [mv 13 0,o1 14 (cf 24 [13] [22]),o1 3 (sg 14)] 0 none) []
 (.seq (.seq (.region 4 [mv 15 3,o1 16 (.len 22 false (tm 15)),mv 17 0,o1 18 (.len 22 false (tm 17)),o1 19 (bt .gtr 3 16 18),mv 20 19,og 21 (.move (tm 3)) 20 false,og 22 (cs 12 [21] [22]) 20 false,og 23 (bk .neq 23 22 0) 20 false,o1 24 (pa 20 23),mv 25 24,og 26 (.move (tm 3)) 25 false,og 27 (cs 19 [26] [22]) 25 false,og 28 (.unOp .not 4 (tm 27)) 25 false,o1 29 (pa 25 28),mv 30 29,og 31 (.move (tm 3)) 30 false,og 32 (cs 17 [31] [22]) 30 false,og 33 (bk .leq 3 32 0) 30 false,o1 34 (pa 30 33)] 0 none) []
 (.cond (tm 34)
 (.seq (.region 5 [o1 2 (sb false)] 0 none) []
  (.ret (0 :: 1 :: (rl 3 92 []))))
 .skip)) (2 :: (rl 15 20 []))
 A10v12))
def A10 : AF := ⟨95,[.tmp 2],
 (.seq (.region 0 [o1 2 (sb false)] 0 none) []
 (.seq (.seq (.region 1 [mv 9 0,o1 10 (cs 13 [9] [22]),o1 11 (bk .neq 23 10 0)] 0 none) []
 (.cond (tm 11)
 (.seq (.region 2 [o1 12 (cs 14 [] []),o1 2 (sg 12)] 0 none) []
  (.ret (0 :: 1 :: (rl 3 92 []))))
 .skip)) (2 :: (rl 9 4 []))
 A10v13))⟩
def N220v1 : St → Option St := nN 0 (1 :: 2 :: (rl 5 90 []))
def s220v0 : St := ⟨(.x (.c (ro kP n0 f0)) :: .u :: .u :: .x (.c (ro kP n1 f1)) :: vxi i0 :: (us 90 [])),[]⟩
def s220v1 : St := ⟨(.u :: .u :: vxb false :: (us 92 [])),[]⟩
def s220v2 : St := ⟨(.x (.c (ro kP n0 f0)) :: .u :: .u :: .x (.c (ro kP n1 f1)) :: (us 91 [])),[]⟩
def L220v1 {ρ : Type} (u : Nat) (x0 : Nat) (x1 : FF) (x2 : Nat) (x3 : FF) : Nat → Int → (Option ρ) → (Option ρ) → Option ρ
 | 0,_,_,_ => none
 | m + 1,x4,k0,k1 =>
  (bif (decide (x4 < (Int.ofNat x0))) then (bif (inb x4 x0) then (ob (F65 u x2 x3 (x1 x4.toNat 0).int (x1 x4.toNat 1).int) fun x5 => (bif (decide (x5 < 0)) then k0 else (L220v1 u x0 x1 x2 x3 m (w64 (x4 + 1)) k0 k1))) else none) else k1)
theorem nl220v1 : ∀ (m : Nat) (x0 : Int) (k0 : Option ρ) (k1 : Option ρ),ob (L220v1 u n0 f0 n1 f1 m x0 k0 k1) ng = L220v1 u n0 f0 n1 f1 m x0 (ob k0 ng) (ob k1 ng)
 | 0,_,_,_ => rfl
 | m + 1,x0,k0,k1 => by
  simp only [L220v1,ob_bif,ob_ob,ob_none,nl220v1 m]
theorem r220v1 :
  loopH (eB A10v3 (C34 u) u) N220v1 (m + 1) (s220v0 n0 n1 f0 f1 i0) k =
  (bif (decide (i0 < (Int.ofNat n0))) then (bif (inb i0 n0) then (ob (F65 u n1 f1 (f0 i0.toNat 0).int (f0 i0.toNat 1).int) fun x0 => (bif (decide (x0 < 0)) then (k .ret s220v1) else (loopH (eB A10v3 (C34 u) u) N220v1 m (s220v0 n0 n1 f0 f1 (w64 (i0 + 1))) k))) else none) else (k (.exit 0) (s220v2 n0 n1 f0 f1))) := by kernel_rfl
theorem q220v1 : ∀ (m : Nat) (x0 : Int),
  loopH (eB A10v3 (C34 u) u) N220v1 m (s220v0 n0 n1 f0 f1 x0) k = L220v1 u n0 f0 n1 f1 m x0 (k .ret s220v1) (k (.exit 0) (s220v2 n0 n1 f0 f1))
 | 0,_ => rfl
 | m + 1,x0 => by
  rw [r220v1]
  simp only [L220v1,q220v1 m]
def N220v3 : St → Option St := nN 0 (1 :: 2 :: 4 :: (rl 8 87 []))
def s220v3 : St := ⟨(.x (.c (ro kP n0 f0)) :: .u :: .u :: .x (.c (ro kP n1 f1)) :: .u :: vxi i0 :: vxb b0 :: vxi i1 :: (us 87 [])),[]⟩
def s220v4 : St := ⟨(.x (.c (ro kP n0 f0)) :: .u :: .u :: .x (.c (ro kP n1 f1)) :: .u :: vxi i0 :: vxb b0 :: (us 88 [])),[]⟩
def L220v3 {ρ : Type} (u : Nat) (x0 : Nat) (x1 : FF) (x2 : Nat) (x3 : FF) (x4 : Int) : Nat → Bool → Int → (Bool → Option ρ) → Option ρ
 | 0,_,_,_ => none
 | m + 1,x5,x6,k0 =>
  (bif (decide (x6 < (Int.ofNat x0))) then (bif (x5 == false) then (bif (inb x6 x0) then (bif (inb x4 x2) then (L220v3 u x0 x1 x2 x3 x4 m (((x1 x6.toNat 0).int == (x3 x4.toNat 0).int) && (((x1 x6.toNat 1).int == (x3 x4.toNat 1).int) && true)) (w64 (x6 + 1)) k0) else none) else none) else (L220v3 u x0 x1 x2 x3 x4 m true (w64 (x6 + 1)) k0)) else (k0 x5))
theorem nl220v3 : ∀ (m : Nat) (x0 : Bool) (x1 : Int) (k0 : Bool → Option ρ),ob (L220v3 u n0 f0 n1 f1 i0 m x0 x1 k0) ng = L220v3 u n0 f0 n1 f1 i0 m x0 x1 (fun x2 => ob (k0 x2) ng)
 | 0,_,_,_ => rfl
 | m + 1,x0,x1,k0 => by
  simp only [L220v3,ob_bif,ob_ob,ob_none,nl220v3 m]
theorem r220v3 :
  loopH (eB A10v5 (C34 u) u) N220v3 (m + 1) (s220v3 n0 n1 f0 f1 i0 i1 b0) k =
  (bif (decide (i1 < (Int.ofNat n0))) then (bif (b0 == false) then (bif (inb i1 n0) then (bif (inb i0 n1) then (loopH (eB A10v5 (C34 u) u) N220v3 m (s220v3 n0 n1 f0 f1 i0 (w64 (i1 + 1)) (((f0 i1.toNat 0).int == (f1 i0.toNat 0).int) && (((f0 i1.toNat 1).int == (f1 i0.toNat 1).int) && true))) k) else none) else none) else (loopH (eB A10v5 (C34 u) u) N220v3 m (s220v3 n0 n1 f0 f1 i0 (w64 (i1 + 1)) true) k)) else (k (.exit 4) (s220v4 n0 n1 f0 f1 i0 b0))) := by kernel_rfl
theorem q220v3 : ∀ (m : Nat) (x0 : Bool) (x1 : Int),
  loopH (eB A10v5 (C34 u) u) N220v3 m (s220v3 n0 n1 f0 f1 i0 x1 x0) k = L220v3 u n0 f0 n1 f1 i0 m x0 x1 (fun x2 => k (.exit 4) (s220v4 n0 n1 f0 f1 i0 x2))
 | 0,_,_ => rfl
 | m + 1,x0,x1 => by
  rw [r220v3]
  simp only [L220v3,q220v3 m]
def N220v4 : St → Option St := nN 0 (1 :: 2 :: 4 :: (rl 6 89 []))
def s220v5 : St := ⟨(.x (.c (ro kP n0 f0)) :: .u :: .u :: .x (.c (ro kP n1 f1)) :: .u :: vxi i0 :: (us 89 [])),[]⟩
def s220v6 : St := ⟨(.x (.c (ro kP n0 f0)) :: .u :: .u :: .x (.c (ro kP n1 f1)) :: (us 91 [])),[]⟩
def L220v4 {ρ : Type} (u : Nat) (x0 : Nat) (x1 : FF) (x2 : Nat) (x3 : FF) : Nat → Int → (Option ρ) → (Option ρ) → Option ρ
 | 0,_,_,_ => none
 | m + 1,x4,k0,k1 =>
  (bif (decide (x4 < (Int.ofNat x2))) then (L220v3 u x0 x1 x2 x3 x4 u false 0
  (fun x5 => (bif (!x5) then k0 else (L220v4 u x0 x1 x2 x3 m (w64 (x4 + 1)) k0 k1)))) else k1)
theorem nl220v4 : ∀ (m : Nat) (x0 : Int) (k0 : Option ρ) (k1 : Option ρ),ob (L220v4 u n0 f0 n1 f1 m x0 k0 k1) ng = L220v4 u n0 f0 n1 f1 m x0 (ob k0 ng) (ob k1 ng)
 | 0,_,_,_ => rfl
 | m + 1,x0,k0,k1 => by
  simp only [L220v4,ob_bif,ob_ob,ob_none,nl220v4 m,nl220v3]
def s220v7 : St := ⟨(.x (.c (ro kP n0 f0)) :: .u :: .u :: .x (.c (ro kP n1 f1)) :: .u :: vxi i0 :: vxb false :: vxi 0 :: (us 87 [])),[]⟩
theorem r220v4 :
  loopH (eB A10v9 (C34 u) u) N220v4 (m + 1) (s220v5 n0 n1 f0 f1 i0) k =
  (bif (decide (i0 < (Int.ofNat n1))) then (loopN (eB A10v5 (C34 u) u) N220v3 u (s220v7 n0 n1 f0 f1 i0) (kBlk 4 (kSeq (C34 u) u (7 :: (rl 54 18 [])) A10v6 (kBlk 3 (kSeq (C34 u) u (2 :: 6 :: 7 :: (rl 54 20 [])) A10v7 (kLoop (eB A10v9 (C34 u) u) N220v4 m k)))))) else (k (.exit 2) (s220v6 n0 n1 f0 f1))) := by kernel_rfl
theorem t220v1 :
  loopN (eB A10v5 (C34 u) u) N220v3 u (s220v7 n0 n1 f0 f1 i0) k =
  L220v3 u n0 f0 n1 f1 i0 u false 0 (fun x0 => k (.exit 4) (s220v4 n0 n1 f0 f1 i0 x0)) :=
 Eq.trans (loopN_at (by kernel_rfl)) (q220v3 ..)
theorem g220v2 :
  (kBlk 4 (kSeq (C34 u) u (7 :: (rl 54 18 [])) A10v6 (kBlk 3 (kSeq (C34 u) u (2 :: 6 :: 7 :: (rl 54 20 [])) A10v7 (kLoop (eB A10v9 (C34 u) u) N220v4 m k))))) (.exit 4) (s220v4 n0 n1 f0 f1 i0 b0) =
  (bif (!b0) then (k .ret s220v1) else (loopH (eB A10v9 (C34 u) u) N220v4 m (s220v5 n0 n1 f0 f1 (w64 (i0 + 1))) k)) := by kernel_rfl
theorem q220v4 : ∀ (m : Nat) (x0 : Int),
  loopH (eB A10v9 (C34 u) u) N220v4 m (s220v5 n0 n1 f0 f1 x0) k = L220v4 u n0 f0 n1 f1 m x0 (k .ret s220v1) (k (.exit 2) (s220v6 n0 n1 f0 f1))
 | 0,_ => rfl
 | m + 1,x0 => by
  rw [r220v4]
  simp only [L220v4,q220v4 m,t220v1,g220v2]
def F220 (x0 : Nat) (x1 : FF) : Option (Bool) :=
 (ob (F37 u x0 x1) fun x2 => (bif (x2 != 0) then (ob (F207 u) fun x3 => (some x3)) else (ob (F205 u x0 x1) fun x4 => (bif ((decide ((Int.ofNat x4.1) > (Int.ofNat x0))) == false) then (ob (F33 u x4.1 x4.2) fun x5 => (bif ((x5 != 0) == false) then (ob (F200 u x4.1 x4.2) fun x6 => (bif ((!x6) == false) then (ob (F34 u x4.1 x4.2) fun x7 => (bif (decide (x7 ≤ 0)) then (some false) else (L220v1 u x0 x1 x4.1 x4.2 u 0
  (some false)
  (L220v4 u x0 x1 x4.1 x4.2 u 0
  (some false)
  (ob (F34 u x0 x1) fun x8 => (ob (F200 u x0 x1) fun x9 => (ob (F34 u x4.1 x4.2) fun xA => (bif ((x9 == ((if (w64 (0 - x8)) > x8 then (w64 (0 - x8)) else x8) == xA)) == true) then (ob (F205 u x4.1 x4.2) fun xB => (ob (F206 u xB.1 xB.2 x4.1 x4.2) fun xC => (bif (xC == true) then (ob (F207 u) fun xD => (some xD)) else (some false)))) else (some false))))))))) else (some false))) else (some false))) else (some false)))))
def s220v8 (x0 : Nat × FF) : St := ⟨(.x (.c (ro kP n0 f0)) :: uu :: .u :: .x (.c (ro kP x0.1 x0.2)) :: vxi 0 :: uu :: uu :: uu :: uu :: (us 4 (.x (.c (ro kP n0 f0)) :: .x (.c (ro kP x0.1 x0.2)) :: (us 20 [uu,uu,uu,uu,uu,uu,uu,uu,uu,uu,uu,uu,uu,uu,uu,uu,uu,uu,uu,uu,uu,uu,uu,uu,uu,uu,uu,uu,uu,uu,uu,uu,uu,uu,uu,uu,uu,uu,uu,uu,uu,uu,uu,uu,uu,uu,uu,uu,uu,uu,uu,uu,uu,uu,uu,uu,uu,uu,uu,uu])))),[]⟩
theorem t220v3 (x0 : Nat × FF) :
  loopN (eB A10v3 (C34 u) u) N220v1 u (s220v8 n0 f0 x0) k =
  L220v1 u n0 f0 x0.1 x0.2 u 0 (k .ret s220v1) (k (.exit 0) (s220v2 n0 x0.1 f0 x0.2)) :=
 Eq.trans (loopN_at (by kernel_rfl)) (q220v1 ..)
theorem g220v4 :
  (kBlk 0 (kSeq (C34 u) u (2 :: 4 :: (rl 35 13 [])) A10v11 (finish A10))) .ret s220v1 =
  (some [.v (.b false)]) := by kernel_rfl
def s220v9 (x0 : Nat × FF) : St := ⟨(.x (.c (ro kP n0 f0)) :: .u :: .u :: .x (.c (ro kP x0.1 x0.2)) :: .u :: vxi 0 :: (us 89 [])),[]⟩
theorem g220v5 (x0 : Nat × FF) :
  (kBlk 0 (kSeq (C34 u) u (2 :: 4 :: (rl 35 13 [])) A10v11 (finish A10))) (.exit 0) (s220v2 n0 x0.1 f0 x0.2) =
  (loopN (eB A10v9 (C34 u) u) N220v4 u (s220v9 n0 f0 x0) (kBlk 2 (kSeq (C34 u) u (2 :: 5 :: 6 :: 7 :: (rl 48 26 [])) A10v10 (finish A10)))) := by kernel_rfl
theorem t220v6 (x0 : Nat × FF) :
  loopN (eB A10v9 (C34 u) u) N220v4 u (s220v9 n0 f0 x0) k =
  L220v4 u n0 f0 x0.1 x0.2 u 0 (k .ret s220v1) (k (.exit 2) (s220v6 n0 x0.1 f0 x0.2)) :=
 Eq.trans (loopN_at (by kernel_rfl)) (q220v4 ..)
theorem g220v7 :
  (kBlk 2 (kSeq (C34 u) u (2 :: 5 :: 6 :: 7 :: (rl 48 26 [])) A10v10 (finish A10))) .ret s220v1 =
  (some [.v (.b false)]) := by kernel_rfl
theorem g220v8 (x0 : Nat × FF) :
  (kBlk 2 (kSeq (C34 u) u (2 :: 5 :: 6 :: 7 :: (rl 48 26 [])) A10v10 (finish A10))) (.exit 2) (s220v6 n0 x0.1 f0 x0.2) =
  (ob (F34 u n0 f0) fun x1 => (ob (F200 u n0 f0) fun x2 => (ob (F34 u x0.1 x0.2) fun x3 => (bif ((x2 == ((if (w64 (0 - x1)) > x1 then (w64 (0 - x1)) else x1) == x3)) == true) then (ob (F205 u x0.1 x0.2) fun x4 => (ob (F206 u x4.1 x4.2 x0.1 x0.2) fun x5 => (bif (x5 == true) then (ob (F207 u) fun x6 => (some [.v (.b x6)])) else (some [.v (.b false)])))) else (some [.v (.b false)]))))) := by kernel_rfl
theorem e220 : evalF (C34 u) u A10 [.v (ro kP n0 f0)] = ob (F220 u n0 f0) fun t => some [.v (.b t)] := Eq.trans (b := (ob (F37 u n0 f0) fun x0 => (bif (x0 != 0) then (ob (F207 u) fun x1 => (some [.v (.b x1)])) else (ob (F205 u n0 f0) fun x2 => (bif ((decide ((Int.ofNat x2.1) > (Int.ofNat n0))) == false) then (ob (F33 u x2.1 x2.2) fun x3 => (bif ((x3 != 0) == false) then (ob (F200 u x2.1 x2.2) fun x4 => (bif ((!x4) == false) then (ob (F34 u x2.1 x2.2) fun x5 => (bif (decide (x5 ≤ 0)) then (some [.v (.b false)]) else (loopN (eB A10v3 (C34 u) u) N220v1 u (s220v8 n0 f0 x2) (kBlk 0 (kSeq (C34 u) u (2 :: 4 :: (rl 35 13 [])) A10v11 (finish A10)))))) else (some [.v (.b false)]))) else (some [.v (.b false)]))) else (some [.v (.b false)])))))) (by kernel_rfl) (by
 simp only [F220,ob_bif,ob_ob,ob_none,ob_some,nl220v1,nl220v4,t220v3,g220v4,g220v5,t220v6,g220v7,g220v8])
def O220 : Ora := mkO (q1 (av (cL kP))) (fun x => F220 u x.1 x.2) fun t => [.v (.b t)]
theorem d220 : DO (O220 u) (C34 u) 10 A10 := dO u (fun x => by exact e220 u x.1 x.2)
/- Functions that the plain texts alone name. -/
def L38v1 {ρ : Type} (u : Nat) (x0 : Nat) (x1 : FF) : Nat → Int → Int → (Int → Option ρ) → Option ρ
 | 0,_,_,_ => none
 | m + 1,x2,x3,k0 =>
  (bif (decide (x3 < (Int.ofNat x0))) then (bif (inb x3 x0) then (bif ((Int.ofNat x0) == 0) then none else (bif (inb (Int.tmod (w64 (x3 + 1)) (Int.ofNat x0)) x0) then (L38v1 u x0 x1 m (w64 ((w64 (x2 + (w64 ((x1 x3.toNat 0).int * (CV.int (x1 (Int.toNat (Int.tmod (w64 (x3 + 1)) (Int.ofNat x0))) 1)))))) - (w64 ((x1 x3.toNat 1).int * (CV.int (x1 (Int.toNat (Int.tmod (w64 (x3 + 1)) (Int.ofNat x0))) 0)))))) (w64 (x3 + 1)) k0) else none)) else none) else (k0 x2))
def F38 (x0 : Nat) (x1 : FF) : Option (Int) :=
 (ob (F37 u x0 x1) fun x2 => (bif (x2 != 0) then (some 0) else (L38v1 u x0 x1 u 0 0
  (fun x3 => (some x3)))))
def L40v1 {ρ : Type} (u : Nat) (x0 : Nat) (x1 : FF) (x2 x3 : Int) : Nat → Bool → Int → (Int → Int → Int → Int → Option ρ) → (Bool → Option ρ) → Option ρ
 | 0,_,_,_,_ => none
 | m + 1,x4,x5,k0,k1 =>
  (bif (decide (x5 < (Int.ofNat x0))) then (bif (inb x5 x0) then (bif ((Int.ofNat x0) == 0) then none else (bif (inb (Int.tmod (w64 (x5 + 1)) (Int.ofNat x0)) x0) then (ob (F70 u x2 x3 (x1 x5.toNat 0).int (x1 x5.toNat 1).int (CV.int (x1 (Int.toNat (Int.tmod (w64 (x5 + 1)) (Int.ofNat x0))) 0)) (CV.int (x1 (Int.toNat (Int.tmod (w64 (x5 + 1)) (Int.ofNat x0))) 1))) fun x6 => (bif x6 then (k0 (x1 x5.toNat 0).int (x1 x5.toNat 1).int (CV.int (x1 (Int.toNat (Int.tmod (w64 (x5 + 1)) (Int.ofNat x0))) 0)) (CV.int (x1 (Int.toNat (Int.tmod (w64 (x5 + 1)) (Int.ofNat x0))) 1))) else (bif ((decide ((x1 x5.toNat 1).int ≤ x3)) == true) then (bif ((decide (x3 < (CV.int (x1 (Int.toNat (Int.tmod (w64 (x5 + 1)) (Int.ofNat x0))) 1)))) == true) then (ob (F71 u (x1 x5.toNat 0).int (x1 x5.toNat 1).int (CV.int (x1 (Int.toNat (Int.tmod (w64 (x5 + 1)) (Int.ofNat x0))) 0)) (CV.int (x1 (Int.toNat (Int.tmod (w64 (x5 + 1)) (Int.ofNat x0))) 1)) x2 x3) fun x7 => (bif ((decide ((CV.int (x1 (Int.toNat (Int.tmod (w64 (x5 + 1)) (Int.ofNat x0))) 1)) ≤ x3)) == true) then (bif ((decide (x3 < (x1 x5.toNat 1).int)) == true) then (ob (F71 u (x1 x5.toNat 0).int (x1 x5.toNat 1).int (CV.int (x1 (Int.toNat (Int.tmod (w64 (x5 + 1)) (Int.ofNat x0))) 0)) (CV.int (x1 (Int.toNat (Int.tmod (w64 (x5 + 1)) (Int.ofNat x0))) 1)) x2 x3) fun x8 => (bif ((decide (x7 > 0)) == false) then (bif (decide (x8 < 0)) then (L40v1 u x0 x1 x2 x3 m (!x4) (w64 (x5 + 1)) k0 k1) else (L40v1 u x0 x1 x2 x3 m x4 (w64 (x5 + 1)) k0 k1)) else (L40v1 u x0 x1 x2 x3 m (!x4) (w64 (x5 + 1)) k0 k1))) else (bif ((decide (x7 > 0)) == false) then (L40v1 u x0 x1 x2 x3 m x4 (w64 (x5 + 1)) k0 k1) else (L40v1 u x0 x1 x2 x3 m (!x4) (w64 (x5 + 1)) k0 k1))) else (bif ((decide (x7 > 0)) == false) then (L40v1 u x0 x1 x2 x3 m x4 (w64 (x5 + 1)) k0 k1) else (L40v1 u x0 x1 x2 x3 m (!x4) (w64 (x5 + 1)) k0 k1)))) else (bif ((decide ((CV.int (x1 (Int.toNat (Int.tmod (w64 (x5 + 1)) (Int.ofNat x0))) 1)) ≤ x3)) == true) then (bif ((decide (x3 < (x1 x5.toNat 1).int)) == true) then (ob (F71 u (x1 x5.toNat 0).int (x1 x5.toNat 1).int (CV.int (x1 (Int.toNat (Int.tmod (w64 (x5 + 1)) (Int.ofNat x0))) 0)) (CV.int (x1 (Int.toNat (Int.tmod (w64 (x5 + 1)) (Int.ofNat x0))) 1)) x2 x3) fun x9 => (bif (decide (x9 < 0)) then (L40v1 u x0 x1 x2 x3 m (!x4) (w64 (x5 + 1)) k0 k1) else (L40v1 u x0 x1 x2 x3 m x4 (w64 (x5 + 1)) k0 k1))) else (L40v1 u x0 x1 x2 x3 m x4 (w64 (x5 + 1)) k0 k1)) else (L40v1 u x0 x1 x2 x3 m x4 (w64 (x5 + 1)) k0 k1))) else (bif ((decide ((CV.int (x1 (Int.toNat (Int.tmod (w64 (x5 + 1)) (Int.ofNat x0))) 1)) ≤ x3)) == true) then (bif ((decide (x3 < (x1 x5.toNat 1).int)) == true) then (ob (F71 u (x1 x5.toNat 0).int (x1 x5.toNat 1).int (CV.int (x1 (Int.toNat (Int.tmod (w64 (x5 + 1)) (Int.ofNat x0))) 0)) (CV.int (x1 (Int.toNat (Int.tmod (w64 (x5 + 1)) (Int.ofNat x0))) 1)) x2 x3) fun xA => (bif (decide (xA < 0)) then (L40v1 u x0 x1 x2 x3 m (!x4) (w64 (x5 + 1)) k0 k1) else (L40v1 u x0 x1 x2 x3 m x4 (w64 (x5 + 1)) k0 k1))) else (L40v1 u x0 x1 x2 x3 m x4 (w64 (x5 + 1)) k0 k1)) else (L40v1 u x0 x1 x2 x3 m x4 (w64 (x5 + 1)) k0 k1))))) else none)) else none) else (k1 x4))
def F40 (x0 : Nat) (x1 : FF) (x2 x3 : Int) : Option (Int) :=
 (ob (F37 u x0 x1) fun x4 => (bif ((x4 != 0) == false) then (ob (F69 u x2 x3) fun x5 => (bif (!x5) then (some (-1)) else (L40v1 u x0 x1 x2 x3 u false 0
  (fun x6 x7 x8 x9 => (some 0))
  (fun xA => (bif xA then (some 1) else (some (-1))))))) else (some (-1))))
end Go.Eng.R13
