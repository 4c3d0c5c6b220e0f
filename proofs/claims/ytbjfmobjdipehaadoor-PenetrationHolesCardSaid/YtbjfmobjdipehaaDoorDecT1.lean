/-
  The functions of the program, run on symbols; printed by decomp.py.
-/
import Derived.Test.YtbjfmobjdipehaaDoorDecT0
set_option linter.all false
set_option maxRecDepth 1000000
set_option maxHeartbeats 4000000
namespace Go.Eng.R13
open Go Go.RowKit Go.Eng
def A47v1 : AC := (.region 21 [o1 59 (bk .add 3 51 1), mv 51 59] 0 none)
def A47v2 : AC := (.seq (.block 3
  (.seq (.region 18 [o1 53 (.indexAddr 23 22 1 (tm 49) (tm 51)), o1 54 (lo 22 53), o1 8 (sg 54)] 0 none) []
    (.seq (.region 19 [mv 55 5, mv 56 8, o1 57 (cs 73 [55, 56] [22, 22]), o1 58 (.unOp .not 4 (tm 57))] 0 none) []
    (.cond (tm 58)
    (.seq (.region 20 [o1 2 (sk 17)] 0 none) []
      (.ret (0 :: 1 :: (rl 3 58 []))))
    .skip)))) (2 :: 8 :: (rl 53 6 []))
  A47v1)
def A47v3 : AC := (.seq (.region 17 [o1 52 (bt .lss 3 51 50)] 0 none) []
  (.seq (.cond (tm 52)
  .skip
  (.exit 2 (0 :: (rl 2 22 (rl 27 34 []))))) []
  A47v2))
def A47v4 : AC := (.seq (.region 16 [o1 46 (fa 25 1 1 1), o1 47 (lo 23 46), mv 48 4, o1 49 (.slice 23 22 1 (tm 47) none (some (tm 48)) none), o1 50 (.len 23 false (tm 49)), o1 51 (.move (ic 0))] 0 none) []
  (.block 2
  (.loop [] (0 :: 2 :: 3 :: 4 :: (rl 6 18 (rl 27 22 (rl 52 9 []))))
    A47v3)))
def A47v5 : AC := (.seq (.seq (.region 14 [mv 36 5, o1 37 (cs 71 [36] [22]), o1 38 (bk .geq 3 37 0), mv 39 38, og 40 (.move (tm 5)) 39 false, og 41 (fa 25 1 0 0) 39 false, og 42 (lo 22 41) 39 false, og 43 (cs 72 [40, 42] [22, 22]) 39 false, og 44 (.unOp .not 4 (tm 43)) 39 false, o1 45 (pa 39 44)] 0 none) []
  (.cond (tm 45)
  (.seq (.region 15 [o1 2 (sk 17)] 0 none) []
    (.ret (0 :: 1 :: (rl 3 58 []))))
  .skip)) (2 :: (rl 36 10 []))
  A47v4)
def A47v6 : AC := (.region 22 [o1 60 (bk .add 3 26 1), mv 26 60] 0 none)
def A47v7 : AC := (.seq (.block 1
  (.seq (.region 10 [mv 28 26, o1 29 (.indexAddr 23 22 1 (tm 24) (tm 26)), o1 30 (lo 22 29), o1 4 (sg 28), o1 5 (sg 30)] 0 none) []
    (.seq (.seq (.region 11 [mv 31 5, o1 32 (cs 70 [31] [22]), o1 6 (sg 32)] 0 none) []
    (.seq (.region 12 [mv 33 6, o1 34 (bk .neq 79 33 0)] 0 none) []
    (.cond (tm 34)
    (.seq (.region 13 [mv 35 6, o1 2 (sg 35)] 0 none) []
      (.ret (0 :: 1 :: (rl 3 58 []))))
    .skip))) (2 :: 6 :: (rl 31 5 []))
    A47v5))) (2 :: 4 :: 5 :: 6 :: 8 :: (rl 28 32 []))
  A47v6)
def A47v8 : AC := (.seq (.region 9 [o1 27 (bt .lss 3 26 25)] 0 none) []
  (.seq (.cond (tm 27)
  .skip
  (.exit 0 (rl 0 61 []))) []
  A47v7))
def A47v9 : AC := (.seq (.region 23 [o1 2 (sk 0)] 0 none) []
  (.ret (0 :: 1 :: (rl 3 58 []))))
def A47v10 : AC := (.seq (.seq (.region 8 [o1 23 (fa 25 1 1 1), o1 24 (lo 23 23), o1 25 (.len 23 false (tm 24)), o1 26 (.move (ic 0))] 0 none) []
  (.block 0
  (.loop [] (0 :: (rl 2 22 (rl 27 34 [])))
    A47v8))) (2 :: 4 :: 5 :: 6 :: 8 :: (rl 23 38 []))
  A47v9)
def A47v11 : AC := (.seq (.seq (.region 6 [o1 19 (fa 25 1 0 0), o1 20 (lo 22 19), o1 21 (cs 71 [20] [22]), o1 22 (bk .leq 3 21 0)] 0 none) []
  (.cond (tm 22)
  (.seq (.region 7 [o1 2 (sk 17)] 0 none) []
    (.ret (0 :: 1 :: (rl 3 58 []))))
  .skip)) (2 :: (rl 19 4 []))
  A47v10)
def A47v12 : AC := (.seq (.seq (.region 3 [o1 13 (fa 25 1 0 0), o1 14 (lo 22 13), o1 15 (cs 70 [14] [22]), o1 3 (sg 15)] 0 none) []
  (.seq (.region 4 [mv 16 3, o1 17 (bk .neq 79 16 0)] 0 none) []
  (.cond (tm 17)
  (.seq (.region 5 [mv 18 3, o1 2 (sg 18)] 0 none) []
    (.ret (0 :: 1 :: (rl 3 58 []))))
  .skip))) (2 :: 3 :: (rl 13 6 []))
  A47v11)
def A47 : AF := ⟨61, [.tmp 2],
  (.seq (.region 0 [o1 1 (bx 0 25 0), o1 2 (sk 0)] 1 none) []
  (.seq (.seq (.region 1 [o1 9 (fa 25 1 1 1), o1 10 (lo 23 9), o1 11 (.len 23 false (tm 10)), o1 12 (bk .gtr 3 11 8)] 0 none) []
  (.cond (tm 12)
  (.seq (.region 2 [o1 2 (sk 12)] 0 none) []
    (.ret (0 :: 1 :: (rl 3 58 []))))
  .skip)) (2 :: (rl 9 4 []))
  A47v12))⟩
def B13v2 (C : Oracle) (fuel : Nat) {ρ : Type} : St → (Ex → St → Option ρ) → Option ρ := fun st k => evalC C fuel A47v3 st k
def N13v2 : St → Option St := fun s => s.norm (0 :: 2 :: 3 :: 4 :: (rl 6 18 (rl 27 22 (rl 52 9 [])))) 1
def s13v0 (x42 : Nat) (x43 : FF) (x44 : Nat) (x45 : FF) (x46 x47 : Int) (x48 : Nat) (x49 x50 : Int) (x51 : Nat) (x52 : FF) : St := ⟨(.u :: .x (.ptr 0 0) :: (us 3 (.x (.c (.ro false kP x42 x43)) :: (us 18 (.x (.c (.ro false (.pr (.sl kP) .nil) x44 x45)) :: vxi x46 :: vxi x47 :: (us 22 (.x (.c (.ro false (.pr (.sl kP) .nil) x48 x45)) :: vxi x49 :: vxi x50 :: (us 9 [])))))))), [.box [(.c (.ro false kP x51 x52)), (.c (.ro false (.pr (.sl kP) .nil) x44 x45))]]⟩
def s13v1 (x51 : Nat) (x52 : FF) (x44 : Nat) (x45 : FF) : St := ⟨(.u :: .u :: vxi 17 :: (us 58 [])), [.box [(.c (.ro false kP x51 x52)), (.c (.ro false (.pr (.sl kP) .nil) x44 x45))]]⟩
def s13v2 (x44 : Nat) (x45 : FF) (x46 x47 : Int) (x51 : Nat) (x52 : FF) : St := ⟨(.u :: .x (.ptr 0 0) :: (us 22 (.x (.c (.ro false (.pr (.sl kP) .nil) x44 x45)) :: vxi x46 :: vxi x47 :: (us 34 [])))), [.box [(.c (.ro false kP x51 x52)), (.c (.ro false (.pr (.sl kP) .nil) x44 x45))]]⟩
def L13v2 {ρ : Type} (fuel : Nat) (x42 : Nat) (x43 : FF) (x44 : Nat) (x45 : FF) (x46 x47 : Int) (x48 : Nat) (x49 : Int) (x51 : Nat) (x52 : FF) : Nat → Int → (Option ρ) → (Option ρ) → Option ρ
  | 0, _, _, _ => none
  | m + 1, x50, k0, k1 =>
    (bif (decide (x50 < x49)) then (bif (inb x50 x48) then (ob (F36 fuel x42 x43 (CV.len (x45 (Int.toNat x50) 0)) (CV.el (x45 (Int.toNat x50) 0))) fun x53 => (bif (!x53) then k0 else (L13v2 fuel x42 x43 x44 x45 x46 x47 x48 x49 x51 x52 m (w64 (x50 + 1)) k0 k1))) else none) else k1)
theorem nl13v2 {ρ σ : Type} (fuel : Nat) (x42 : Nat) (x43 : FF) (x44 : Nat) (x45 : FF) (x46 x47 : Int) (x48 : Nat) (x49 : Int) (x51 : Nat) (x52 : FF) (g : ρ → Option σ) : ∀ (m : Nat) (x50 : Int) (k0 : Option ρ) (k1 : Option ρ), ob (L13v2 fuel x42 x43 x44 x45 x46 x47 x48 x49 x51 x52 m x50 k0 k1) g = L13v2 fuel x42 x43 x44 x45 x46 x47 x48 x49 x51 x52 m x50 (ob k0 g) (ob k1 g)
  | 0, _, _, _ => rfl
  | m + 1, x50, k0, k1 => by
    simp only [L13v2, ob_bif, ob_ob, ob_none, nl13v2 fuel x42 x43 x44 x45 x46 x47 x48 x49 x51 x52 g m]
theorem r13v2 (fuel : Nat) (m : Nat) {ρ : Type} (k : Ex → St → Option ρ) (x42 : Nat) (x43 : FF) (x44 : Nat) (x45 : FF) (x46 x47 : Int) (x48 : Nat) (x49 : Int) (x51 : Nat) (x52 : FF) (x50 : Int) :
    loopH (B13v2 (C38 fuel) fuel) N13v2 (m + 1) (s13v0 x42 x43 x44 x45 x46 x47 x48 x49 x50 x51 x52) k =
    (bif (decide (x50 < x49)) then (bif (inb x50 x48) then (ob (F36 fuel x42 x43 (CV.len (x45 (Int.toNat x50) 0)) (CV.el (x45 (Int.toNat x50) 0))) fun x53 => (bif (!x53) then (k .ret (s13v1 x51 x52 x44 x45)) else (loopH (B13v2 (C38 fuel) fuel) N13v2 m (s13v0 x42 x43 x44 x45 x46 x47 x48 x49 (w64 (x50 + 1)) x51 x52) k))) else none) else (k (.exit 2) (s13v2 x44 x45 x46 x47 x51 x52))) := by kernel_rfl
theorem q13v2 (fuel : Nat) (x42 : Nat) (x43 : FF) (x44 : Nat) (x45 : FF) (x46 x47 : Int) (x48 : Nat) (x49 : Int) (x51 : Nat) (x52 : FF) {ρ : Type} (k : Ex → St → Option ρ) : ∀ (m : Nat) (x50 : Int),
    loopH (B13v2 (C38 fuel) fuel) N13v2 m (s13v0 x42 x43 x44 x45 x46 x47 x48 x49 x50 x51 x52) k = L13v2 fuel x42 x43 x44 x45 x46 x47 x48 x49 x51 x52 m x50 (k .ret (s13v1 x51 x52 x44 x45)) (k (.exit 2) (s13v2 x44 x45 x46 x47 x51 x52))
  | 0, _ => rfl
  | m + 1, x50 => by
    rw [r13v2]
    simp only [L13v2, q13v2 fuel x42 x43 x44 x45 x46 x47 x48 x49 x51 x52 k m]
def B13v3 (C : Oracle) (fuel : Nat) {ρ : Type} : St → (Ex → St → Option ρ) → Option ρ := fun st k => evalC C fuel A47v8 st k
def N13v3 : St → Option St := fun s => s.norm (0 :: (rl 2 22 (rl 27 34 []))) 1
def s13v3 (x22 : Nat) (x23 : FF) (x24 x25 : Int) (x26 : Nat) (x27 : FF) : St := ⟨(.u :: .x (.ptr 0 0) :: (us 22 (.x (.c (.ro false (.pr (.sl kP) .nil) x22 x23)) :: vxi x24 :: vxi x25 :: (us 34 [])))), [.box [(.c (.ro false kP x26 x27)), (.c (.ro false (.pr (.sl kP) .nil) x22 x23))]]⟩
def s13v4 (x54 : Int) (x26 : Nat) (x27 : FF) (x22 : Nat) (x23 : FF) : St := ⟨(.u :: .u :: vxi x54 :: (us 58 [])), [.box [(.c (.ro false kP x26 x27)), (.c (.ro false (.pr (.sl kP) .nil) x22 x23))]]⟩
def s13v5 (x26 : Nat) (x27 : FF) (x22 : Nat) (x23 : FF) : St := ⟨(us 61 []), [.box [(.c (.ro false kP x26 x27)), (.c (.ro false (.pr (.sl kP) .nil) x22 x23))]]⟩
def L13v3 {ρ : Type} (fuel : Nat) (x22 : Nat) (x23 : FF) (x24 : Int) (x26 : Nat) (x27 : FF) : Nat → Int → (Int → Option ρ) → (Option ρ) → Option ρ
  | 0, _, _, _ => none
  | m + 1, x25, k0, k1 =>
    (bif (decide (x25 < x24)) then (bif (inb x25 x22) then (ob (F33 fuel (CV.len (x23 (Int.toNat x25) 0)) (CV.el (x23 (Int.toNat x25) 0))) fun x28 => (bif (x28 != 0) then (k0 x28) else (ob (F34 fuel (CV.len (x23 (Int.toNat x25) 0)) (CV.el (x23 (Int.toNat x25) 0))) fun x29 => (bif ((decide (x29 ≥ 0)) == false) then (ob (F35 fuel (CV.len (x23 (Int.toNat x25) 0)) (CV.el (x23 (Int.toNat x25) 0)) x26 x27) fun x30 => (bif (!x30) then (k0 17) else (bif (inbe x25 x22) then (L13v2 fuel (CV.len (x23 (Int.toNat x25) 0)) (CV.el (x23 (Int.toNat x25) 0)) x22 x23 x24 x25 ((Int.toNat x25) - 0) (Int.ofNat ((Int.toNat x25) - 0)) x26 x27 fuel 0
    (k0 17)
    (L13v3 fuel x22 x23 x24 x26 x27 m (w64 (x25 + 1)) k0 k1)) else none))) else (k0 17))))) else none) else k1)
theorem nl13v3 {ρ σ : Type} (fuel : Nat) (x22 : Nat) (x23 : FF) (x24 : Int) (x26 : Nat) (x27 : FF) (g : ρ → Option σ) : ∀ (m : Nat) (x25 : Int) (k0 : Int → Option ρ) (k1 : Option ρ), ob (L13v3 fuel x22 x23 x24 x26 x27 m x25 k0 k1) g = L13v3 fuel x22 x23 x24 x26 x27 m x25 (fun x54 => ob (k0 x54) g) (ob k1 g)
  | 0, _, _, _ => rfl
  | m + 1, x25, k0, k1 => by
    simp only [L13v3, ob_bif, ob_ob, ob_none, nl13v3 fuel x22 x23 x24 x26 x27 g m, nl13v2]
def s13v6 (x25 : Int) (x23 : FF) (x22 : Nat) (x24 : Int) (x26 : Nat) (x27 : FF) : St := ⟨(.u :: .x (.ptr 0 0) :: .u :: .u :: vxi x25 :: .x (.c (.ro false kP (CV.len (x23 (Int.toNat x25) 0)) (CV.el (x23 (Int.toNat x25) 0)))) :: (us 18 (.x (.c (.ro false (.pr (.sl kP) .nil) x22 x23)) :: vxi x24 :: vxi x25 :: vxb true :: vxi x25 :: .x (.c (.rp (.pr (.sl kP) .nil) (x23 (Int.toNat x25)))) :: .x (.c (.ro false kP (CV.len (x23 (Int.toNat x25) 0)) (CV.el (x23 (Int.toNat x25) 0)))) :: (us 15 (.x (.ptr 0 1) :: .x (.c (.ro false (.pr (.sl kP) .nil) x22 x23)) :: vxi x25 :: .x (.c (.ro false (.pr (.sl kP) .nil) ((Int.toNat x25) - 0) x23)) :: vxi (Int.ofNat ((Int.toNat x25) - 0)) :: vxi 0 :: (us 9 [])))))), [.box [(.c (.ro false kP x26 x27)), (.c (.ro false (.pr (.sl kP) .nil) x22 x23))]]⟩
theorem r13v3 (fuel : Nat) (m : Nat) {ρ : Type} (k : Ex → St → Option ρ) (x22 : Nat) (x23 : FF) (x24 : Int) (x26 : Nat) (x27 : FF) (x25 : Int) :
    loopH (B13v3 (C38 fuel) fuel) N13v3 (m + 1) (s13v3 x22 x23 x24 x25 x26 x27) k =
    (bif (decide (x25 < x24)) then (bif (inb x25 x22) then (ob (F33 fuel (CV.len (x23 (Int.toNat x25) 0)) (CV.el (x23 (Int.toNat x25) 0))) fun x28 => (bif (x28 != 0) then (k .ret (s13v4 x28 x26 x27 x22 x23)) else (ob (F34 fuel (CV.len (x23 (Int.toNat x25) 0)) (CV.el (x23 (Int.toNat x25) 0))) fun x29 => (bif ((decide (x29 ≥ 0)) == false) then (ob (F35 fuel (CV.len (x23 (Int.toNat x25) 0)) (CV.el (x23 (Int.toNat x25) 0)) x26 x27) fun x30 => (bif (!x30) then (k .ret (s13v4 17 x26 x27 x22 x23)) else (bif (inbe x25 x22) then (loopN (B13v2 (C38 fuel) fuel) N13v2 fuel (s13v6 x25 x23 x22 x24 x26 x27) (kBlk 2 (kBlk 1 (kSeq (C38 fuel) fuel (2 :: 4 :: 5 :: 6 :: 8 :: (rl 28 32 [])) A47v6 (kLoop (B13v3 (C38 fuel) fuel) N13v3 m k))))) else none))) else (k .ret (s13v4 17 x26 x27 x22 x23)))))) else none) else (k (.exit 0) (s13v5 x26 x27 x22 x23))) := by kernel_rfl
theorem t13v1 (fuel : Nat) {ρ : Type} (k : Ex → St → Option ρ) (x25 : Int) (x23 : FF) (x22 : Nat) (x24 : Int) (x26 : Nat) (x27 : FF) :
    loopN (B13v2 (C38 fuel) fuel) N13v2 fuel (s13v6 x25 x23 x22 x24 x26 x27) k =
    L13v2 fuel (CV.len (x23 (Int.toNat x25) 0)) (CV.el (x23 (Int.toNat x25) 0)) x22 x23 x24 x25 ((Int.toNat x25) - 0) (Int.ofNat ((Int.toNat x25) - 0)) x26 x27 fuel 0 (k .ret (s13v1 x26 x27 x22 x23)) (k (.exit 2) (s13v2 x22 x23 x24 x25 x26 x27)) :=
  (loopN_at (st' := (s13v0 (CV.len (x23 (Int.toNat x25) 0)) (CV.el (x23 (Int.toNat x25) 0)) x22 x23 x24 x25 ((Int.toNat x25) - 0) (Int.ofNat ((Int.toNat x25) - 0)) 0 x26 x27)) (by kernel_rfl)).trans (q13v2 fuel (CV.len (x23 (Int.toNat x25) 0)) (CV.el (x23 (Int.toNat x25) 0)) x22 x23 x24 x25 ((Int.toNat x25) - 0) (Int.ofNat ((Int.toNat x25) - 0)) x26 x27 k fuel 0)
theorem g13v2 (fuel : Nat) (m : Nat) {ρ : Type} (k : Ex → St → Option ρ) (x26 : Nat) (x27 : FF) (x22 : Nat) (x23 : FF) :
    (kBlk 2 (kBlk 1 (kSeq (C38 fuel) fuel (2 :: 4 :: 5 :: 6 :: 8 :: (rl 28 32 [])) A47v6 (kLoop (B13v3 (C38 fuel) fuel) N13v3 m k)))) .ret (s13v1 x26 x27 x22 x23) =
    (k .ret (s13v4 17 x26 x27 x22 x23)) := by kernel_rfl
theorem g13v3 (fuel : Nat) (m : Nat) {ρ : Type} (k : Ex → St → Option ρ) (x22 : Nat) (x23 : FF) (x24 x25 : Int) (x26 : Nat) (x27 : FF) :
    (kBlk 2 (kBlk 1 (kSeq (C38 fuel) fuel (2 :: 4 :: 5 :: 6 :: 8 :: (rl 28 32 [])) A47v6 (kLoop (B13v3 (C38 fuel) fuel) N13v3 m k)))) (.exit 2) (s13v2 x22 x23 x24 x25 x26 x27) =
    (loopH (B13v3 (C38 fuel) fuel) N13v3 m (s13v3 x22 x23 x24 (w64 (x25 + 1)) x26 x27) k) := by kernel_rfl
theorem q13v3 (fuel : Nat) (x22 : Nat) (x23 : FF) (x24 : Int) (x26 : Nat) (x27 : FF) {ρ : Type} (k : Ex → St → Option ρ) : ∀ (m : Nat) (x25 : Int),
    loopH (B13v3 (C38 fuel) fuel) N13v3 m (s13v3 x22 x23 x24 x25 x26 x27) k = L13v3 fuel x22 x23 x24 x26 x27 m x25 (fun x54 => k .ret (s13v4 x54 x26 x27 x22 x23)) (k (.exit 0) (s13v5 x26 x27 x22 x23))
  | 0, _ => rfl
  | m + 1, x25 => by
    rw [r13v3]
    simp only [L13v3, q13v3 fuel x22 x23 x24 x26 x27 k m, t13v1, g13v2, g13v3]
def D13 {ρ : Type} (fuel : Nat) (x1 : Nat) (x2 : FF) (x3 : Nat) (x4 : FF) (k : Int → Option ρ) : Option ρ :=
  (bif (decide ((Int.ofNat x3) > 8)) then (k 12) else (ob (F33 fuel x1 x2) fun x5 => (bif (x5 != 0) then (k x5) else (ob (F34 fuel x1 x2) fun x6 => (bif (decide (x6 ≤ 0)) then (k 17) else (L13v3 fuel x3 x4 (Int.ofNat x3) x1 x2 fuel 0
    (fun x55 => (k x55))
    (k 0)))))))
def F13 (fuel : Nat) (x1 : Nat) (x2 : FF) (x3 : Nat) (x4 : FF) : Option (Int) := D13 fuel x1 x2 x3 x4 some
theorem f13 {ρ : Type} (fuel : Nat) (x1 : Nat) (x2 : FF) (x3 : Nat) (x4 : FF) (k : (Int) → Option ρ) : D13 fuel x1 x2 x3 x4 k = ob (F13 fuel x1 x2 x3 x4) k := by
  simp only [F13, D13, ob_bif, ob_ob, ob_none, ob_some, nl13v3]
def s13v7 (x1 : Nat) (x2 : FF) (x3 : Nat) (x4 : FF) : St := ⟨(.agg [(.c (.ro false kP x1 x2)), (.c (.ro false (.pr (.sl kP) .nil) x3 x4))] :: .x (.ptr 0 0) :: .u :: .u :: .undef :: .undef :: .undef :: .undef :: .undef :: (us 14 [.x (.ptr 0 1), .x (.c (.ro false (.pr (.sl kP) .nil) x3 x4)), vxi (Int.ofNat x3), vxi 0, .undef, .undef, .undef, .undef, .undef, .undef, .undef, .undef, .undef, .undef, .undef, .undef, .undef, .undef, .undef, .undef, .undef, .undef, .undef, .undef, .undef, .undef, .undef, .undef, .undef, .undef, .undef, .undef, .undef, .undef, .undef, .undef, .undef, .undef])), [.box [(.c (.ro false kP x1 x2)), (.c (.ro false (.pr (.sl kP) .nil) x3 x4))]]⟩
theorem walk13 (fuel : Nat) (x1 : Nat) (x2 : FF) (x3 : Nat) (x4 : FF) :
    evalF (C38 fuel) fuel A47 [.agg [(.ro false kP x1 x2), (.ro false (.pr (.sl kP) .nil) x3 x4)]] =
    (bif (decide ((Int.ofNat x3) > 8)) then (some [.v (vi 12)]) else (ob (F33 fuel x1 x2) fun x5 => (bif (x5 != 0) then (some [.v (vi x5)]) else (ob (F34 fuel x1 x2) fun x6 => (bif (decide (x6 ≤ 0)) then (some [.v (vi 17)]) else (loopN (B13v3 (C38 fuel) fuel) N13v3 fuel (s13v7 x1 x2 x3 x4) (kBlk 0 (kSeq (C38 fuel) fuel (2 :: 4 :: 5 :: 6 :: 8 :: (rl 23 38 [])) A47v9 (finish A47))))))))) := by kernel_rfl
theorem t13v4 (fuel : Nat) {ρ : Type} (k : Ex → St → Option ρ) (x1 : Nat) (x2 : FF) (x3 : Nat) (x4 : FF) :
    loopN (B13v3 (C38 fuel) fuel) N13v3 fuel (s13v7 x1 x2 x3 x4) k =
    L13v3 fuel x3 x4 (Int.ofNat x3) x1 x2 fuel 0 (fun x54 => k .ret (s13v4 x54 x1 x2 x3 x4)) (k (.exit 0) (s13v5 x1 x2 x3 x4)) :=
  (loopN_at (st' := (s13v3 x3 x4 (Int.ofNat x3) 0 x1 x2)) (by kernel_rfl)).trans (q13v3 fuel x3 x4 (Int.ofNat x3) x1 x2 k fuel 0)
theorem g13v5 (fuel : Nat) (x55 : Int) (x1 : Nat) (x2 : FF) (x3 : Nat) (x4 : FF) :
    (kBlk 0 (kSeq (C38 fuel) fuel (2 :: 4 :: 5 :: 6 :: 8 :: (rl 23 38 [])) A47v9 (finish A47))) .ret (s13v4 x55 x1 x2 x3 x4) =
    (some [.v (vi x55)]) := by kernel_rfl
theorem g13v6 (fuel : Nat) (x1 : Nat) (x2 : FF) (x3 : Nat) (x4 : FF) :
    (kBlk 0 (kSeq (C38 fuel) fuel (2 :: 4 :: 5 :: 6 :: 8 :: (rl 23 38 [])) A47v9 (finish A47))) (.exit 0) (s13v5 x1 x2 x3 x4) =
    (some [.v (vi 0)]) := by kernel_rfl
theorem e13 (fuel : Nat) (x1 : Nat) (x2 : FF) (x3 : Nat) (x4 : FF) : evalF (C38 fuel) fuel A47 [.agg [(.ro false kP x1 x2), (.ro false (.pr (.sl kP) .nil) x3 x4)]] = ob (F13 fuel x1 x2 x3 x4) fun t => some [.v (vi t)] := by
  rw [walk13, ← f13]
  simp only [D13, t13v4, g13v5, g13v6]
def O13 (fuel : Nat) : Ora where
  o := fun args {ρ} K =>
    wc args fun a1 l2 =>
    wagg a1 fun l3 =>
    wdL kP l3 fun y7 y8 l5 =>
    wdL (.pr (.sl kP) .nil) l5 fun y12 y13 l10 =>
    wn l10 <|
    wn l2 <|
    (ob (F13 fuel y7 y8 y12 y13) fun t => K [.v (vi t)])
  nat := fun args {ρ} K => by
    simp only [bind_wagg, bind_wc, bind_wdL, bind_wn, bind_ob, Option.bind_some]
theorem d13 {P : Program} (fuel : Nat) (hmix : P.follows .mixedOrders = true) (hC : Sound P (C38 fuel)) (hF : FFits P 47 A47) (args res : List A) (h : (O13 fuel).o args some = some res) : Den P 47 args res := by
  obtain ⟨a1, l2, rfl, z0⟩ := inv_wc h
  obtain ⟨l3, rfl, z1⟩ := inv_wagg z0
  obtain ⟨a4, y7, y8, l5, rfl, h6, z2⟩ := inv_wdL z1
  obtain ⟨a9, y12, y13, l10, rfl, h11, z3⟩ := inv_wdL z2
  obtain ⟨hn, z4⟩ := inv_wn z3
  cases hn
  obtain ⟨hn, z5⟩ := inv_wn z4
  cases hn
  exact Den.weaken (.cons (WkA.agg (.cons h6 (.cons h11 .nil))) .nil) (evalF_sound hmix hC hF ((e13 fuel y7 y8 y12 y13).trans z5))
def C39 (fuel : Nat) : Oracle := (C38 fuel).add 47 (fun _ => true) (O13 fuel)
def A23 : AF := ⟨17, [.tmp 2],
  (.seq (.region 0 [o1 1 (bx 0 31 0), o1 2 (sb false)] 1 none) []
  (.seq (.region 1 [o1 3 (fa 31 1 2 2), o1 4 (lo 3 3), o1 5 (bk .eql 3 4 1), mv 6 5, og 7 (fa 31 1 11 14) 6 true, og 8 (ln 29 4 7) 6 true, og 9 (cs 18 [8] [29]) 6 true, o1 10 (po 6 9), mv 11 10, og 12 (ln 31 18 1) 11 true, og 13 (cf 28 [12] [31]) 11 true, og 14 (cs 47 [13] [25]) 11 true, og 15 (bk .eql 79 14 0) 11 true, o1 16 (po 11 15), o1 2 (sg 16)] 0 none) []
  (.ret (0 :: 1 :: (rl 3 14 [])))))⟩
def D113 {ρ : Type} (fuel : Nat) (x1 : Nat → CV) (k : Bool → Option ρ) : Option ρ :=
  (bif (((CV.int (x1 2)) == 1) == true) then (ob (F111 fuel (CV.int (x1 14)) (CV.int (x1 15)) (CV.int (x1 16)) (CV.int (x1 17))) fun x2 => (bif (x2 == true) then (ob (F112 fuel (listF (pj kR0 x1))) fun x3 => (ob (F13 fuel x3.1 x3.2.1 x3.2.2.1 x3.2.2.2) fun x4 => (k (x4 == 0)))) else (k false))) else (k false))
def F113 (fuel : Nat) (x1 : Nat → CV) : Option (Bool) := D113 fuel x1 some
theorem f113 {ρ : Type} (fuel : Nat) (x1 : Nat → CV) (k : (Bool) → Option ρ) : D113 fuel x1 k = ob (F113 fuel x1) k := by
  simp only [F113, D113, ob_bif, ob_ob, ob_none, ob_some]
theorem walk113 (fuel : Nat) (x1 : Nat → CV) :
    evalF (C39 fuel) fuel A23 [.agg (pj kR0 x1)] =
    (bif (((CV.int (x1 2)) == 1) == true) then (ob (F111 fuel (CV.int (x1 14)) (CV.int (x1 15)) (CV.int (x1 16)) (CV.int (x1 17))) fun x2 => (bif (x2 == true) then (ob (F112 fuel (listF (pj kR0 x1))) fun x3 => (ob (F13 fuel x3.1 x3.2.1 x3.2.2.1 x3.2.2.2) fun x4 => (some [.v (.b (x4 == 0))]))) else (some [.v (.b false)]))) else (some [.v (.b false)])) := by kernel_rfl
theorem e113 (fuel : Nat) (x1 : Nat → CV) : evalF (C39 fuel) fuel A23 [.agg (pj kR0 x1)] = ob (F113 fuel x1) fun t => some [.v (.b t)] := by
  rw [walk113, ← f113]
  simp only [D113]
def O113 (fuel : Nat) : Ora where
  o := fun args {ρ} K =>
    wc args fun a1 l2 =>
    wrow kR0 a1 fun y3 =>
    wn l2 <|
    (ob (F113 fuel y3) fun t => K [.v (.b t)])
  nat := fun args {ρ} K => by
    simp only [bind_wc, bind_wn, bind_wrow, bind_ob, Option.bind_some]
theorem d113 {P : Program} (fuel : Nat) (hmix : P.follows .mixedOrders = true) (hC : Sound P (C39 fuel)) (hF : FFits P 23 A23) (args res : List A) (h : (O113 fuel).o args some = some res) : Den P 23 args res := by
  obtain ⟨a1, l2, rfl, z0⟩ := inv_wc h
  obtain ⟨y3, h4, z1⟩ := inv_wrow z0
  obtain ⟨hn, z2⟩ := inv_wn z1
  cases hn
  exact Den.weaken (.cons h4 .nil) (evalF_sound hmix hC hF ((e113 fuel y3).trans z2))
def C40 (fuel : Nat) : Oracle := (C39 fuel).add 23 (fun _ => true) (O113 fuel)
def A49v1 : AC := (.seq (.block 1
  (.region 4 [o1 11 (fa 27 2 1 1), o1 12 (lo 3 11), o1 13 (.unOp .neg 3 (tm 12)), o1 14 (fa 27 2 0 0), o1 15 (lo 3 14), o1 16 (fa 27 2 2 2), o1 17 (lo 3 16), o1 18 (.build 27 [vci 0, vci 0, vci 0] [(0, 1), (1, 1), (2, 1)] 0 [(0, (tm 13)), (1, (tm 15)), (2, (tm 17))]), o0 (.store 27 3 (tm 2) (tm 18))] 0 none)) []
  (.region 5 [o1 19 (bk .add 3 9 1), mv 9 19] 0 none))
def A49v2 : AC := (.seq (.region 3 [o1 10 (bt .lss 3 9 8)] 0 none) []
  (.seq (.cond (tm 10)
  .skip
  (.exit 0 (0 :: 3 :: (rl 5 69 [])))) []
  A49v1))
def A49v3 : AC := (.seq (.region 17 [o1 73 (ln 27 3 2), o0 (.store 27 3 (tm 4) (tm 73))] 0 none) []
  (.ret (rl 0 4 (rl 5 69 []))))
def A49v4 : AC := (.seq (.seq (.region 6 [mv 20 1, o1 21 (bk .quo 3 20 4)] 0 none) []
  (.block 2
  (.seq (.region 7 [o1 23 (bk .eql 3 21 1), o1 22 (sg 23)] 0 none) []
    (.cond (tm 22)
    (.seq (.region 8 [o1 24 (fa 27 2 0 0), o1 25 (lo 3 24), o1 26 (fa 27 2 2 2), o1 27 (lo 3 26), o1 28 (.unOp .neg 3 (tm 27)), o1 29 (fa 27 2 1 1), o1 30 (lo 3 29), o1 31 (.build 27 [vci 0, vci 0, vci 0] [(0, 1), (1, 1), (2, 1)] 0 [(0, (tm 25)), (1, (tm 28)), (2, (tm 30))]), o0 (.store 27 3 (tm 4) (tm 31))] 0 none) []
      (.ret (rl 0 4 (rl 5 69 []))))
    (.seq (.region 9 [o1 33 (bk .eql 3 21 2), o1 32 (sg 33)] 0 none) []
      (.cond (tm 32)
      (.seq (.region 10 [o1 34 (fa 27 2 0 0), o1 35 (lo 3 34), o1 36 (fa 27 2 1 1), o1 37 (lo 3 36), o1 38 (.unOp .neg 3 (tm 37)), o1 39 (fa 27 2 2 2), o1 40 (lo 3 39), o1 41 (.unOp .neg 3 (tm 40)), o1 42 (.build 27 [vci 0, vci 0, vci 0] [(0, 1), (1, 1), (2, 1)] 0 [(0, (tm 35)), (1, (tm 38)), (2, (tm 41))]), o0 (.store 27 3 (tm 4) (tm 42))] 0 none) []
        (.ret (rl 0 4 (rl 5 69 []))))
      (.seq (.region 11 [o1 44 (bk .eql 3 21 3), o1 43 (sg 44)] 0 none) []
        (.cond (tm 43)
        (.seq (.region 12 [o1 45 (fa 27 2 0 0), o1 46 (lo 3 45), o1 47 (fa 27 2 2 2), o1 48 (lo 3 47), o1 49 (fa 27 2 1 1), o1 50 (lo 3 49), o1 51 (.unOp .neg 3 (tm 50)), o1 52 (.build 27 [vci 0, vci 0, vci 0] [(0, 1), (1, 1), (2, 1)] 0 [(0, (tm 46)), (1, (tm 48)), (2, (tm 51))]), o0 (.store 27 3 (tm 4) (tm 52))] 0 none) []
          (.ret (rl 0 4 (rl 5 69 []))))
        (.seq (.region 13 [o1 54 (bk .eql 3 21 4), o1 53 (sg 54)] 0 none) []
          (.cond (tm 53)
          (.seq (.region 14 [o1 55 (fa 27 2 2 2), o1 56 (lo 3 55), o1 57 (fa 27 2 1 1), o1 58 (lo 3 57), o1 59 (fa 27 2 0 0), o1 60 (lo 3 59), o1 61 (.unOp .neg 3 (tm 60)), o1 62 (.build 27 [vci 0, vci 0, vci 0] [(0, 1), (1, 1), (2, 1)] 0 [(0, (tm 56)), (1, (tm 58)), (2, (tm 61))]), o0 (.store 27 3 (tm 4) (tm 62))] 0 none) []
            (.ret (rl 0 4 (rl 5 69 []))))
          (.seq (.region 15 [o1 64 (bk .eql 3 21 5), o1 63 (sg 64)] 0 none) []
            (.cond (tm 63)
            (.seq (.region 16 [o1 65 (fa 27 2 2 2), o1 66 (lo 3 65), o1 67 (.unOp .neg 3 (tm 66)), o1 68 (fa 27 2 1 1), o1 69 (lo 3 68), o1 70 (fa 27 2 0 0), o1 71 (lo 3 70), o1 72 (.build 27 [vci 0, vci 0, vci 0] [(0, 1), (1, 1), (2, 1)] 0 [(0, (tm 67)), (1, (tm 69)), (2, (tm 71))]), o0 (.store 27 3 (tm 4) (tm 72))] 0 none) []
              (.ret (rl 0 4 (rl 5 69 []))))
            .skip)))))))))))) (rl 20 53 [])
  A49v3)
def A49 : AF := ⟨74, [.cell 4 27 (some 3)],
  (.seq (.region 0 [o1 2 (bx 0 27 0), o1 4 (.alloc 1 27 [vci 0, vci 0, vci 0])] 2 none) []
  (.seq (.region 1 [mv 5 1, o1 6 (cs 42 [5] [3]), o1 1 (sg 6)] 0 none) []
  (.seq (.seq (.region 2 [mv 7 1, o1 8 (bk .rem 3 7 4), o1 9 (.move (ic 0))] 0 none) []
  (.block 0
  (.loop [] (0 :: 3 :: 5 :: 6 :: 7 :: (rl 10 64 []))
    A49v2))) (rl 7 13 [])
  A49v4)))⟩
def B114v1 (C : Oracle) (fuel : Nat) {ρ : Type} : St → (Ex → St → Option ρ) → Option ρ := fun st k => evalC C fuel A49v2 st k
def N114v1 : St → Option St := fun s => s.norm (0 :: 3 :: 5 :: 6 :: 7 :: (rl 10 64 [])) 2
def s114v0 (x11 x12 x13 x14 x15 x16 : Int) : St := ⟨(.u :: vxi x11 :: .x (.ptr 0 0) :: .u :: .x (.ptr 1 0) :: (us 3 (vxi x12 :: vxi x13 :: (us 64 [])))), [.box [(vci x14), (vci x15), (vci x16)], .box [(vci 0), (vci 0), (vci 0)]]⟩
def s114v1 (x11 x17 x18 x16 : Int) : St := ⟨(.u :: vxi x11 :: .x (.ptr 0 0) :: .u :: .x (.ptr 1 0) :: (us 69 [])), [.box [(vci x17), (vci x18), (vci x16)], .box [(vci 0), (vci 0), (vci 0)]]⟩
def L114v1 {ρ : Type} (fuel : Nat) (x11 x12 x16 : Int) : Nat → Int → Int → Int → (Int → Int → Option ρ) → Option ρ
  | 0, _, _, _, _ => none
  | m + 1, x13, x14, x15, k0 =>
    (bif (decide (x13 < x12)) then (L114v1 fuel x11 x12 x16 m (w64 (x13 + 1)) (w64 (0 - x15)) x14 k0) else (k0 x14 x15))
theorem nl114v1 {ρ σ : Type} (fuel : Nat) (x11 x12 x16 : Int) (g : ρ → Option σ) : ∀ (m : Nat) (x13 x14 x15 : Int) (k0 : Int → Int → Option ρ), ob (L114v1 fuel x11 x12 x16 m x13 x14 x15 k0) g = L114v1 fuel x11 x12 x16 m x13 x14 x15 (fun x17 x18 => ob (k0 x17 x18) g)
  | 0, _, _, _, _ => rfl
  | m + 1, x13, x14, x15, k0 => by
    simp only [L114v1, ob_bif, ob_ob, ob_none, nl114v1 fuel x11 x12 x16 g m]
theorem r114v1 (fuel : Nat) (m : Nat) {ρ : Type} (k : Ex → St → Option ρ) (x11 x12 x16 x13 x14 x15 : Int) :
    loopH (B114v1 (C40 fuel) fuel) N114v1 (m + 1) (s114v0 x11 x12 x13 x14 x15 x16) k =
    (bif (decide (x13 < x12)) then (loopH (B114v1 (C40 fuel) fuel) N114v1 m (s114v0 x11 x12 (w64 (x13 + 1)) (w64 (0 - x15)) x14 x16) k) else (k (.exit 0) (s114v1 x11 x14 x15 x16))) := by kernel_rfl
theorem q114v1 (fuel : Nat) (x11 x12 x16 : Int) {ρ : Type} (k : Ex → St → Option ρ) : ∀ (m : Nat) (x13 x14 x15 : Int),
    loopH (B114v1 (C40 fuel) fuel) N114v1 m (s114v0 x11 x12 x13 x14 x15 x16) k = L114v1 fuel x11 x12 x16 m x13 x14 x15 (fun x17 x18 => k (.exit 0) (s114v1 x11 x17 x18 x16))
  | 0, _, _, _ => rfl
  | m + 1, x13, x14, x15 => by
    rw [r114v1]
    simp only [L114v1, q114v1 fuel x11 x12 x16 k m]
def D114 {ρ : Type} (fuel : Nat) (x1 x2 x3 x4 : Int) (k : (Int × Int × Int) → Option ρ) : Option ρ :=
  (ob (F110 fuel x4) fun x5 => (L114v1 fuel x5 (Int.tmod x5 4) x3 fuel 0 x1 x2
    (fun x19 x20 => (bif ((w64 (Int.tdiv x5 4)) == 1) then (k (x19, (w64 (0 - x3)), x20)) else (bif ((w64 (Int.tdiv x5 4)) == 2) then (k (x19, (w64 (0 - x20)), (w64 (0 - x3)))) else (bif ((w64 (Int.tdiv x5 4)) == 3) then (k (x19, x3, (w64 (0 - x20)))) else (bif ((w64 (Int.tdiv x5 4)) == 4) then (k (x3, x20, (w64 (0 - x19)))) else (bif ((w64 (Int.tdiv x5 4)) == 5) then (k ((w64 (0 - x3)), x20, x19)) else (k (x19, x20, x3))))))))))
def F114 (fuel : Nat) (x1 x2 x3 x4 : Int) : Option (Int × Int × Int) := D114 fuel x1 x2 x3 x4 some
theorem f114 {ρ : Type} (fuel : Nat) (x1 x2 x3 x4 : Int) (k : (Int × Int × Int) → Option ρ) : D114 fuel x1 x2 x3 x4 k = ob (F114 fuel x1 x2 x3 x4) k := by
  simp only [F114, D114, ob_bif, ob_ob, ob_none, ob_some, nl114v1]
def s114v2 (x1 x2 x3 x5 x4 : Int) : St := ⟨[.agg [(vci x1), (vci x2), (vci x3)], vxi x5, .x (.ptr 0 0), .undef, .x (.ptr 1 0), vxi x4, vxi x5, vxi x5, vxi (Int.tmod x5 4), vxi 0, .undef, .undef, .undef, .undef, .undef, .undef, .undef, .undef, .undef, .undef, .undef, .undef, .undef, .undef, .undef, .undef, .undef, .undef, .undef, .undef, .undef, .undef, .undef, .undef, .undef, .undef, .undef, .undef, .undef, .undef, .undef, .undef, .undef, .undef, .undef, .undef, .undef, .undef, .undef, .undef, .undef, .undef, .undef, .undef, .undef, .undef, .undef, .undef, .undef, .undef, .undef, .undef, .undef, .undef, .undef, .undef, .undef, .undef, .undef, .undef, .undef, .undef, .undef, .undef], [.box [(vci x1), (vci x2), (vci x3)], .box [(vci 0), (vci 0), (vci 0)]]⟩
theorem walk114 (fuel : Nat) (x1 x2 x3 x4 : Int) :
    evalF (C40 fuel) fuel A49 [.agg [(vi x1), (vi x2), (vi x3)], .v (vi x4)] =
    (ob (F110 fuel x4) fun x5 => (loopN (B114v1 (C40 fuel) fuel) N114v1 fuel (s114v2 x1 x2 x3 x5 x4) (kBlk 0 (kSeq (C40 fuel) fuel (rl 7 13 []) A49v4 (finish A49))))) := by kernel_rfl
theorem t114v1 (fuel : Nat) {ρ : Type} (k : Ex → St → Option ρ) (x1 x2 x3 x5 x4 : Int) :
    loopN (B114v1 (C40 fuel) fuel) N114v1 fuel (s114v2 x1 x2 x3 x5 x4) k =
    L114v1 fuel x5 (Int.tmod x5 4) x3 fuel 0 x1 x2 (fun x17 x18 => k (.exit 0) (s114v1 x5 x17 x18 x3)) :=
  (loopN_at (st' := (s114v0 x5 (Int.tmod x5 4) 0 x1 x2 x3)) (by kernel_rfl)).trans (q114v1 fuel x5 (Int.tmod x5 4) x3 k fuel 0 x1 x2)
theorem g114v2 (fuel : Nat) (x5 x19 x20 x3 : Int) :
    (kBlk 0 (kSeq (C40 fuel) fuel (rl 7 13 []) A49v4 (finish A49))) (.exit 0) (s114v1 x5 x19 x20 x3) =
    (bif ((w64 (Int.tdiv x5 4)) == 1) then (some [.agg [(vi x19), (vi (w64 (0 - x3))), (vi x20)]]) else (bif ((w64 (Int.tdiv x5 4)) == 2) then (some [.agg [(vi x19), (vi (w64 (0 - x20))), (vi (w64 (0 - x3)))]]) else (bif ((w64 (Int.tdiv x5 4)) == 3) then (some [.agg [(vi x19), (vi x3), (vi (w64 (0 - x20)))]]) else (bif ((w64 (Int.tdiv x5 4)) == 4) then (some [.agg [(vi x3), (vi x20), (vi (w64 (0 - x19)))]]) else (bif ((w64 (Int.tdiv x5 4)) == 5) then (some [.agg [(vi (w64 (0 - x3))), (vi x20), (vi x19)]]) else (some [.agg [(vi x19), (vi x20), (vi x3)]])))))) := by kernel_rfl
theorem e114 (fuel : Nat) (x1 x2 x3 x4 : Int) : evalF (C40 fuel) fuel A49 [.agg [(vi x1), (vi x2), (vi x3)], .v (vi x4)] = ob (F114 fuel x1 x2 x3 x4) fun t => some [.agg [(vi t.1), (vi t.2.1), (vi t.2.2)]] := by
  rw [walk114, ← f114]
  simp only [D114, t114v1, g114v2]
def O114 (fuel : Nat) : Ora where
  o := fun args {ρ} K =>
    wc args fun a1 l2 =>
    wagg a1 fun l3 =>
    wdI .i64 l3 fun y7 l5 =>
    wdI .i64 l5 fun y11 l9 =>
    wdI .i64 l9 fun y15 l13 =>
    wn l13 <|
    wcI .i64 l2 fun y19 l17 =>
    wn l17 <|
    (ob (F114 fuel y7 y11 y15 y19) fun t => K [.agg [(vi t.1), (vi t.2.1), (vi t.2.2)]])
  nat := fun args {ρ} K => by
    simp only [bind_wagg, bind_wc, bind_wcI, bind_wdI, bind_wn, bind_ob, Option.bind_some]
theorem d114 {P : Program} (fuel : Nat) (hmix : P.follows .mixedOrders = true) (hC : Sound P (C40 fuel)) (hF : FFits P 49 A49) (args res : List A) (h : (O114 fuel).o args some = some res) : Den P 49 args res := by
  obtain ⟨a1, l2, rfl, z0⟩ := inv_wc h
  obtain ⟨l3, rfl, z1⟩ := inv_wagg z0
  obtain ⟨a4, y7, l5, rfl, h6, z2⟩ := inv_wdI z1
  obtain ⟨a8, y11, l9, rfl, h10, z3⟩ := inv_wdI z2
  obtain ⟨a12, y15, l13, rfl, h14, z4⟩ := inv_wdI z3
  obtain ⟨hn, z5⟩ := inv_wn z4
  cases hn
  obtain ⟨a16, y19, l17, rfl, h18, z6⟩ := inv_wcI z5
  obtain ⟨hn, z7⟩ := inv_wn z6
  cases hn
  exact Den.weaken (.cons (WkA.agg (.cons h6 (.cons h10 (.cons h14 .nil)))) (.cons h18 .nil)) (evalF_sound hmix hC hF ((e114 fuel y7 y11 y15 y19).trans z7))
def C41 (fuel : Nat) : Oracle := (C40 fuel).add 49 (fun _ => true) (O114 fuel)
def A48v1 : AC := (.region 6 [o1 15 (bk .add 3 4 1), mv 4 15] 0 none)
def A48v2 : AC := (.seq (.block 1
  (.seq (.region 3 [mv 6 4, o1 3 (sg 6)] 0 none) []
    (.seq (.region 4 [o1 7 (.load 27 (some 3) (.global 0)), mv 8 0, o1 9 (cs 49 [7, 8] [27, 3]), mv 10 3, o1 11 (cs 49 [9, 10] [27, 3]), o1 12 (.load 27 (some 3) (.global 0)), o1 13 (.eqA false kV 27 (tm 11) (tm 12) 27)] 0 (some [[], [], [0, 1], [], (rl 0 4 []), [], (rl 0 6 [])])) []
    (.cond (tm 13)
    (.seq (.region 5 [mv 14 3, o1 2 (sg 14)] 0 none) []
      (.ret (0 :: 1 :: (rl 3 13 []))))
    .skip)))) (2 :: 3 :: (rl 6 9 []))
  A48v1)
def A48v3 : AC := (.seq (.region 2 [o1 5 (bk .lss 3 4 24)] 0 none) []
  (.seq (.cond (tm 5)
  .skip
  (.exit 0 (rl 0 16 []))) []
  A48v2))
def A48v4 : AC := (.seq (.region 7 [o1 2 (sk 0)] 0 none) []
  (.ret (0 :: 1 :: (rl 3 13 []))))
def A48 : AF := ⟨16, [.tmp 2],
  (.seq (.region 0 [o1 2 (sk 0)] 0 none) []
  (.seq (.seq (.region 1 [o1 4 (.move (ic 0))] 0 none) []
  (.block 0
  (.loop [] (1 :: 2 :: 3 :: (rl 5 11 []))
    A48v3))) (rl 2 14 [])
  A48v4))⟩
def B115v1 (C : Oracle) (fuel : Nat) {ρ : Type} : St → (Ex → St → Option ρ) → Option ρ := fun st k => evalC C fuel A48v3 st k
def N115v1 : St → Option St := fun s => s.norm (1 :: 2 :: 3 :: (rl 5 11 [])) 0
def s115v0 (x7 x8 : Int) : St := ⟨(vxi x7 :: (us 3 (vxi x8 :: (us 11 [])))), []⟩
def s115v1 (x11 : Int) : St := ⟨(.u :: .u :: vxi x11 :: (us 13 [])), []⟩
def s115v2 : St := ⟨(us 16 []), []⟩
def L115v1 {ρ : Type} (fuel : Nat) (x7 : Int) : Nat → Int → (Int → Option ρ) → (Option ρ) → Option ρ
  | 0, _, _, _ => none
  | m + 1, x8, k0, k1 =>
    (bif (decide (x8 < 24)) then (ob (F114 fuel 1 2 3 x7) fun x9 => (ob (F114 fuel x9.1 x9.2.1 x9.2.2 x8) fun x10 => (bif ((x10.1 == 1) && ((x10.2.1 == 2) && ((x10.2.2 == 3) && true))) then (k0 x8) else (L115v1 fuel x7 m (w64 (x8 + 1)) k0 k1)))) else k1)
theorem nl115v1 {ρ σ : Type} (fuel : Nat) (x7 : Int) (g : ρ → Option σ) : ∀ (m : Nat) (x8 : Int) (k0 : Int → Option ρ) (k1 : Option ρ), ob (L115v1 fuel x7 m x8 k0 k1) g = L115v1 fuel x7 m x8 (fun x11 => ob (k0 x11) g) (ob k1 g)
  | 0, _, _, _ => rfl
  | m + 1, x8, k0, k1 => by
    simp only [L115v1, ob_bif, ob_ob, ob_none, nl115v1 fuel x7 g m]
theorem r115v1 (fuel : Nat) (m : Nat) {ρ : Type} (k : Ex → St → Option ρ) (x7 x8 : Int) :
    loopH (B115v1 (C41 fuel) fuel) N115v1 (m + 1) (s115v0 x7 x8) k =
    (bif (decide (x8 < 24)) then (ob (F114 fuel 1 2 3 x7) fun x9 => (ob (F114 fuel x9.1 x9.2.1 x9.2.2 x8) fun x10 => (bif ((x10.1 == 1) && ((x10.2.1 == 2) && ((x10.2.2 == 3) && true))) then (k .ret (s115v1 x8)) else (loopH (B115v1 (C41 fuel) fuel) N115v1 m (s115v0 x7 (w64 (x8 + 1))) k)))) else (k (.exit 0) s115v2)) := by kernel_rfl
theorem q115v1 (fuel : Nat) (x7 : Int) {ρ : Type} (k : Ex → St → Option ρ) : ∀ (m : Nat) (x8 : Int),
    loopH (B115v1 (C41 fuel) fuel) N115v1 m (s115v0 x7 x8) k = L115v1 fuel x7 m x8 (fun x11 => k .ret (s115v1 x11)) (k (.exit 0) s115v2)
  | 0, _ => rfl
  | m + 1, x8 => by
    rw [r115v1]
    simp only [L115v1, q115v1 fuel x7 k m]
def D115 {ρ : Type} (fuel : Nat) (x1 : Int) (k : Int → Option ρ) : Option ρ :=
  (L115v1 fuel x1 fuel 0
    (fun x12 => (k x12))
    (k 0))
def F115 (fuel : Nat) (x1 : Int) : Option (Int) := D115 fuel x1 some
theorem f115 {ρ : Type} (fuel : Nat) (x1 : Int) (k : (Int) → Option ρ) : D115 fuel x1 k = ob (F115 fuel x1) k := by
  simp only [F115, D115, ob_bif, ob_ob, ob_none, ob_some, nl115v1]
def s115v3 (x1 : Int) : St := ⟨[vxi x1, .undef, vxi 0, .undef, vxi 0, .undef, .undef, .undef, .undef, .undef, .undef, .undef, .undef, .undef, .undef, .undef], []⟩
theorem walk115 (fuel : Nat) (x1 : Int) :
    evalF (C41 fuel) fuel A48 [.v (vi x1)] =
    (loopN (B115v1 (C41 fuel) fuel) N115v1 fuel (s115v3 x1) (kBlk 0 (kSeq (C41 fuel) fuel (rl 2 14 []) A48v4 (finish A48)))) := by kernel_rfl
theorem t115v1 (fuel : Nat) {ρ : Type} (k : Ex → St → Option ρ) (x1 : Int) :
    loopN (B115v1 (C41 fuel) fuel) N115v1 fuel (s115v3 x1) k =
    L115v1 fuel x1 fuel 0 (fun x11 => k .ret (s115v1 x11)) (k (.exit 0) s115v2) :=
  (loopN_at (st' := (s115v0 x1 0)) (by kernel_rfl)).trans (q115v1 fuel x1 k fuel 0)
theorem g115v2 (fuel : Nat) (x12 : Int) :
    (kBlk 0 (kSeq (C41 fuel) fuel (rl 2 14 []) A48v4 (finish A48))) .ret (s115v1 x12) =
    (some [.v (vi x12)]) := by kernel_rfl
theorem g115v3 (fuel : Nat) :
    (kBlk 0 (kSeq (C41 fuel) fuel (rl 2 14 []) A48v4 (finish A48))) (.exit 0) s115v2 =
    (some [.v (vi 0)]) := by kernel_rfl
theorem e115 (fuel : Nat) (x1 : Int) : evalF (C41 fuel) fuel A48 [.v (vi x1)] = ob (F115 fuel x1) fun t => some [.v (vi t)] := by
  rw [walk115, ← f115]
  simp only [D115, t115v1, g115v2, g115v3]
def O115 (fuel : Nat) : Ora where
  o := fun args {ρ} K =>
    wcI .i64 args fun y4 l2 =>
    wn l2 <|
    (ob (F115 fuel y4) fun t => K [.v (vi t)])
  nat := fun args {ρ} K => by
    simp only [bind_wcI, bind_wn, bind_ob, Option.bind_some]
theorem d115 {P : Program} (fuel : Nat) (hmix : P.follows .mixedOrders = true) (hC : Sound P (C41 fuel)) (hF : FFits P 48 A48) (args res : List A) (h : (O115 fuel).o args some = some res) : Den P 48 args res := by
  obtain ⟨a1, y4, l2, rfl, h3, z0⟩ := inv_wcI h
  obtain ⟨hn, z1⟩ := inv_wn z0
  cases hn
  exact Den.weaken (.cons h3 .nil) (evalF_sound hmix hC hF ((e115 fuel y4).trans z1))
def C42 (fuel : Nat) : Oracle := (C41 fuel).add 48 (fun _ => true) (O115 fuel)
def A24v1 : AC := (.seq (.region 3 [o1 9 (fa 29 1 1 3), o1 10 (lo 3 9), o1 11 (cs 48 [10] [3]), o1 3 (sg 11)] 0 none) []
  (.seq (.region 4 [o1 12 (fa 29 1 0 0), o1 13 (ln 27 3 12), o1 14 (cs 50 [13] [27]), mv 15 3, o1 16 (cs 49 [14, 15] [27, 3]), mv 17 3, o1 18 (.build 29 [vci 0, vci 0, vci 0, vci 0] [(0, 3), (3, 1)] 0 [(0, (tm 16)), (1, (tm 17))]), o0 (.store 29 4 (tm 2) (tm 18))] 0 none) []
  (.ret (0 :: 1 :: (rl 3 16 [])))))
def A24 : AF := ⟨19, [.cell 2 29 (some 4)],
  (.seq (.region 0 [o1 1 (bx 0 29 0), o1 2 (.alloc 1 29 [vci 0, vci 0, vci 0, vci 0])] 2 none) []
  (.seq (.seq (.region 1 [o1 4 (fa 29 1 0 0), o1 5 (ln 27 3 4), o1 6 (.call 41 [(tm 5), (ic 1099511627776)] [27, 3] .snap), o1 7 (.unOp .not 4 (tm 6))] 0 none) []
  (.cond (tm 7)
  (.seq (.region 2 [o1 8 (.build 29 [vci 0, vci 0, vci 0, vci 0] [(0, 3), (3, 1)] 0 []), o0 (.store 29 4 (tm 2) (tm 8))] 0 none) []
    (.ret (0 :: 1 :: (rl 3 16 []))))
  .skip)) (rl 4 5 [])
  A24v1))⟩
def D116 {ρ : Type} (fuel : Nat) (x1 x2 x3 x4 : Int) (k : (Int × Int × Int × Int) → Option ρ) : Option ρ :=
  (ob (F105 fuel x1 x2 x3 1099511627776) fun x5 => (bif (!x5) then (k (0, 0, 0, 0)) else (ob (F115 fuel x4) fun x6 => (ob (F106 fuel x1 x2 x3) fun x7 => (ob (F114 fuel x7.1 x7.2.1 x7.2.2 x6) fun x8 => (k (x8.1, x8.2.1, x8.2.2, x6)))))))
def F116 (fuel : Nat) (x1 x2 x3 x4 : Int) : Option (Int × Int × Int × Int) := D116 fuel x1 x2 x3 x4 some
theorem f116 {ρ : Type} (fuel : Nat) (x1 x2 x3 x4 : Int) (k : (Int × Int × Int × Int) → Option ρ) : D116 fuel x1 x2 x3 x4 k = ob (F116 fuel x1 x2 x3 x4) k := by
  simp only [F116, D116, ob_bif, ob_ob, ob_none, ob_some]
theorem walk116 (fuel : Nat) (x1 x2 x3 x4 : Int) :
    evalF (C42 fuel) fuel A24 [.agg [(vi x1), (vi x2), (vi x3), (vi x4)]] =
    (ob (F105 fuel x1 x2 x3 1099511627776) fun x5 => (bif (!x5) then (some [.agg [(vi 0), (vi 0), (vi 0), (vi 0)]]) else (ob (F115 fuel x4) fun x6 => (ob (F106 fuel x1 x2 x3) fun x7 => (ob (F114 fuel x7.1 x7.2.1 x7.2.2 x6) fun x8 => (some [.agg [(vi x8.1), (vi x8.2.1), (vi x8.2.2), (vi x6)]])))))) := by kernel_rfl
theorem e116 (fuel : Nat) (x1 x2 x3 x4 : Int) : evalF (C42 fuel) fuel A24 [.agg [(vi x1), (vi x2), (vi x3), (vi x4)]] = ob (F116 fuel x1 x2 x3 x4) fun t => some [.agg [(vi t.1), (vi t.2.1), (vi t.2.2.1), (vi t.2.2.2)]] := by
  rw [walk116, ← f116]
  simp only [D116]
def O116 (fuel : Nat) : Ora where
  o := fun args {ρ} K =>
    wc args fun a1 l2 =>
    wagg a1 fun l3 =>
    wdI .i64 l3 fun y7 l5 =>
    wdI .i64 l5 fun y11 l9 =>
    wdI .i64 l9 fun y15 l13 =>
    wdI .i64 l13 fun y19 l17 =>
    wn l17 <|
    wn l2 <|
    (ob (F116 fuel y7 y11 y15 y19) fun t => K [.agg [(vi t.1), (vi t.2.1), (vi t.2.2.1), (vi t.2.2.2)]])
  nat := fun args {ρ} K => by
    simp only [bind_wagg, bind_wc, bind_wdI, bind_wn, bind_ob, Option.bind_some]
theorem d116 {P : Program} (fuel : Nat) (hmix : P.follows .mixedOrders = true) (hC : Sound P (C42 fuel)) (hF : FFits P 24 A24) (args res : List A) (h : (O116 fuel).o args some = some res) : Den P 24 args res := by
  obtain ⟨a1, l2, rfl, z0⟩ := inv_wc h
  obtain ⟨l3, rfl, z1⟩ := inv_wagg z0
  obtain ⟨a4, y7, l5, rfl, h6, z2⟩ := inv_wdI z1
  obtain ⟨a8, y11, l9, rfl, h10, z3⟩ := inv_wdI z2
  obtain ⟨a12, y15, l13, rfl, h14, z4⟩ := inv_wdI z3
  obtain ⟨a16, y19, l17, rfl, h18, z5⟩ := inv_wdI z4
  obtain ⟨hn, z6⟩ := inv_wn z5
  cases hn
  obtain ⟨hn, z7⟩ := inv_wn z6
  cases hn
  exact Den.weaken (.cons (WkA.agg (.cons h6 (.cons h10 (.cons h14 (.cons h18 .nil))))) .nil) (evalF_sound hmix hC hF ((e116 fuel y7 y11 y15 y19).trans z7))
def C43 (fuel : Nat) : Oracle := (C42 fuel).add 24 (fun _ => true) (O116 fuel)
def A26v1 : AC := (.seq (.region 3 [o1 15 (ln 27 3 3), o1 16 (fa 29 2 1 3), o1 17 (lo 3 16), o1 18 (cs 49 [15, 17] [27, 3]), o1 19 (fa 29 2 0 0), o1 20 (ln 27 3 19), o1 21 (cs 43 [18, 20] [27, 27]), o0 (.store 27 3 (tm 4) (tm 21))] 0 (some [[], [], [1], [0, 1, 2], [], [4], (rl 0 6 []), (rl 0 7 [])])) []
  (.ret (rl 0 4 (rl 5 17 []))))
def A26 : AF := ⟨22, [.cell 4 27 (some 3)],
  (.seq (.region 0 [o1 2 (bx 0 29 0), o1 3 (bx 1 27 1), o1 4 (.alloc 2 27 [vci 0, vci 0, vci 0])] 3 none) []
  (.seq (.seq (.region 1 [o1 5 (fa 29 2 0 0), o1 6 (ln 27 3 5), o1 7 (.call 41 [(tm 6), (ic 1099511627776)] [27, 3] .snap), o1 8 (.unOp .not 4 (tm 7)), mv 9 8, og 10 (ln 27 3 3) 9 false, og 11 (.call 41 [(tm 10), (ic 1099511627776)] [27, 3] .snap) 9 false, og 12 (.unOp .not 4 (tm 11)) 9 false, o1 13 (pa 9 12)] 0 none) []
  (.cond (tm 13)
  (.seq (.region 2 [o1 14 (.build 27 [vci 0, vci 0, vci 0] [(0, 1), (1, 1), (2, 1)] 0 []), o0 (.store 27 3 (tm 4) (tm 14))] 0 none) []
    (.ret (rl 0 4 (rl 5 17 []))))
  .skip)) (rl 5 10 [])
  A26v1))⟩
def D117 {ρ : Type} (fuel : Nat) (x1 x2 x3 x4 x5 x6 x7 : Int) (k : (Int × Int × Int) → Option ρ) : Option ρ :=
  (ob (F105 fuel x1 x2 x3 1099511627776) fun x8 => (bif ((!x8) == false) then (ob (F105 fuel x5 x6 x7 1099511627776) fun x9 => (bif (!x9) then (k (0, 0, 0)) else (ob (F114 fuel x5 x6 x7 x4) fun x12 => (ob (F107 fuel x12.1 x12.2.1 x12.2.2 x1 x2 x3) fun x13 => (k (x13.1, x13.2.1, x13.2.2)))))) else (k (0, 0, 0))))
def F117 (fuel : Nat) (x1 x2 x3 x4 x5 x6 x7 : Int) : Option (Int × Int × Int) := D117 fuel x1 x2 x3 x4 x5 x6 x7 some
theorem f117 {ρ : Type} (fuel : Nat) (x1 x2 x3 x4 x5 x6 x7 : Int) (k : (Int × Int × Int) → Option ρ) : D117 fuel x1 x2 x3 x4 x5 x6 x7 k = ob (F117 fuel x1 x2 x3 x4 x5 x6 x7) k := by
  simp only [F117, D117, ob_bif, ob_ob, ob_none, ob_some]
theorem walk117 (fuel : Nat) (x1 x2 x3 x4 x5 x6 x7 : Int) :
    evalF (C43 fuel) fuel A26 [.agg [(vi x1), (vi x2), (vi x3), (vi x4)], .agg [(vi x5), (vi x6), (vi x7)]] =
    (ob (F105 fuel x1 x2 x3 1099511627776) fun x8 => (bif ((!x8) == false) then (ob (F105 fuel x5 x6 x7 1099511627776) fun x9 => (bif (!x9) then (some [.agg [(vi 0), (vi 0), (vi 0)]]) else (ob (F114 fuel x5 x6 x7 x4) fun x12 => (ob (F107 fuel x12.1 x12.2.1 x12.2.2 x1 x2 x3) fun x13 => (some [.agg [(vi x13.1), (vi x13.2.1), (vi x13.2.2)]]))))) else (some [.agg [(vi 0), (vi 0), (vi 0)]]))) := by kernel_rfl
theorem e117 (fuel : Nat) (x1 x2 x3 x4 x5 x6 x7 : Int) : evalF (C43 fuel) fuel A26 [.agg [(vi x1), (vi x2), (vi x3), (vi x4)], .agg [(vi x5), (vi x6), (vi x7)]] = ob (F117 fuel x1 x2 x3 x4 x5 x6 x7) fun t => some [.agg [(vi t.1), (vi t.2.1), (vi t.2.2)]] := by
  rw [walk117, ← f117]
  simp only [D117]
def O117 (fuel : Nat) : Ora where
  o := fun args {ρ} K =>
    wc args fun a1 l2 =>
    wagg a1 fun l3 =>
    wdI .i64 l3 fun y7 l5 =>
    wdI .i64 l5 fun y11 l9 =>
    wdI .i64 l9 fun y15 l13 =>
    wdI .i64 l13 fun y19 l17 =>
    wn l17 <|
    wc l2 fun a20 l21 =>
    wagg a20 fun l22 =>
    wdI .i64 l22 fun y26 l24 =>
    wdI .i64 l24 fun y30 l28 =>
    wdI .i64 l28 fun y34 l32 =>
    wn l32 <|
    wn l21 <|
    (ob (F117 fuel y7 y11 y15 y19 y26 y30 y34) fun t => K [.agg [(vi t.1), (vi t.2.1), (vi t.2.2)]])
  nat := fun args {ρ} K => by
    simp only [bind_wagg, bind_wc, bind_wdI, bind_wn, bind_ob, Option.bind_some]
theorem d117 {P : Program} (fuel : Nat) (hmix : P.follows .mixedOrders = true) (hC : Sound P (C43 fuel)) (hF : FFits P 26 A26) (args res : List A) (h : (O117 fuel).o args some = some res) : Den P 26 args res := by
  obtain ⟨a1, l2, rfl, z0⟩ := inv_wc h
  obtain ⟨l3, rfl, z1⟩ := inv_wagg z0
  obtain ⟨a4, y7, l5, rfl, h6, z2⟩ := inv_wdI z1
  obtain ⟨a8, y11, l9, rfl, h10, z3⟩ := inv_wdI z2
  obtain ⟨a12, y15, l13, rfl, h14, z4⟩ := inv_wdI z3
  obtain ⟨a16, y19, l17, rfl, h18, z5⟩ := inv_wdI z4
  obtain ⟨hn, z6⟩ := inv_wn z5
  cases hn
  obtain ⟨a20, l21, rfl, z7⟩ := inv_wc z6
  obtain ⟨l22, rfl, z8⟩ := inv_wagg z7
  obtain ⟨a23, y26, l24, rfl, h25, z9⟩ := inv_wdI z8
  obtain ⟨a27, y30, l28, rfl, h29, z10⟩ := inv_wdI z9
  obtain ⟨a31, y34, l32, rfl, h33, z11⟩ := inv_wdI z10
  obtain ⟨hn, z12⟩ := inv_wn z11
  cases hn
  obtain ⟨hn, z13⟩ := inv_wn z12
  cases hn
  exact Den.weaken (.cons (WkA.agg (.cons h6 (.cons h10 (.cons h14 (.cons h18 .nil))))) (.cons (WkA.agg (.cons h25 (.cons h29 (.cons h33 .nil)))) .nil)) (evalF_sound hmix hC hF ((e117 fuel y7 y11 y15 y19 y26 y30 y34).trans z13))
def C44 (fuel : Nat) : Oracle := (C43 fuel).add 26 (fun _ => true) (O117 fuel)
def A25 : AF := ⟨11, [.cell 4 27 (some 3)],
  (.seq (.region 0 [o1 4 (.alloc 0 27 [vci 0, vci 0, vci 0])] 1 none) []
  (.seq (.region 1 [o1 5 (ln 29 4 1), o1 6 (lo 32 2), mv 7 0, o1 8 (.indexAddr 32 27 3 (tm 6) (tm 7)), o1 9 (ln 27 3 8), o1 10 (cs 26 [5, 9] [29, 27]), o0 (.store 27 3 (tm 4) (tm 10))] 0 (some [[], [], [], [1, 2], [1, 2, 3], (rl 0 5 []), (rl 0 6 [])])) []
  (.ret (rl 0 4 (rl 5 6 [])))))⟩
def D118 {ρ : Type} (fuel : Nat) (x1 : Int) (x2 x3 : Nat → CV) (k : (Int × Int × Int) → Option ρ) : Option ρ :=
  (bif (inb x1 (CV.len (x3 0))) then (ob (F117 fuel (CV.int (x2 0)) (CV.int (x2 1)) (CV.int (x2 2)) (CV.int (x2 3)) (CV.int ((CV.el (x3 0)) (Int.toNat x1) 0)) (CV.int ((CV.el (x3 0)) (Int.toNat x1) 1)) (CV.int ((CV.el (x3 0)) (Int.toNat x1) 2))) fun x5 => (k (x5.1, x5.2.1, x5.2.2))) else none)
def F118 (fuel : Nat) (x1 : Int) (x2 x3 : Nat → CV) : Option (Int × Int × Int) := D118 fuel x1 x2 x3 some
theorem f118 {ρ : Type} (fuel : Nat) (x1 : Int) (x2 x3 : Nat → CV) (k : (Int × Int × Int) → Option ρ) : D118 fuel x1 x2 x3 k = ob (F118 fuel x1 x2 x3) k := by
  simp only [F118, D118, ob_bif, ob_ob, ob_none, ob_some]
theorem walk118 (fuel : Nat) (x1 : Int) (x2 x3 : Nat → CV) :
    evalF (C44 fuel) fuel A25 [.v (vi x1), .v (.rp (.pr (.int .i64) kV) x2), .v (.rp (.pr (.sl kV) .nil) x3)] =
    (bif (inb x1 (CV.len (x3 0))) then (ob (F117 fuel (CV.int (x2 0)) (CV.int (x2 1)) (CV.int (x2 2)) (CV.int (x2 3)) (CV.int ((CV.el (x3 0)) (Int.toNat x1) 0)) (CV.int ((CV.el (x3 0)) (Int.toNat x1) 1)) (CV.int ((CV.el (x3 0)) (Int.toNat x1) 2))) fun x5 => (some [.agg [(vi x5.1), (vi x5.2.1), (vi x5.2.2)]])) else none) := by kernel_rfl
theorem e118 (fuel : Nat) (x1 : Int) (x2 x3 : Nat → CV) : evalF (C44 fuel) fuel A25 [.v (vi x1), .v (.rp (.pr (.int .i64) kV) x2), .v (.rp (.pr (.sl kV) .nil) x3)] = ob (F118 fuel x1 x2 x3) fun t => some [.agg [(vi t.1), (vi t.2.1), (vi t.2.2)]] := by
  rw [walk118, ← f118]
  simp only [D118]
def O118 (fuel : Nat) : Ora where
  o := fun args {ρ} K =>
    wcI .i64 args fun y4 l2 =>
    wc l2 fun a5 l6 =>
    wv a5 fun c7 =>
    wP (.pr (.int .i64) kV) c7 fun y8 =>
    wc l6 fun a10 l11 =>
    wv a10 fun c12 =>
    wP (.pr (.sl kV) .nil) c12 fun y13 =>
    wn l11 <|
    (ob (F118 fuel y4 y8 y13) fun t => K [.agg [(vi t.1), (vi t.2.1), (vi t.2.2)]])
  nat := fun args {ρ} K => by
    simp only [bind_wP, bind_wc, bind_wcI, bind_wn, bind_wv, bind_ob, Option.bind_some]
theorem d118 {P : Program} (fuel : Nat) (hmix : P.follows .mixedOrders = true) (hC : Sound P (C44 fuel)) (hF : FFits P 25 A25) (args res : List A) (h : (O118 fuel).o args some = some res) : Den P 25 args res := by
  obtain ⟨a1, y4, l2, rfl, h3, z0⟩ := inv_wcI h
  obtain ⟨a5, l6, rfl, z1⟩ := inv_wc z0
  obtain ⟨c7, rfl, z2⟩ := inv_wv z1
  obtain ⟨y8, h9, z3⟩ := inv_wP z2
  obtain ⟨a10, l11, rfl, z4⟩ := inv_wc z3
  obtain ⟨c12, rfl, z5⟩ := inv_wv z4
  obtain ⟨y13, h14, z6⟩ := inv_wP z5
  obtain ⟨hn, z7⟩ := inv_wn z6
  cases hn
  exact Den.weaken (.cons h3 (.cons (WkA.v (wk_rp h9)) (.cons (WkA.v (wk_rp h14)) .nil))) (evalF_sound hmix hC hF ((e118 fuel y4 y8 y13).trans z7))
def C45 (fuel : Nat) : Oracle := (C44 fuel).add 25 (fun _ => true) (O118 fuel)
def A51v1 : AC := (.region 10 [o1 30 (bk .add 3 19 1), mv 19 30] 0 none)
def A51v2 : AC := (.seq (.block 1
  (.seq (.region 6 [o1 21 (.indexAddr 23 22 1 (tm 17) (tm 19)), o1 22 (lo 22 21), o1 7 (sg 22)] 0 none) []
    (.seq (.region 7 [mv 23 7, o1 24 (ln 40 2 3), o1 25 (cs 74 [23, 24] [22, 40]), o1 8 (sg 25)] 0 none) []
    (.seq (.region 8 [mv 26 8, o1 27 (bk .geq 3 26 0)] 0 none) []
    (.cond (tm 27)
    (.seq (.region 9 [mv 28 8, o1 29 (.unOp .neg 3 (tm 28)), o1 4 (sg 29)] 0 none) []
      (.ret (rl 0 4 (rl 5 26 []))))
    .skip))))) (4 :: 7 :: 8 :: (rl 21 9 []))
  A51v1)
def A51v3 : AC := (.seq (.region 5 [o1 20 (bt .lss 3 19 18)] 0 none) []
  (.seq (.cond (tm 20)
  .skip
  (.exit 0 (rl 0 31 []))) []
  A51v2))
def A51v4 : AC := (.seq (.region 11 [o1 4 (sk 1)] 0 none) []
  (.ret (rl 0 4 (rl 5 26 []))))
def A51v5 : AC := (.seq (.seq (.region 4 [o1 16 (fa 25 2 1 1), o1 17 (lo 23 16), o1 18 (.len 23 false (tm 17)), o1 19 (.move (ic 0))] 0 none) []
  (.block 0
  (.loop [] (0 :: 1 :: 2 :: (rl 4 13 (rl 20 11 [])))
    A51v3))) (4 :: 7 :: 8 :: (rl 16 15 []))
  A51v4)
def A51 : AF := ⟨31, [.tmp 4],
  (.seq (.region 0 [o1 2 (bx 0 25 0), o1 3 (bx 1 40 1), o1 4 (sk 0)] 2 none) []
  (.seq (.seq (.region 1 [o1 9 (fa 25 2 0 0), o1 10 (lo 22 9), o1 11 (ln 40 2 3), o1 12 (cs 74 [10, 11] [22, 40]), o1 5 (sg 12)] 0 none) []
  (.seq (.region 2 [mv 13 5, o1 14 (bk .leq 3 13 0)] 0 none) []
  (.cond (tm 14)
  (.seq (.region 3 [mv 15 5, o1 4 (sg 15)] 0 none) []
    (.ret (rl 0 4 (rl 5 26 []))))
  .skip))) (4 :: 5 :: (rl 9 7 []))
  A51v5))⟩
def B47v1 (C : Oracle) (fuel : Nat) {ρ : Type} : St → (Ex → St → Option ρ) → Option ρ := fun st k => evalC C fuel A51v3 st k
def N47v1 : St → Option St := fun s => s.norm (0 :: 1 :: 2 :: (rl 4 13 (rl 20 11 []))) 2
def s47v0 (x16 : Nat) (x17 : FF) (x18 x19 : Int) (x20 : Nat) (x21 : FF) (x22 x23 : Int) : St := ⟨(us 3 (.x (.ptr 1 0) :: (us 13 (.x (.c (.ro false (.pr (.sl kP) .nil) x16 x17)) :: vxi x18 :: vxi x19 :: (us 11 []))))), [.box [(.c (.ro false kP x20 x21)), (.c (.ro false (.pr (.sl kP) .nil) x16 x17))], .box [(vci x22), (vci x23)]]⟩
def s47v1 (x25 : Int) (x20 : Nat) (x21 : FF) (x16 : Nat) (x17 : FF) (x22 x23 : Int) : St := ⟨(us 4 (vxi x25 :: (us 26 []))), [.box [(.c (.ro false kP x20 x21)), (.c (.ro false (.pr (.sl kP) .nil) x16 x17))], .box [(vci x22), (vci x23)]]⟩
def s47v2 (x20 : Nat) (x21 : FF) (x16 : Nat) (x17 : FF) (x22 x23 : Int) : St := ⟨(us 31 []), [.box [(.c (.ro false kP x20 x21)), (.c (.ro false (.pr (.sl kP) .nil) x16 x17))], .box [(vci x22), (vci x23)]]⟩
def L47v1 {ρ : Type} (fuel : Nat) (x16 : Nat) (x17 : FF) (x18 : Int) (x20 : Nat) (x21 : FF) (x22 x23 : Int) : Nat → Int → (Int → Option ρ) → (Option ρ) → Option ρ
  | 0, _, _, _ => none
  | m + 1, x19, k0, k1 =>
    (bif (decide (x19 < x18)) then (bif (inb x19 x16) then (ob (F65 fuel (CV.len (x17 (Int.toNat x19) 0)) (CV.el (x17 (Int.toNat x19) 0)) x22 x23) fun x24 => (bif (decide (x24 ≥ 0)) then (k0 (w64 (0 - x24))) else (L47v1 fuel x16 x17 x18 x20 x21 x22 x23 m (w64 (x19 + 1)) k0 k1))) else none) else k1)
theorem nl47v1 {ρ σ : Type} (fuel : Nat) (x16 : Nat) (x17 : FF) (x18 : Int) (x20 : Nat) (x21 : FF) (x22 x23 : Int) (g : ρ → Option σ) : ∀ (m : Nat) (x19 : Int) (k0 : Int → Option ρ) (k1 : Option ρ), ob (L47v1 fuel x16 x17 x18 x20 x21 x22 x23 m x19 k0 k1) g = L47v1 fuel x16 x17 x18 x20 x21 x22 x23 m x19 (fun x25 => ob (k0 x25) g) (ob k1 g)
  | 0, _, _, _ => rfl
  | m + 1, x19, k0, k1 => by
    simp only [L47v1, ob_bif, ob_ob, ob_none, nl47v1 fuel x16 x17 x18 x20 x21 x22 x23 g m]
theorem r47v1 (fuel : Nat) (m : Nat) {ρ : Type} (k : Ex → St → Option ρ) (x16 : Nat) (x17 : FF) (x18 : Int) (x20 : Nat) (x21 : FF) (x22 x23 x19 : Int) :
    loopH (B47v1 (C45 fuel) fuel) N47v1 (m + 1) (s47v0 x16 x17 x18 x19 x20 x21 x22 x23) k =
    (bif (decide (x19 < x18)) then (bif (inb x19 x16) then (ob (F65 fuel (CV.len (x17 (Int.toNat x19) 0)) (CV.el (x17 (Int.toNat x19) 0)) x22 x23) fun x24 => (bif (decide (x24 ≥ 0)) then (k .ret (s47v1 (w64 (0 - x24)) x20 x21 x16 x17 x22 x23)) else (loopH (B47v1 (C45 fuel) fuel) N47v1 m (s47v0 x16 x17 x18 (w64 (x19 + 1)) x20 x21 x22 x23) k))) else none) else (k (.exit 0) (s47v2 x20 x21 x16 x17 x22 x23))) := by kernel_rfl
theorem q47v1 (fuel : Nat) (x16 : Nat) (x17 : FF) (x18 : Int) (x20 : Nat) (x21 : FF) (x22 x23 : Int) {ρ : Type} (k : Ex → St → Option ρ) : ∀ (m : Nat) (x19 : Int),
    loopH (B47v1 (C45 fuel) fuel) N47v1 m (s47v0 x16 x17 x18 x19 x20 x21 x22 x23) k = L47v1 fuel x16 x17 x18 x20 x21 x22 x23 m x19 (fun x25 => k .ret (s47v1 x25 x20 x21 x16 x17 x22 x23)) (k (.exit 0) (s47v2 x20 x21 x16 x17 x22 x23))
  | 0, _ => rfl
  | m + 1, x19 => by
    rw [r47v1]
    simp only [L47v1, q47v1 fuel x16 x17 x18 x20 x21 x22 x23 k m]
def D47 {ρ : Type} (fuel : Nat) (x1 : Nat) (x2 : FF) (x3 : Nat) (x4 : FF) (x5 x6 : Int) (k : Int → Option ρ) : Option ρ :=
  (ob (F65 fuel x1 x2 x5 x6) fun x7 => (bif (decide (x7 ≤ 0)) then (k x7) else (L47v1 fuel x3 x4 (Int.ofNat x3) x1 x2 x5 x6 fuel 0
    (fun x26 => (k x26))
    (k 1))))
def F47 (fuel : Nat) (x1 : Nat) (x2 : FF) (x3 : Nat) (x4 : FF) (x5 x6 : Int) : Option (Int) := D47 fuel x1 x2 x3 x4 x5 x6 some
theorem f47 {ρ : Type} (fuel : Nat) (x1 : Nat) (x2 : FF) (x3 : Nat) (x4 : FF) (x5 x6 : Int) (k : (Int) → Option ρ) : D47 fuel x1 x2 x3 x4 x5 x6 k = ob (F47 fuel x1 x2 x3 x4 x5 x6) k := by
  simp only [F47, D47, ob_bif, ob_ob, ob_none, ob_some, nl47v1]
def s47v3 (x1 : Nat) (x2 : FF) (x3 : Nat) (x4 : FF) (x5 x6 : Int) : St := ⟨(.agg [(.c (.ro false kP x1 x2)), (.c (.ro false (.pr (.sl kP) .nil) x3 x4))] :: .agg [(vci x5), (vci x6)] :: .x (.ptr 0 0) :: .x (.ptr 1 0) :: .u :: .u :: .undef :: .undef :: .undef :: (us 7 [.x (.ptr 0 1), .x (.c (.ro false (.pr (.sl kP) .nil) x3 x4)), vxi (Int.ofNat x3), vxi 0, .undef, .undef, .undef, .undef, .undef, .undef, .undef, .undef, .undef, .undef, .undef])), [.box [(.c (.ro false kP x1 x2)), (.c (.ro false (.pr (.sl kP) .nil) x3 x4))], .box [(vci x5), (vci x6)]]⟩
theorem walk47 (fuel : Nat) (x1 : Nat) (x2 : FF) (x3 : Nat) (x4 : FF) (x5 x6 : Int) :
    evalF (C45 fuel) fuel A51 [.agg [(.ro false kP x1 x2), (.ro false (.pr (.sl kP) .nil) x3 x4)], .agg [(vi x5), (vi x6)]] =
    (ob (F65 fuel x1 x2 x5 x6) fun x7 => (bif (decide (x7 ≤ 0)) then (some [.v (vi x7)]) else (loopN (B47v1 (C45 fuel) fuel) N47v1 fuel (s47v3 x1 x2 x3 x4 x5 x6) (kBlk 0 (kSeq (C45 fuel) fuel (4 :: 7 :: 8 :: (rl 16 15 [])) A51v4 (finish A51)))))) := by kernel_rfl
theorem t47v1 (fuel : Nat) {ρ : Type} (k : Ex → St → Option ρ) (x1 : Nat) (x2 : FF) (x3 : Nat) (x4 : FF) (x5 x6 : Int) :
    loopN (B47v1 (C45 fuel) fuel) N47v1 fuel (s47v3 x1 x2 x3 x4 x5 x6) k =
    L47v1 fuel x3 x4 (Int.ofNat x3) x1 x2 x5 x6 fuel 0 (fun x25 => k .ret (s47v1 x25 x1 x2 x3 x4 x5 x6)) (k (.exit 0) (s47v2 x1 x2 x3 x4 x5 x6)) :=
  (loopN_at (st' := (s47v0 x3 x4 (Int.ofNat x3) 0 x1 x2 x5 x6)) (by kernel_rfl)).trans (q47v1 fuel x3 x4 (Int.ofNat x3) x1 x2 x5 x6 k fuel 0)
theorem g47v2 (fuel : Nat) (x26 : Int) (x1 : Nat) (x2 : FF) (x3 : Nat) (x4 : FF) (x5 x6 : Int) :
    (kBlk 0 (kSeq (C45 fuel) fuel (4 :: 7 :: 8 :: (rl 16 15 [])) A51v4 (finish A51))) .ret (s47v1 x26 x1 x2 x3 x4 x5 x6) =
    (some [.v (vi x26)]) := by kernel_rfl
theorem g47v3 (fuel : Nat) (x1 : Nat) (x2 : FF) (x3 : Nat) (x4 : FF) (x5 x6 : Int) :
    (kBlk 0 (kSeq (C45 fuel) fuel (4 :: 7 :: 8 :: (rl 16 15 [])) A51v4 (finish A51))) (.exit 0) (s47v2 x1 x2 x3 x4 x5 x6) =
    (some [.v (vi 1)]) := by kernel_rfl
theorem e47 (fuel : Nat) (x1 : Nat) (x2 : FF) (x3 : Nat) (x4 : FF) (x5 x6 : Int) : evalF (C45 fuel) fuel A51 [.agg [(.ro false kP x1 x2), (.ro false (.pr (.sl kP) .nil) x3 x4)], .agg [(vi x5), (vi x6)]] = ob (F47 fuel x1 x2 x3 x4 x5 x6) fun t => some [.v (vi t)] := by
  rw [walk47, ← f47]
  simp only [D47, t47v1, g47v2, g47v3]
def O47 (fuel : Nat) : Ora where
  o := fun args {ρ} K =>
    wc args fun a1 l2 =>
    wagg a1 fun l3 =>
    wdL kP l3 fun y7 y8 l5 =>
    wdL (.pr (.sl kP) .nil) l5 fun y12 y13 l10 =>
    wn l10 <|
    wc l2 fun a14 l15 =>
    wagg a14 fun l16 =>
    wdI .i64 l16 fun y20 l18 =>
    wdI .i64 l18 fun y24 l22 =>
    wn l22 <|
    wn l15 <|
    (ob (F47 fuel y7 y8 y12 y13 y20 y24) fun t => K [.v (vi t)])
  nat := fun args {ρ} K => by
    simp only [bind_wagg, bind_wc, bind_wdI, bind_wdL, bind_wn, bind_ob, Option.bind_some]
theorem d47 {P : Program} (fuel : Nat) (hmix : P.follows .mixedOrders = true) (hC : Sound P (C45 fuel)) (hF : FFits P 51 A51) (args res : List A) (h : (O47 fuel).o args some = some res) : Den P 51 args res := by
  obtain ⟨a1, l2, rfl, z0⟩ := inv_wc h
  obtain ⟨l3, rfl, z1⟩ := inv_wagg z0
  obtain ⟨a4, y7, y8, l5, rfl, h6, z2⟩ := inv_wdL z1
  obtain ⟨a9, y12, y13, l10, rfl, h11, z3⟩ := inv_wdL z2
  obtain ⟨hn, z4⟩ := inv_wn z3
  cases hn
  obtain ⟨a14, l15, rfl, z5⟩ := inv_wc z4
  obtain ⟨l16, rfl, z6⟩ := inv_wagg z5
  obtain ⟨a17, y20, l18, rfl, h19, z7⟩ := inv_wdI z6
  obtain ⟨a21, y24, l22, rfl, h23, z8⟩ := inv_wdI z7
  obtain ⟨hn, z9⟩ := inv_wn z8
  cases hn
  obtain ⟨hn, z10⟩ := inv_wn z9
  cases hn
  exact Den.weaken (.cons (WkA.agg (.cons h6 (.cons h11 .nil))) (.cons (WkA.agg (.cons h19 (.cons h23 .nil))) .nil)) (evalF_sound hmix hC hF ((e47 fuel y7 y8 y12 y13 y20 y24).trans z10))
def C46 (fuel : Nat) : Oracle := (C45 fuel).add 51 (fun _ => true) (O47 fuel)
def A27v1 : AC := (.seq (.region 3 [o1 8 (ln 25 2 2), o1 9 (ln 40 2 3), o1 10 (cs 51 [8, 9] [25, 40]), o1 4 (sg 10)] 0 none) []
  (.ret (rl 0 4 (rl 5 6 []))))
def A27 : AF := ⟨11, [.tmp 4],
  (.seq (.region 0 [o1 2 (bx 0 25 0), o1 3 (bx 1 40 1), o1 4 (sk 0)] 2 none) []
  (.seq (.seq (.region 1 [o1 5 (ln 25 2 2), o1 6 (cs 47 [5] [25]), o1 7 (bk .neq 79 6 0)] 0 none) []
  (.cond (tm 7)
  (.seq (.region 2 [o1 4 (sk (-1))] 0 none) []
    (.ret (rl 0 4 (rl 5 6 []))))
  .skip)) (rl 4 4 [])
  A27v1))⟩
def D22 {ρ : Type} (fuel : Nat) (x1 : Nat) (x2 : FF) (x3 : Nat) (x4 : FF) (x5 x6 : Int) (k : Int → Option ρ) : Option ρ :=
  (ob (F13 fuel x1 x2 x3 x4) fun x7 => (bif (x7 != 0) then (k (-1)) else (ob (F47 fuel x1 x2 x3 x4 x5 x6) fun x8 => (k x8))))
def F22 (fuel : Nat) (x1 : Nat) (x2 : FF) (x3 : Nat) (x4 : FF) (x5 x6 : Int) : Option (Int) := D22 fuel x1 x2 x3 x4 x5 x6 some
theorem f22 {ρ : Type} (fuel : Nat) (x1 : Nat) (x2 : FF) (x3 : Nat) (x4 : FF) (x5 x6 : Int) (k : (Int) → Option ρ) : D22 fuel x1 x2 x3 x4 x5 x6 k = ob (F22 fuel x1 x2 x3 x4 x5 x6) k := by
  simp only [F22, D22, ob_bif, ob_ob, ob_none, ob_some]
theorem walk22 (fuel : Nat) (x1 : Nat) (x2 : FF) (x3 : Nat) (x4 : FF) (x5 x6 : Int) :
    evalF (C46 fuel) fuel A27 [.agg [(.ro false kP x1 x2), (.ro false (.pr (.sl kP) .nil) x3 x4)], .agg [(vi x5), (vi x6)]] =
    (ob (F13 fuel x1 x2 x3 x4) fun x7 => (bif (x7 != 0) then (some [.v (vi (-1))]) else (ob (F47 fuel x1 x2 x3 x4 x5 x6) fun x8 => (some [.v (vi x8)])))) := by kernel_rfl
theorem e22 (fuel : Nat) (x1 : Nat) (x2 : FF) (x3 : Nat) (x4 : FF) (x5 x6 : Int) : evalF (C46 fuel) fuel A27 [.agg [(.ro false kP x1 x2), (.ro false (.pr (.sl kP) .nil) x3 x4)], .agg [(vi x5), (vi x6)]] = ob (F22 fuel x1 x2 x3 x4 x5 x6) fun t => some [.v (vi t)] := by
  rw [walk22, ← f22]
  simp only [D22]
def O22 (fuel : Nat) : Ora where
  o := fun args {ρ} K =>
    wc args fun a1 l2 =>
    wagg a1 fun l3 =>
    wdL kP l3 fun y7 y8 l5 =>
    wdL (.pr (.sl kP) .nil) l5 fun y12 y13 l10 =>
    wn l10 <|
    wc l2 fun a14 l15 =>
    wagg a14 fun l16 =>
    wdI .i64 l16 fun y20 l18 =>
    wdI .i64 l18 fun y24 l22 =>
    wn l22 <|
    wn l15 <|
    (ob (F22 fuel y7 y8 y12 y13 y20 y24) fun t => K [.v (vi t)])
  nat := fun args {ρ} K => by
    simp only [bind_wagg, bind_wc, bind_wdI, bind_wdL, bind_wn, bind_ob, Option.bind_some]
theorem d22 {P : Program} (fuel : Nat) (hmix : P.follows .mixedOrders = true) (hC : Sound P (C46 fuel)) (hF : FFits P 27 A27) (args res : List A) (h : (O22 fuel).o args some = some res) : Den P 27 args res := by
  obtain ⟨a1, l2, rfl, z0⟩ := inv_wc h
  obtain ⟨l3, rfl, z1⟩ := inv_wagg z0
  obtain ⟨a4, y7, y8, l5, rfl, h6, z2⟩ := inv_wdL z1
  obtain ⟨a9, y12, y13, l10, rfl, h11, z3⟩ := inv_wdL z2
  obtain ⟨hn, z4⟩ := inv_wn z3
  cases hn
  obtain ⟨a14, l15, rfl, z5⟩ := inv_wc z4
  obtain ⟨l16, rfl, z6⟩ := inv_wagg z5
  obtain ⟨a17, y20, l18, rfl, h19, z7⟩ := inv_wdI z6
  obtain ⟨a21, y24, l22, rfl, h23, z8⟩ := inv_wdI z7
  obtain ⟨hn, z9⟩ := inv_wn z8
  cases hn
  obtain ⟨hn, z10⟩ := inv_wn z9
  cases hn
  exact Den.weaken (.cons (WkA.agg (.cons h6 (.cons h11 .nil))) (.cons (WkA.agg (.cons h19 (.cons h23 .nil))) .nil)) (evalF_sound hmix hC hF ((e22 fuel y7 y8 y12 y13 y20 y24).trans z10))
def C47 (fuel : Nat) : Oracle := (C46 fuel).add 27 (fun _ => true) (O22 fuel)
def A52v1 : AC := (.region 6 [o1 18 (bk .add 3 8 1), mv 8 18] 0 none)
def A52v2 : AC := (.seq (.block 1
  (.seq (.region 3 [mv 10 8, o1 5 (sg 10)] 0 none) []
    (.seq (.region 4 [o1 11 (ln 42 4 3), mv 12 0, mv 13 5, o1 14 (.indexAddr 36 42 4 (tm 12) (tm 13)), o1 15 (ln 42 4 14), o1 16 (.eqA false (.pr .str kV) 42 (tm 11) (tm 15) 42)] 0 (some [[], [], [], [1, 2], [1, 2, 3], (rl 0 5 [])])) []
    (.cond (tm 16)
    (.seq (.region 5 [mv 17 5, o1 4 (sg 17)] 0 none) []
      (.ret (rl 0 4 (rl 5 14 []))))
    .skip)))) (4 :: 5 :: (rl 10 8 []))
  A52v1)
def A52v3 : AC := (.seq (.region 2 [o1 9 (bt .lss 3 8 7)] 0 none) []
  (.seq (.cond (tm 9)
  .skip
  (.exit 0 (rl 0 19 []))) []
  A52v2))
def A52v4 : AC := (.seq (.region 7 [o1 4 (sk (-1))] 0 none) []
  (.ret (rl 0 4 (rl 5 14 []))))
def A52 : AF := ⟨19, [.tmp 4],
  (.seq (.region 0 [o1 3 (bx 0 42 1), o1 4 (sk 0)] 1 none) []
  (.seq (.seq (.region 1 [mv 6 0, o1 7 (.len 36 false (tm 6)), o1 8 (.move (ic 0))] 0 none) []
  (.block 0
  (.loop [] (1 :: 2 :: 4 :: 5 :: 6 :: (rl 9 10 []))
    A52v3))) (rl 4 15 [])
  A52v4))⟩
def B119v1 (C : Oracle) (fuel : Nat) {ρ : Type} : St → (Ex → St → Option ρ) → Option ρ := fun st k => evalC C fuel A52v3 st k
def N119v1 : St → Option St := fun s => s.norm (1 :: 2 :: 4 :: 5 :: 6 :: (rl 9 10 [])) 1
def s119v0 (x14 : Nat) (x15 : FF) (x16 x17 : Int) (x18 : ByteArray) (x19 x20 x21 : Int) : St := ⟨(.x (.c (.ro false (.pr .str kV) x14 x15)) :: .u :: .u :: .x (.ptr 0 0) :: (us 3 (vxi x16 :: vxi x17 :: (us 10 [])))), [.box [(vcs x18), (vci x19), (vci x20), (vci x21)]]⟩
def s119v1 (x22 : Int) (x18 : ByteArray) (x19 x20 x21 : Int) : St := ⟨(us 4 (vxi x22 :: (us 14 []))), [.box [(vcs x18), (vci x19), (vci x20), (vci x21)]]⟩
def s119v2 (x18 : ByteArray) (x19 x20 x21 : Int) : St := ⟨(us 19 []), [.box [(vcs x18), (vci x19), (vci x20), (vci x21)]]⟩
def L119v1 {ρ : Type} (fuel : Nat) (x14 : Nat) (x15 : FF) (x16 : Int) (x18 : ByteArray) (x19 x20 x21 : Int) : Nat → Int → (Int → Option ρ) → (Option ρ) → Option ρ
  | 0, _, _, _ => none
  | m + 1, x17, k0, k1 =>
    (bif (decide (x17 < x16)) then (bif (inb x17 x14) then (bif ((ByteArray.toList x18 == ByteArray.toList (CV.str (x15 (Int.toNat x17) 0))) && ((x19 == (CV.int (x15 (Int.toNat x17) 1))) && ((x20 == (CV.int (x15 (Int.toNat x17) 2))) && ((x21 == (CV.int (x15 (Int.toNat x17) 3))) && true)))) then (k0 x17) else (L119v1 fuel x14 x15 x16 x18 x19 x20 x21 m (w64 (x17 + 1)) k0 k1)) else none) else k1)
theorem nl119v1 {ρ σ : Type} (fuel : Nat) (x14 : Nat) (x15 : FF) (x16 : Int) (x18 : ByteArray) (x19 x20 x21 : Int) (g : ρ → Option σ) : ∀ (m : Nat) (x17 : Int) (k0 : Int → Option ρ) (k1 : Option ρ), ob (L119v1 fuel x14 x15 x16 x18 x19 x20 x21 m x17 k0 k1) g = L119v1 fuel x14 x15 x16 x18 x19 x20 x21 m x17 (fun x22 => ob (k0 x22) g) (ob k1 g)
  | 0, _, _, _ => rfl
  | m + 1, x17, k0, k1 => by
    simp only [L119v1, ob_bif, ob_ob, ob_none, nl119v1 fuel x14 x15 x16 x18 x19 x20 x21 g m]
theorem r119v1 (fuel : Nat) (m : Nat) {ρ : Type} (k : Ex → St → Option ρ) (x14 : Nat) (x15 : FF) (x16 : Int) (x18 : ByteArray) (x19 x20 x21 x17 : Int) :
    loopH (B119v1 (C47 fuel) fuel) N119v1 (m + 1) (s119v0 x14 x15 x16 x17 x18 x19 x20 x21) k =
    (bif (decide (x17 < x16)) then (bif (inb x17 x14) then (bif ((ByteArray.toList x18 == ByteArray.toList (CV.str (x15 (Int.toNat x17) 0))) && ((x19 == (CV.int (x15 (Int.toNat x17) 1))) && ((x20 == (CV.int (x15 (Int.toNat x17) 2))) && ((x21 == (CV.int (x15 (Int.toNat x17) 3))) && true)))) then (k .ret (s119v1 x17 x18 x19 x20 x21)) else (loopH (B119v1 (C47 fuel) fuel) N119v1 m (s119v0 x14 x15 x16 (w64 (x17 + 1)) x18 x19 x20 x21) k)) else none) else (k (.exit 0) (s119v2 x18 x19 x20 x21))) := by kernel_rfl
theorem q119v1 (fuel : Nat) (x14 : Nat) (x15 : FF) (x16 : Int) (x18 : ByteArray) (x19 x20 x21 : Int) {ρ : Type} (k : Ex → St → Option ρ) : ∀ (m : Nat) (x17 : Int),
    loopH (B119v1 (C47 fuel) fuel) N119v1 m (s119v0 x14 x15 x16 x17 x18 x19 x20 x21) k = L119v1 fuel x14 x15 x16 x18 x19 x20 x21 m x17 (fun x22 => k .ret (s119v1 x22 x18 x19 x20 x21)) (k (.exit 0) (s119v2 x18 x19 x20 x21))
  | 0, _ => rfl
  | m + 1, x17 => by
    rw [r119v1]
    simp only [L119v1, q119v1 fuel x14 x15 x16 x18 x19 x20 x21 k m]
def D119 {ρ : Type} (fuel : Nat) (x1 : Nat) (x2 : FF) (x3 : ByteArray) (x4 x5 x6 : Int) (k : Int → Option ρ) : Option ρ :=
  (L119v1 fuel x1 x2 (Int.ofNat x1) x3 x4 x5 x6 fuel 0
    (fun x23 => (k x23))
    (k (-1)))
def F119 (fuel : Nat) (x1 : Nat) (x2 : FF) (x3 : ByteArray) (x4 x5 x6 : Int) : Option (Int) := D119 fuel x1 x2 x3 x4 x5 x6 some
theorem f119 {ρ : Type} (fuel : Nat) (x1 : Nat) (x2 : FF) (x3 : ByteArray) (x4 x5 x6 : Int) (k : (Int) → Option ρ) : D119 fuel x1 x2 x3 x4 x5 x6 k = ob (F119 fuel x1 x2 x3 x4 x5 x6) k := by
  simp only [F119, D119, ob_bif, ob_ob, ob_none, ob_some, nl119v1]
def s119v3 (x1 : Nat) (x2 : FF) (x3 : ByteArray) (x4 x5 x6 : Int) : St := ⟨[.x (.c (.ro false (.pr .str kV) x1 x2)), .agg [(vcs x3), (vci x4), (vci x5), (vci x6)], .undef, .x (.ptr 0 0), vxi 0, .undef, .x (.c (.ro false (.pr .str kV) x1 x2)), vxi (Int.ofNat x1), vxi 0, .undef, .undef, .undef, .undef, .undef, .undef, .undef, .undef, .undef, .undef], [.box [(vcs x3), (vci x4), (vci x5), (vci x6)]]⟩
theorem walk119 (fuel : Nat) (x1 : Nat) (x2 : FF) (x3 : ByteArray) (x4 x5 x6 : Int) :
    evalF (C47 fuel) fuel A52 [.v (.ro false (.pr .str kV) x1 x2), .agg [(.s x3), (vi x4), (vi x5), (vi x6)]] =
    (loopN (B119v1 (C47 fuel) fuel) N119v1 fuel (s119v3 x1 x2 x3 x4 x5 x6) (kBlk 0 (kSeq (C47 fuel) fuel (rl 4 15 []) A52v4 (finish A52)))) := by kernel_rfl
theorem t119v1 (fuel : Nat) {ρ : Type} (k : Ex → St → Option ρ) (x1 : Nat) (x2 : FF) (x3 : ByteArray) (x4 x5 x6 : Int) :
    loopN (B119v1 (C47 fuel) fuel) N119v1 fuel (s119v3 x1 x2 x3 x4 x5 x6) k =
    L119v1 fuel x1 x2 (Int.ofNat x1) x3 x4 x5 x6 fuel 0 (fun x22 => k .ret (s119v1 x22 x3 x4 x5 x6)) (k (.exit 0) (s119v2 x3 x4 x5 x6)) :=
  (loopN_at (st' := (s119v0 x1 x2 (Int.ofNat x1) 0 x3 x4 x5 x6)) (by kernel_rfl)).trans (q119v1 fuel x1 x2 (Int.ofNat x1) x3 x4 x5 x6 k fuel 0)
theorem g119v2 (fuel : Nat) (x23 : Int) (x3 : ByteArray) (x4 x5 x6 : Int) :
    (kBlk 0 (kSeq (C47 fuel) fuel (rl 4 15 []) A52v4 (finish A52))) .ret (s119v1 x23 x3 x4 x5 x6) =
    (some [.v (vi x23)]) := by kernel_rfl
theorem g119v3 (fuel : Nat) (x3 : ByteArray) (x4 x5 x6 : Int) :
    (kBlk 0 (kSeq (C47 fuel) fuel (rl 4 15 []) A52v4 (finish A52))) (.exit 0) (s119v2 x3 x4 x5 x6) =
    (some [.v (vi (-1))]) := by kernel_rfl
theorem e119 (fuel : Nat) (x1 : Nat) (x2 : FF) (x3 : ByteArray) (x4 x5 x6 : Int) : evalF (C47 fuel) fuel A52 [.v (.ro false (.pr .str kV) x1 x2), .agg [(.s x3), (vi x4), (vi x5), (vi x6)]] = ob (F119 fuel x1 x2 x3 x4 x5 x6) fun t => some [.v (vi t)] := by
  rw [walk119, ← f119]
  simp only [D119, t119v1, g119v2, g119v3]
def O119 (fuel : Nat) : Ora where
  o := fun args {ρ} K =>
    wcL (.pr .str kV) args fun y4 y5 l2 =>
    wc l2 fun a6 l7 =>
    wagg a6 fun l8 =>
    wdS l8 fun y12 l10 =>
    wdI .i64 l10 fun y16 l14 =>
    wdI .i64 l14 fun y20 l18 =>
    wdI .i64 l18 fun y24 l22 =>
    wn l22 <|
    wn l7 <|
    (ob (F119 fuel y4 y5 y12 y16 y20 y24) fun t => K [.v (vi t)])
  nat := fun args {ρ} K => by
    simp only [bind_wagg, bind_wc, bind_wcL, bind_wdI, bind_wdS, bind_wn, bind_ob, Option.bind_some]
theorem d119 {P : Program} (fuel : Nat) (hmix : P.follows .mixedOrders = true) (hC : Sound P (C47 fuel)) (hF : FFits P 52 A52) (args res : List A) (h : (O119 fuel).o args some = some res) : Den P 52 args res := by
  obtain ⟨a1, y4, y5, l2, rfl, h3, z0⟩ := inv_wcL h
  obtain ⟨a6, l7, rfl, z1⟩ := inv_wc z0
  obtain ⟨l8, rfl, z2⟩ := inv_wagg z1
  obtain ⟨a9, y12, l10, rfl, h11, z3⟩ := inv_wdS z2
  obtain ⟨a13, y16, l14, rfl, h15, z4⟩ := inv_wdI z3
  obtain ⟨a17, y20, l18, rfl, h19, z5⟩ := inv_wdI z4
  obtain ⟨a21, y24, l22, rfl, h23, z6⟩ := inv_wdI z5
  obtain ⟨hn, z7⟩ := inv_wn z6
  cases hn
  obtain ⟨hn, z8⟩ := inv_wn z7
  cases hn
  exact Den.weaken (.cons h3 (.cons (WkA.agg (.cons h11 (.cons h15 (.cons h19 (.cons h23 .nil))))) .nil)) (evalF_sound hmix hC hF ((e119 fuel y4 y5 y12 y16 y20 y24).trans z8))
def C48 (fuel : Nat) : Oracle := (C47 fuel).add 52 (fun _ => true) (O119 fuel)
def A29 : AF := ⟨9, [.tmp 4],
  (.seq (.region 0 [o1 3 (bx 0 42 1), o1 4 (sb false)] 1 none) []
  (.seq (.region 1 [mv 5 0, o1 6 (ln 42 4 3), o1 7 (cs 52 [5, 6] [36, 42]), o1 8 (bk .geq 3 7 0), o1 4 (sg 8)] 0 none) []
  (.ret (rl 0 4 (rl 5 4 [])))))⟩
def D120 {ρ : Type} (fuel : Nat) (x1 : Nat) (x2 : FF) (x3 : ByteArray) (x4 x5 x6 : Int) (k : Bool → Option ρ) : Option ρ :=
  (ob (F119 fuel x1 x2 x3 x4 x5 x6) fun x7 => (k (decide (x7 ≥ 0))))
def F120 (fuel : Nat) (x1 : Nat) (x2 : FF) (x3 : ByteArray) (x4 x5 x6 : Int) : Option (Bool) := D120 fuel x1 x2 x3 x4 x5 x6 some
theorem f120 {ρ : Type} (fuel : Nat) (x1 : Nat) (x2 : FF) (x3 : ByteArray) (x4 x5 x6 : Int) (k : (Bool) → Option ρ) : D120 fuel x1 x2 x3 x4 x5 x6 k = ob (F120 fuel x1 x2 x3 x4 x5 x6) k := by
  simp only [F120, D120, ob_bif, ob_ob, ob_none, ob_some]
theorem walk120 (fuel : Nat) (x1 : Nat) (x2 : FF) (x3 : ByteArray) (x4 x5 x6 : Int) :
    evalF (C48 fuel) fuel A29 [.v (.ro false (.pr .str kV) x1 x2), .agg [(.s x3), (vi x4), (vi x5), (vi x6)]] =
    (ob (F119 fuel x1 x2 x3 x4 x5 x6) fun x7 => (some [.v (.b (decide (x7 ≥ 0)))])) := by kernel_rfl
theorem e120 (fuel : Nat) (x1 : Nat) (x2 : FF) (x3 : ByteArray) (x4 x5 x6 : Int) : evalF (C48 fuel) fuel A29 [.v (.ro false (.pr .str kV) x1 x2), .agg [(.s x3), (vi x4), (vi x5), (vi x6)]] = ob (F120 fuel x1 x2 x3 x4 x5 x6) fun t => some [.v (.b t)] := by
  rw [walk120, ← f120]
  simp only [D120]
def O120 (fuel : Nat) : Ora where
  o := fun args {ρ} K =>
    wcL (.pr .str kV) args fun y4 y5 l2 =>
    wc l2 fun a6 l7 =>
    wagg a6 fun l8 =>
    wdS l8 fun y12 l10 =>
    wdI .i64 l10 fun y16 l14 =>
    wdI .i64 l14 fun y20 l18 =>
    wdI .i64 l18 fun y24 l22 =>
    wn l22 <|
    wn l7 <|
    (ob (F120 fuel y4 y5 y12 y16 y20 y24) fun t => K [.v (.b t)])
  nat := fun args {ρ} K => by
    simp only [bind_wagg, bind_wc, bind_wcL, bind_wdI, bind_wdS, bind_wn, bind_ob, Option.bind_some]
theorem d120 {P : Program} (fuel : Nat) (hmix : P.follows .mixedOrders = true) (hC : Sound P (C48 fuel)) (hF : FFits P 29 A29) (args res : List A) (h : (O120 fuel).o args some = some res) : Den P 29 args res := by
  obtain ⟨a1, y4, y5, l2, rfl, h3, z0⟩ := inv_wcL h
  obtain ⟨a6, l7, rfl, z1⟩ := inv_wc z0
  obtain ⟨l8, rfl, z2⟩ := inv_wagg z1
  obtain ⟨a9, y12, l10, rfl, h11, z3⟩ := inv_wdS z2
  obtain ⟨a13, y16, l14, rfl, h15, z4⟩ := inv_wdI z3
  obtain ⟨a17, y20, l18, rfl, h19, z5⟩ := inv_wdI z4
  obtain ⟨a21, y24, l22, rfl, h23, z6⟩ := inv_wdI z5
  obtain ⟨hn, z7⟩ := inv_wn z6
  cases hn
  obtain ⟨hn, z8⟩ := inv_wn z7
  cases hn
  exact Den.weaken (.cons h3 (.cons (WkA.agg (.cons h11 (.cons h15 (.cons h19 (.cons h23 .nil))))) .nil)) (evalF_sound hmix hC hF ((e120 fuel y4 y5 y12 y16 y20 y24).trans z8))
def C49 (fuel : Nat) : Oracle := (C48 fuel).add 29 (fun _ => true) (O120 fuel)
def A12v1 : AC := (.seq (.region 10 [o1 67 (fa 31 3 0 0), o1 68 (lo 9 67), o1 69 (fa 27 10 0 0), o1 70 (lo 3 69), o1 71 (fa 27 10 1 1), o1 72 (lo 3 71), o1 73 (.build 40 [vci 0, vci 0] [(0, 1), (1, 1)] 0 [(0, (tm 70)), (1, (tm 72))]), mv 74 2, o1 75 (.build 42 [vcs ByteArray.empty, vci 0, vci 0, vci 0] [(0, 1), (1, 2), (3, 1)] 0 [(0, (tm 68)), (1, (tm 73)), (2, (tm 74))]), o1 12 (.alloc 0 42 [vcs ByteArray.empty, vci 0, vci 0, vci 0]), o0 (.store 42 4 (tm 12) (tm 75))] 1 none) []
  (.seq (.region 11 [o1 76 (ln 31 18 3), o1 77 (cf 28 [76] [31]), o1 78 (fa 42 12 1 1), o1 79 (ln 40 2 78), o1 80 (cs 27 [77, 79] [25, 40]), o1 81 (bk .geq 3 80 0), mv 82 81, og 83 (.move (tm 6)) 82 true, og 84 (ln 42 4 12) 82 true, og 85 (cs 29 [83, 84] [36, 42]) 82 true, og 86 (.unOp .not 4 (tm 85)) 82 true, o1 87 (po 82 86)] 0 (some [[], [0], [], [2], (rl 0 4 []), (rl 0 5 []), (rl 0 6 []), (rl 0 7 []), (rl 0 7 []), (rl 0 9 []), (rl 0 10 []), (rl 0 11 [])])) []
  (.cond (tm 87)
  (.region 12 [mv 88 6, o1 89 (ln 42 4 12), o1 90 (.buildSlice 0 36 42 (.pr .str kV) 1 [vcs ByteArray.empty, vci 0, vci 0, vci 0] [(0, (tm 89))]), o1 91 (.append 1 36 42 (.pr .str kV) 40 (tm 88) (tm 90)), o1 6 (sg 91)] 2 none)
  .skip)))
def A12v2 : AC := (.region 7 [mv 30 9, o1 31 (bk .add 3 30 1), o1 9 (sg 31)] 0 none)
def A12v3 : AC := (.seq (.block 1
  (.seq (.region 8 [mv 32 8, mv 33 9, o1 34 (bk .sub 3 33 1), o1 35 (.callv (tm 32) [(tm 34)] [3] .snap), mv 36 8, mv 37 9, o1 38 (.callv (tm 36) [(tm 37)] [3] .snap), o1 10 (.alloc 0 27 [vci 0, vci 0, vci 0]), o1 11 (.alloc 1 27 [vci 0, vci 0, vci 0]), o0 (.store 27 3 (tm 10) (tm 35)), o0 (.store 27 3 (tm 11) (tm 38))] 2 none) []
    (.seq (.seq (.region 9 [o1 39 (fa 27 10 0 0), o1 40 (lo 3 39), o1 41 (fa 27 11 0 0), o1 42 (lo 3 41), o1 43 (bt .neq 3 40 42), mv 44 43, og 45 (fa 27 10 1 1) 44 false, og 46 (lo 3 45) 44 false, og 47 (fa 27 11 1 1) 44 false, og 48 (lo 3 47) 44 false, og 49 (bt .neq 3 46 48) 44 false, o1 50 (pa 44 49), mv 51 50, og 52 (fa 27 10 2 2) 51 false, og 53 (lo 3 52) 51 false, og 54 (fa 27 11 2 2) 51 false, og 55 (lo 3 54) 51 false, og 56 (.mm false [(tm 53), (tm 55)] [3, 3]) 51 false, og 57 (bk .gtr 3 56 0) 51 false, o1 58 (pa 51 57), mv 59 58, og 60 (fa 27 10 2 2) 59 false, og 61 (lo 3 60) 59 false, og 62 (fa 27 11 2 2) 59 false, og 63 (lo 3 62) 59 false, og 64 (.mm true [(tm 61), (tm 63)] [3, 3]) 59 false, og 65 (bk .lss 3 64 0) 59 false, o1 66 (pa 59 65)] 0 none) []
    (.cond (tm 66)
    (.exit 1 (0 :: 1 :: 5 :: 7 :: (rl 10 83 [])))
    .skip)) (rl 39 28 [])
    A12v1))) (10 :: 11 :: 12 :: (rl 32 60 []))
  A12v2)
def A12v4 : AC := (.seq (.seq (.region 6 [mv 26 9, o1 27 (lo 32 4), o1 28 (.len 32 false (tm 27)), o1 29 (bt .lss 3 26 28)] 0 none) []
  (.cond (tm 29)
  .skip
  (.exit 0 (rl 0 6 (rl 7 86 []))))) (rl 26 4 [])
  A12v3)
def A12v5 : AC := (.seq (.region 13 [mv 92 6, o1 6 (sg 92)] 0 none) []
  (.ret (rl 0 6 (rl 7 86 []))))
def A12v6 : AC := (.seq (.region 3 [o1 22 (fa 31 3 11 14), o1 23 (ln 29 4 22), o1 24 (cs 24 [23] [29]), o1 7 (.alloc 0 29 [vci 0, vci 0, vci 0, vci 0]), o0 (.store 29 4 (tm 7) (tm 24))] 1 none) []
  (.seq (.region 4 [o1 25 (.mkfn 25 [(tm 7), (tm 4)]), o1 8 (sg 25)] 0 none) []
  (.seq (.seq (.region 5 [o1 9 (sk 1)] 0 none) []
  (.block 0
  (.loop [.slot 6 (.pr .str kV)] (0 :: 1 :: 5 :: 7 :: (rl 10 83 []))
    A12v4))) (rl 9 4 (rl 26 66 []))
  A12v5)))
def A12 : AF := ⟨93, [.tmp 6],
  (.seq (.region 0 [o1 3 (bx 0 31 0), o1 4 (bx 1 32 1), o1 6 (.assign (.const (.slice none 0 0)))] 2 none) []
  (.seq (.seq (.region 1 [o1 13 (lo 32 4), mv 14 2, o1 15 (cs 22 [13, 14] [32, 3]), o1 16 (.unOp .not 4 (tm 15)), mv 17 16, og 18 (ln 31 18 3) 17 false, og 19 (cs 23 [18] [31]) 17 false, og 20 (.unOp .not 4 (tm 19)) 17 false, o1 21 (pa 17 20)] 0 none) []
  (.cond (tm 21)
  (.seq (.region 2 [o1 6 (.assign (.const (.slice none 0 0)))] 0 none) []
    (.ret (rl 0 6 (rl 7 86 []))))
  .skip)) (rl 13 9 [])
  A12v6))⟩
def B121v1 (C : Oracle) (fuel : Nat) {ρ : Type} : St → (Ex → St → Option ρ) → Option ρ := fun st k => evalC C fuel A12v4 st k
def N121v1 : St → Option St := fun s => s.norm (0 :: 1 :: 5 :: 7 :: (rl 10 83 [])) 4
def s121v0 (x24 : Int) (x25 : Nat) (x26 : Int) (x27 : Nat → CV) (x28 : Nat) (x29 : FF) (x30 x31 x32 x33 : Int) (x34 : FF) : St := ⟨(.u :: .u :: vxi x24 :: .x (.ptr 0 0) :: .x (.ptr 1 0) :: .u :: .x (.own 3 0 x25) :: .u :: .x (.fn 25 [.ptr 2 0, .ptr 1 0]) :: vxi x26 :: (us 83 [])), [.box (pjc kR0 x27), .box [(.c (.ro false kV x28 x29))], .box [(vci x30), (vci x31), (vci x32), (vci x33)], .arr (.pr .str kV) x25 x34]⟩
def s121v1 (x40 : Nat) (x27 : Nat → CV) (x28 : Nat) (x29 : FF) (x30 x31 x32 x33 : Int) (x41 : FF) : St := ⟨(us 6 (.x (.own 3 0 x40) :: (us 86 []))), [.box (pjc kR0 x27), .box [(.c (.ro false kV x28 x29))], .box [(vci x30), (vci x31), (vci x32), (vci x33)], .arr (.pr .str kV) x40 x41]⟩
def L121v1 {ρ : Type} (fuel : Nat) (x24 : Int) (x27 : Nat → CV) (x28 : Nat) (x29 : FF) (x30 x31 x32 x33 : Int) : Nat → Nat → Int → FF → (Nat → FF → Option ρ) → Option ρ
  | 0, _, _, _, _ => none
  | m + 1, x25, x26, x34, k0 =>
    (bif (decide (x26 < (Int.ofNat x28))) then (ob (F118 fuel (w64 (x26 - 1)) (listF [(.i .i64 x30), (.i .i64 x31), (.i .i64 x32), (.i .i64 x33)]) (listF [(.ro false (.pr (.int .i64) (.pr (.int .i64) (.pr (.int .i64) .nil))) x28 x29)])) fun x35 => (ob (F118 fuel x26 (listF [(.i .i64 x30), (.i .i64 x31), (.i .i64 x32), (.i .i64 x33)]) (listF [(.ro false (.pr (.int .i64) (.pr (.int .i64) (.pr (.int .i64) .nil))) x28 x29)])) fun x36 => (bif ((x35.1 != x36.1) == false) then (bif ((x35.2.1 != x36.2.1) == false) then (bif ((decide ((if x36.2.2 < x35.2.2 then x36.2.2 else x35.2.2) > 0)) == false) then (bif (decide ((if x36.2.2 > x35.2.2 then x36.2.2 else x35.2.2) < 0)) then (L121v1 fuel x24 x27 x28 x29 x30 x31 x32 x33 m x25 (w64 (x26 + 1)) x34 k0) else (ob (F112 fuel (listF (pj kR0 x27))) fun x37 => (ob (F22 fuel x37.1 x37.2.1 x37.2.2.1 x37.2.2.2 x35.1 x35.2.1) fun x38 => (bif ((decide (x38 ≥ 0)) == true) then (ob (F120 fuel x25 x34 (CV.str (x27 0)) x35.1 x35.2.1 x24) fun x39 => (bif (!x39) then (bif (Nat.ble (x25 + 1) 1073741824) then (L121v1 fuel x24 x27 x28 x29 x30 x31 x32 x33 m (x25 + 1) (w64 (x26 + 1)) (joinF x25 x34 (rowsF 4 [(.s (CV.str (x27 0))), (.i .i64 x35.1), (.i .i64 x35.2.1), (.i .i64 x24)])) k0) else none) else (L121v1 fuel x24 x27 x28 x29 x30 x31 x32 x33 m x25 (w64 (x26 + 1)) x34 k0))) else (L121v1 fuel x24 x27 x28 x29 x30 x31 x32 x33 m x25 (w64 (x26 + 1)) x34 k0))))) else (L121v1 fuel x24 x27 x28 x29 x30 x31 x32 x33 m x25 (w64 (x26 + 1)) x34 k0)) else (L121v1 fuel x24 x27 x28 x29 x30 x31 x32 x33 m x25 (w64 (x26 + 1)) x34 k0)) else (L121v1 fuel x24 x27 x28 x29 x30 x31 x32 x33 m x25 (w64 (x26 + 1)) x34 k0)))) else (k0 x25 x34))
theorem nl121v1 {ρ σ : Type} (fuel : Nat) (x24 : Int) (x27 : Nat → CV) (x28 : Nat) (x29 : FF) (x30 x31 x32 x33 : Int) (g : ρ → Option σ) : ∀ (m : Nat) (x25 : Nat) (x26 : Int) (x34 : FF) (k0 : Nat → FF → Option ρ), ob (L121v1 fuel x24 x27 x28 x29 x30 x31 x32 x33 m x25 x26 x34 k0) g = L121v1 fuel x24 x27 x28 x29 x30 x31 x32 x33 m x25 x26 x34 (fun x40 x41 => ob (k0 x40 x41) g)
  | 0, _, _, _, _ => rfl
  | m + 1, x25, x26, x34, k0 => by
    simp only [L121v1, ob_bif, ob_ob, ob_none, nl121v1 fuel x24 x27 x28 x29 x30 x31 x32 x33 g m]
theorem r121v1 (fuel : Nat) (m : Nat) {ρ : Type} (k : Ex → St → Option ρ) (x24 : Int) (x27 : Nat → CV) (x28 : Nat) (x29 : FF) (x30 x31 x32 x33 : Int) (x25 : Nat) (x26 : Int) (x34 : FF) :
    loopH (B121v1 (C49 fuel) fuel) N121v1 (m + 1) (s121v0 x24 x25 x26 x27 x28 x29 x30 x31 x32 x33 x34) k =
    (bif (decide (x26 < (Int.ofNat x28))) then (ob (F118 fuel (w64 (x26 - 1)) (listF [(vi x30), (vi x31), (vi x32), (vi x33)]) (listF [(.ro false kV x28 x29)])) fun x35 => (ob (F118 fuel x26 (listF [(vi x30), (vi x31), (vi x32), (vi x33)]) (listF [(.ro false kV x28 x29)])) fun x36 => (bif ((x35.1 != x36.1) == false) then (bif ((x35.2.1 != x36.2.1) == false) then (bif ((decide ((if x36.2.2 < x35.2.2 then x36.2.2 else x35.2.2) > 0)) == false) then (bif (decide ((if x36.2.2 > x35.2.2 then x36.2.2 else x35.2.2) < 0)) then (loopH (B121v1 (C49 fuel) fuel) N121v1 m (s121v0 x24 x25 (w64 (x26 + 1)) x27 x28 x29 x30 x31 x32 x33 x34) k) else (ob (F112 fuel (listF (pj kR0 x27))) fun x37 => (ob (F22 fuel x37.1 x37.2.1 x37.2.2.1 x37.2.2.2 x35.1 x35.2.1) fun x38 => (bif ((decide (x38 ≥ 0)) == true) then (ob (F120 fuel x25 x34 (CV.str (x27 0)) x35.1 x35.2.1 x24) fun x39 => (bif (!x39) then (bif (Nat.ble (x25 + 1) 1073741824) then (loopH (B121v1 (C49 fuel) fuel) N121v1 m (s121v0 x24 (x25 + 1) (w64 (x26 + 1)) x27 x28 x29 x30 x31 x32 x33 (joinF x25 x34 (rowsF 4 [(.s (CV.str (x27 0))), (vi x35.1), (vi x35.2.1), (vi x24)]))) k) else none) else (loopH (B121v1 (C49 fuel) fuel) N121v1 m (s121v0 x24 x25 (w64 (x26 + 1)) x27 x28 x29 x30 x31 x32 x33 x34) k))) else (loopH (B121v1 (C49 fuel) fuel) N121v1 m (s121v0 x24 x25 (w64 (x26 + 1)) x27 x28 x29 x30 x31 x32 x33 x34) k))))) else (loopH (B121v1 (C49 fuel) fuel) N121v1 m (s121v0 x24 x25 (w64 (x26 + 1)) x27 x28 x29 x30 x31 x32 x33 x34) k)) else (loopH (B121v1 (C49 fuel) fuel) N121v1 m (s121v0 x24 x25 (w64 (x26 + 1)) x27 x28 x29 x30 x31 x32 x33 x34) k)) else (loopH (B121v1 (C49 fuel) fuel) N121v1 m (s121v0 x24 x25 (w64 (x26 + 1)) x27 x28 x29 x30 x31 x32 x33 x34) k)))) else (k (.exit 0) (s121v1 x25 x27 x28 x29 x30 x31 x32 x33 x34))) := by kernel_rfl
theorem q121v1 (fuel : Nat) (x24 : Int) (x27 : Nat → CV) (x28 : Nat) (x29 : FF) (x30 x31 x32 x33 : Int) {ρ : Type} (k : Ex → St → Option ρ) : ∀ (m : Nat) (x25 : Nat) (x26 : Int) (x34 : FF),
    loopH (B121v1 (C49 fuel) fuel) N121v1 m (s121v0 x24 x25 x26 x27 x28 x29 x30 x31 x32 x33 x34) k = L121v1 fuel x24 x27 x28 x29 x30 x31 x32 x33 m x25 x26 x34 (fun x40 x41 => k (.exit 0) (s121v1 x40 x27 x28 x29 x30 x31 x32 x33 x41))
  | 0, _, _, _ => rfl
  | m + 1, x25, x26, x34 => by
    rw [r121v1]
    simp only [L121v1, q121v1 fuel x24 x27 x28 x29 x30 x31 x32 x33 k m]
def D121 {ρ : Type} (fuel : Nat) (x1 : Nat → CV) (x2 : Nat) (x3 : FF) (x4 : Int) (k : (Bool × Nat × FF) → Option ρ) : Option ρ :=
  (ob (F109 fuel x2 x3 x4) fun x5 => (bif ((!x5) == false) then (ob (F113 fuel (listF (pj kR0 x1))) fun x6 => (bif (!x6) then (k (true, 0, (fun _ _ => .any))) else (ob (F116 fuel (CV.int (x1 14)) (CV.int (x1 15)) (CV.int (x1 16)) (CV.int (x1 17))) fun x7 => (L121v1 fuel x4 x1 x2 x3 x7.1 x7.2.1 x7.2.2.1 x7.2.2.2 fuel 0 1 (fun _ _ => .any)
    (fun x42 x43 => (k (false, x42, x43))))))) else (k (true, 0, (fun _ _ => .any)))))
def FT121 (fuel : Nat) (x1 : Nat → CV) (x2 : Nat) (x3 : FF) (x4 : Int) : Option (Bool × Nat × FF) := D121 fuel x1 x2 x3 x4 some
theorem f121 {ρ : Type} (fuel : Nat) (x1 : Nat → CV) (x2 : Nat) (x3 : FF) (x4 : Int) (k : (Bool × Nat × FF) → Option ρ) : D121 fuel x1 x2 x3 x4 k = ob (FT121 fuel x1 x2 x3 x4) k := by
  simp only [FT121, D121, ob_bif, ob_ob, ob_none, ob_some, nl121v1]
def s121v2 (x1 : Nat → CV) (x2 : Nat) (x3 : FF) (x4 : Int) (x7 : Int × Int × Int × Int) : St := ⟨(.agg (pjc kR0 x1) :: .x (.c (.ro false kV x2 x3)) :: vxi x4 :: .x (.ptr 0 0) :: .x (.ptr 1 0) :: .undef :: .x (.own 3 0 0) :: .x (.ptr 2 0) :: .x (.fn 25 [.ptr 2 0, .ptr 1 0]) :: vxi 1 :: .undef :: .undef :: .undef :: (us 9 [.x (.ptr 0 14), .agg [(vci (CV.int (x1 14))), (vci (CV.int (x1 15))), (vci (CV.int (x1 16))), (vci (CV.int (x1 17)))], .agg [(vci x7.1), (vci x7.2.1), (vci x7.2.2.1), (vci x7.2.2.2)], .x (.fn 25 [.ptr 2 0, .ptr 1 0]), .undef, .undef, .undef, .undef, .undef, .undef, .undef, .undef, .undef, .undef, .undef, .undef, .undef, .undef, .undef, .undef, .undef, .undef, .undef, .undef, .undef, .undef, .undef, .undef, .undef, .undef, .undef, .undef, .undef, .undef, .undef, .undef, .undef, .undef, .undef, .undef, .undef, .undef, .undef, .undef, .undef, .undef, .undef, .undef, .undef, .undef, .undef, .undef, .undef, .undef, .undef, .undef, .undef, .undef, .undef, .undef, .undef, .undef, .undef, .undef, .undef, .undef, .undef, .undef, .undef, .undef, .undef])), [.box (pjc kR0 x1), .box [(.c (.ro false kV x2 x3))], .box [(vci x7.1), (vci x7.2.1), (vci x7.2.2.1), (vci x7.2.2.2)], .arr (.pr .str kV) 0 nilF]⟩
theorem walk121 (fuel : Nat) (x1 : Nat → CV) (x2 : Nat) (x3 : FF) (x4 : Int) :
    evalF (C49 fuel) fuel A12 [.agg (pj kR0 x1), .v (.ro false kV x2 x3), .v (vi x4)] =
    (ob (F109 fuel x2 x3 x4) fun x5 => (bif ((!x5) == false) then (ob (F113 fuel (listF (pj kR0 x1))) fun x6 => (bif (!x6) then (some [.v (.ro true .nil 0 nilF)]) else (ob (F116 fuel (CV.int (x1 14)) (CV.int (x1 15)) (CV.int (x1 16)) (CV.int (x1 17))) fun x7 => (loopN (B121v1 (C49 fuel) fuel) N121v1 fuel (s121v2 x1 x2 x3 x4 x7) (kBlk 0 (kSeq (C49 fuel) fuel (rl 9 4 (rl 26 66 [])) A12v5 (finish A12))))))) else (some [.v (.ro true .nil 0 nilF)]))) := by kernel_rfl
theorem t121v1 (fuel : Nat) {ρ : Type} (k : Ex → St → Option ρ) (x1 : Nat → CV) (x2 : Nat) (x3 : FF) (x4 : Int) (x7 : Int × Int × Int × Int) :
    loopN (B121v1 (C49 fuel) fuel) N121v1 fuel (s121v2 x1 x2 x3 x4 x7) k =
    L121v1 fuel x4 x1 x2 x3 x7.1 x7.2.1 x7.2.2.1 x7.2.2.2 fuel 0 1 nilF (fun x40 x41 => k (.exit 0) (s121v1 x40 x1 x2 x3 x7.1 x7.2.1 x7.2.2.1 x7.2.2.2 x41)) :=
  (loopN_at (st' := (s121v0 x4 0 1 x1 x2 x3 x7.1 x7.2.1 x7.2.2.1 x7.2.2.2 nilF)) (by kernel_rfl)).trans (q121v1 fuel x4 x1 x2 x3 x7.1 x7.2.1 x7.2.2.1 x7.2.2.2 k fuel 0 1 nilF)
theorem g121v2 (fuel : Nat) (x42 : Nat) (x1 : Nat → CV) (x2 : Nat) (x3 : FF) (x7 : Int × Int × Int × Int) (x43 : FF) :
    (kBlk 0 (kSeq (C49 fuel) fuel (rl 9 4 (rl 26 66 [])) A12v5 (finish A12))) (.exit 0) (s121v1 x42 x1 x2 x3 x7.1 x7.2.1 x7.2.2.1 x7.2.2.2 x43) =
    (some [.v (.ro false (.pr .str kV) x42 x43)]) := by kernel_rfl
theorem e121 (fuel : Nat) (x1 : Nat → CV) (x2 : Nat) (x3 : FF) (x4 : Int) : evalF (C49 fuel) fuel A12 [.agg (pj kR0 x1), .v (.ro false kV x2 x3), .v (vi x4)] = ob (FT121 fuel x1 x2 x3 x4) fun t => some (bif t.1 then [.v (.ro true .nil 0 nilF)] else [.v (.ro false (.pr .str kV) t.2.1 t.2.2)]) := by
  rw [walk121, ← f121]
  simp only [D121, t121v1, g121v2, cond_true, cond_false]
def F121 (fuel : Nat) (x1 : Nat → CV) (x2 : Nat) (x3 : FF) (x4 : Int) : Option (Nat × FF) := ob (FT121 fuel x1 x2 x3 x4) fun t => some (bif t.1 then (0, (fun _ _ => .any)) else (t.2.1, t.2.2))
def O121 (fuel : Nat) : Ora where
  o := fun args {ρ} K =>
    wc args fun a1 l2 =>
    wrow kR0 a1 fun y3 =>
    wcL kV l2 fun y8 y9 l6 =>
    wcI .i64 l6 fun y13 l11 =>
    wn l11 <|
    (ob (F121 fuel y3 y8 y9 y13) fun t => K [.v (.ro false (.pr .str kV) t.1 t.2)])
  nat := fun args {ρ} K => by
    simp only [bind_wc, bind_wcI, bind_wcL, bind_wn, bind_wrow, bind_ob, Option.bind_some]
theorem d121 {P : Program} (fuel : Nat) (hmix : P.follows .mixedOrders = true) (hC : Sound P (C49 fuel)) (hF : FFits P 12 A12) (args res : List A) (h : (O121 fuel).o args some = some res) : Den P 12 args res := by
  obtain ⟨a1, l2, rfl, z0⟩ := inv_wc h
  obtain ⟨y3, h4, z1⟩ := inv_wrow z0
  obtain ⟨a5, y8, y9, l6, rfl, h7, z2⟩ := inv_wcL z1
  obtain ⟨a10, y13, l11, rfl, h12, z3⟩ := inv_wcI z2
  obtain ⟨hn, z4⟩ := inv_wn z3
  cases hn
  obtain ⟨u, hu, hr⟩ := ob_inv z4
  cases hr
  obtain ⟨t, ht, hv⟩ := ob_inv (show ob (FT121 fuel y3 y8 y9 y13) _ = some u from hu)
  cases hv
  refine Den.results ?_ (Den.weaken (.cons h4 (.cons h7 (.cons h12 .nil))) (evalF_sound hmix hC hF ((e121 fuel y3 y8 y9 y13).trans (by rw [ht]; rfl))))
  obtain ⟨b, t⟩ := t
  cases b with
  | true => exact (.cons (WkA.v (Wk.ro (by rfl))) .nil)
  | false =>
    exact (.cons (WkA.v (Wk.refl _)) .nil)
def C50 (fuel : Nat) : Oracle := (C49 fuel).add 12 (fun _ => true) (O121 fuel)
def A21v1 : AC := (.seq (.block 1
  (.seq (.region 3 [o1 14 (.indexAddr 44 31 18 (tm 10) (tm 12)), o1 15 (ln 31 18 14), o1 8 (.alloc 0 31 [vcs ByteArray.empty, vci 0, vci 0, vcs ByteArray.empty, vcs ByteArray.empty, vci 0, vcn, vcn, vcs ByteArray.empty, vci 0, vci 0, vci 0, vci 0, vci 0, vci 0, vci 0, vci 0, vci 0]), o0 (.store 31 18 (tm 8) (tm 15))] 1 none) []
    (.region 4 [mv 16 6, o1 17 (ln 31 18 8), mv 18 1, mv 19 2, o1 20 (cf 12 [17, 18, 19] [31, 32, 3]), o1 21 (.append 0 36 42 (.pr .str kV) 40 (tm 16) (tm 20)), o1 6 (sg 21)] 1 none))) []
  (.region 5 [o1 22 (bk .add 3 12 1), mv 12 22] 0 none))
def A21v2 : AC := (.seq (.region 2 [o1 13 (bt .lss 3 12 11)] 0 none) []
  (.seq (.cond (tm 13)
  .skip
  (.exit 0 (rl 0 6 (rl 7 17 [])))) []
  A21v1))
def A21v3 : AC := (.seq (.region 6 [mv 23 6, o1 6 (sg 23)] 0 none) []
  (.ret (rl 0 6 (rl 7 17 []))))
def A21 : AF := ⟨24, [.tmp 6],
  (.seq (.region 0 [o1 3 (bx 0 50 0), o1 6 (.assign (.const (.slice none 0 0)))] 1 none) []
  (.seq (.seq (.region 1 [o1 9 (fa 50 3 2 2), o1 10 (lo 44 9), o1 11 (.len 44 false (tm 10)), o1 12 (.move (ic 0))] 0 none) []
  (.block 0
  (.loop [.slot 6 (.pr .str kV)] (0 :: 3 :: 4 :: 5 :: 7 :: 8 :: 9 :: (rl 13 11 []))
    A21v2))) (rl 8 15 [])
  A21v3))⟩
def B122v1 (C : Oracle) (fuel : Nat) {ρ : Type} : St → (Ex → St → Option ρ) → Option ρ := fun st k => evalC C fuel A21v2 st k
def N122v1 : St → Option St := fun s => s.norm (0 :: 3 :: 4 :: 5 :: 7 :: 8 :: 9 :: (rl 13 11 [])) 2
def s122v0 (x31 : Nat) (x32 : FF) (x33 : Int) (x34 x35 : Nat) (x36 : FF) (x37 x38 : Int) (x39 : ByteArray) (x40 : Nat) (x41 : FF) (x42 : Nat) (x43 : FF) (x44 : Nat) (x45 : FF) (x46 : Nat) (x47 x48 : FF) : St := ⟨(.u :: .x (.c (.ro false kV x31 x32)) :: vxi x33 :: (us 3 (.x (.own 1 0 x34) :: (us 3 (.x (.c (.ro false (.pr .str (.pr (.int .i64) (.pr (.int .i64) (.pr .str (.pr .str (.pr (.int .i64) (.pr (.sl kP) (.pr (.sl (.pr (.sl kP) .nil)) (.pr .str (.pr (.int .i64) (.pr (.int .i64) (.pr (.int .i64) (.pr (.int .i64) (.pr (.int .i64) (.pr (.int .i64) kV))))))))))))))) x35 x36)) :: vxi x37 :: vxi x38 :: (us 11 [])))))), [.box [(vcs x39), (.c (.ro false (.pr .str (.pr (.int .i64) (.pr .str .nil))) x40 x41)), (.c (.ro false (.pr .str (.pr (.int .i64) (.pr (.int .i64) (.pr .str (.pr .str (.pr (.int .i64) (.pr (.sl kP) (.pr (.sl (.pr (.sl kP) .nil)) (.pr .str (.pr (.int .i64) (.pr (.int .i64) (.pr (.int .i64) (.pr (.int .i64) (.pr (.int .i64) (.pr (.int .i64) kV))))))))))))))) x35 x36)), (.c (.ro false (.pr .str (.pr .str (.pr .str kV))) x42 x43)), (.c (.ro false (.pr .str (.pr .str (.pr (.sl (.pr .str .nil)) (.pr (.int .i64) (.pr (.sl (.pr .str .nil)) .nil))))) x44 x45)), (.c (.ro false (.pr (.int .i64) (.pr .str (.pr .str .nil))) x46 x47))], .arr (.pr .str kV) x34 x48]⟩
def s122v1 (x50 : Nat) (x39 : ByteArray) (x40 : Nat) (x41 : FF) (x35 : Nat) (x36 : FF) (x42 : Nat) (x43 : FF) (x44 : Nat) (x45 : FF) (x46 : Nat) (x47 x51 : FF) : St := ⟨(us 6 (.x (.own 1 0 x50) :: (us 17 []))), [.box [(vcs x39), (.c (.ro false (.pr .str (.pr (.int .i64) (.pr .str .nil))) x40 x41)), (.c (.ro false (.pr .str (.pr (.int .i64) (.pr (.int .i64) (.pr .str (.pr .str (.pr (.int .i64) (.pr (.sl kP) (.pr (.sl (.pr (.sl kP) .nil)) (.pr .str (.pr (.int .i64) (.pr (.int .i64) (.pr (.int .i64) (.pr (.int .i64) (.pr (.int .i64) (.pr (.int .i64) kV))))))))))))))) x35 x36)), (.c (.ro false (.pr .str (.pr .str (.pr .str kV))) x42 x43)), (.c (.ro false (.pr .str (.pr .str (.pr (.sl (.pr .str .nil)) (.pr (.int .i64) (.pr (.sl (.pr .str .nil)) .nil))))) x44 x45)), (.c (.ro false (.pr (.int .i64) (.pr .str (.pr .str .nil))) x46 x47))], .arr (.pr .str kV) x50 x51]⟩
def L122v1 {ρ : Type} (fuel : Nat) (x31 : Nat) (x32 : FF) (x33 : Int) (x35 : Nat) (x36 : FF) (x37 : Int) (x39 : ByteArray) (x40 : Nat) (x41 : FF) (x42 : Nat) (x43 : FF) (x44 : Nat) (x45 : FF) (x46 : Nat) (x47 : FF) : Nat → Nat → Int → FF → (Nat → FF → Option ρ) → Option ρ
  | 0, _, _, _, _ => none
  | m + 1, x34, x38, x48, k0 =>
    (bif (decide (x38 < x37)) then (bif (inb x38 x35) then (ob (F121 fuel (listF [(.s (CV.str (x36 (Int.toNat x38) 0))), (.i .i64 (CV.int (x36 (Int.toNat x38) 1))), (.i .i64 (CV.int (x36 (Int.toNat x38) 2))), (.s (CV.str (x36 (Int.toNat x38) 3))), (.s (CV.str (x36 (Int.toNat x38) 4))), (.i .i64 (CV.int (x36 (Int.toNat x38) 5))), (.ro false (.pr (.int .i64) (.pr (.int .i64) .nil)) (CV.len (x36 (Int.toNat x38) 6)) (CV.el (x36 (Int.toNat x38) 6))), (.ro false (.pr (.sl (.pr (.int .i64) (.pr (.int .i64) .nil))) .nil) (CV.len (x36 (Int.toNat x38) 7)) (CV.el (x36 (Int.toNat x38) 7))), (.s (CV.str (x36 (Int.toNat x38) 8))), (.i .i64 (CV.int (x36 (Int.toNat x38) 9))), (.i .i64 (CV.int (x36 (Int.toNat x38) 10))), (.i .i64 (CV.int (x36 (Int.toNat x38) 11))), (.i .i64 (CV.int (x36 (Int.toNat x38) 12))), (.i .i64 (CV.int (x36 (Int.toNat x38) 13))), (.i .i64 (CV.int (x36 (Int.toNat x38) 14))), (.i .i64 (CV.int (x36 (Int.toNat x38) 15))), (.i .i64 (CV.int (x36 (Int.toNat x38) 16))), (.i .i64 (CV.int (x36 (Int.toNat x38) 17)))]) x31 x32 x33) fun x49 => (bif (Nat.ble (x34 + x49.1) 1073741824) then (L122v1 fuel x31 x32 x33 x35 x36 x37 x39 x40 x41 x42 x43 x44 x45 x46 x47 m (x34 + x49.1) (w64 (x38 + 1)) (joinF x34 x48 x49.2) k0) else none)) else none) else (k0 x34 x48))
theorem nl122v1 {ρ σ : Type} (fuel : Nat) (x31 : Nat) (x32 : FF) (x33 : Int) (x35 : Nat) (x36 : FF) (x37 : Int) (x39 : ByteArray) (x40 : Nat) (x41 : FF) (x42 : Nat) (x43 : FF) (x44 : Nat) (x45 : FF) (x46 : Nat) (x47 : FF) (g : ρ → Option σ) : ∀ (m : Nat) (x34 : Nat) (x38 : Int) (x48 : FF) (k0 : Nat → FF → Option ρ), ob (L122v1 fuel x31 x32 x33 x35 x36 x37 x39 x40 x41 x42 x43 x44 x45 x46 x47 m x34 x38 x48 k0) g = L122v1 fuel x31 x32 x33 x35 x36 x37 x39 x40 x41 x42 x43 x44 x45 x46 x47 m x34 x38 x48 (fun x50 x51 => ob (k0 x50 x51) g)
  | 0, _, _, _, _ => rfl
  | m + 1, x34, x38, x48, k0 => by
    simp only [L122v1, ob_bif, ob_ob, ob_none, nl122v1 fuel x31 x32 x33 x35 x36 x37 x39 x40 x41 x42 x43 x44 x45 x46 x47 g m]
theorem r122v1 (fuel : Nat) (m : Nat) {ρ : Type} (k : Ex → St → Option ρ) (x31 : Nat) (x32 : FF) (x33 : Int) (x35 : Nat) (x36 : FF) (x37 : Int) (x39 : ByteArray) (x40 : Nat) (x41 : FF) (x42 : Nat) (x43 : FF) (x44 : Nat) (x45 : FF) (x46 : Nat) (x47 : FF) (x34 : Nat) (x38 : Int) (x48 : FF) :
    loopH (B122v1 (C50 fuel) fuel) N122v1 (m + 1) (s122v0 x31 x32 x33 x34 x35 x36 x37 x38 x39 x40 x41 x42 x43 x44 x45 x46 x47 x48) k =
    (bif (decide (x38 < x37)) then (bif (inb x38 x35) then (ob (F121 fuel (listF [(.s (CV.str (x36 (Int.toNat x38) 0))), (vi (CV.int (x36 (Int.toNat x38) 1))), (vi (CV.int (x36 (Int.toNat x38) 2))), (.s (CV.str (x36 (Int.toNat x38) 3))), (.s (CV.str (x36 (Int.toNat x38) 4))), (vi (CV.int (x36 (Int.toNat x38) 5))), (.ro false kP (CV.len (x36 (Int.toNat x38) 6)) (CV.el (x36 (Int.toNat x38) 6))), (.ro false (.pr (.sl kP) .nil) (CV.len (x36 (Int.toNat x38) 7)) (CV.el (x36 (Int.toNat x38) 7))), (.s (CV.str (x36 (Int.toNat x38) 8))), (vi (CV.int (x36 (Int.toNat x38) 9))), (vi (CV.int (x36 (Int.toNat x38) 10))), (vi (CV.int (x36 (Int.toNat x38) 11))), (vi (CV.int (x36 (Int.toNat x38) 12))), (vi (CV.int (x36 (Int.toNat x38) 13))), (vi (CV.int (x36 (Int.toNat x38) 14))), (vi (CV.int (x36 (Int.toNat x38) 15))), (vi (CV.int (x36 (Int.toNat x38) 16))), (vi (CV.int (x36 (Int.toNat x38) 17)))]) x31 x32 x33) fun x49 => (bif (Nat.ble (x34 + x49.1) 1073741824) then (loopH (B122v1 (C50 fuel) fuel) N122v1 m (s122v0 x31 x32 x33 (x34 + x49.1) x35 x36 x37 (w64 (x38 + 1)) x39 x40 x41 x42 x43 x44 x45 x46 x47 (joinF x34 x48 x49.2)) k) else none)) else none) else (k (.exit 0) (s122v1 x34 x39 x40 x41 x35 x36 x42 x43 x44 x45 x46 x47 x48))) := by kernel_rfl
theorem q122v1 (fuel : Nat) (x31 : Nat) (x32 : FF) (x33 : Int) (x35 : Nat) (x36 : FF) (x37 : Int) (x39 : ByteArray) (x40 : Nat) (x41 : FF) (x42 : Nat) (x43 : FF) (x44 : Nat) (x45 : FF) (x46 : Nat) (x47 : FF) {ρ : Type} (k : Ex → St → Option ρ) : ∀ (m : Nat) (x34 : Nat) (x38 : Int) (x48 : FF),
    loopH (B122v1 (C50 fuel) fuel) N122v1 m (s122v0 x31 x32 x33 x34 x35 x36 x37 x38 x39 x40 x41 x42 x43 x44 x45 x46 x47 x48) k = L122v1 fuel x31 x32 x33 x35 x36 x37 x39 x40 x41 x42 x43 x44 x45 x46 x47 m x34 x38 x48 (fun x50 x51 => k (.exit 0) (s122v1 x50 x39 x40 x41 x35 x36 x42 x43 x44 x45 x46 x47 x51))
  | 0, _, _, _ => rfl
  | m + 1, x34, x38, x48 => by
    rw [r122v1]
    simp only [L122v1, q122v1 fuel x31 x32 x33 x35 x36 x37 x39 x40 x41 x42 x43 x44 x45 x46 x47 k m]
def D122 {ρ : Type} (fuel : Nat) (x1 : ByteArray) (x2 : Nat) (x3 : FF) (x4 : Nat) (x5 : FF) (x6 : Nat) (x7 : FF) (x8 : Nat) (x9 : FF) (x10 : Nat) (x11 : FF) (x12 : Nat) (x13 : FF) (x14 : Int) (k : (Nat × FF) → Option ρ) : Option ρ :=
  (L122v1 fuel x12 x13 x14 x4 x5 (Int.ofNat x4) x1 x2 x3 x6 x7 x8 x9 x10 x11 fuel 0 0 (fun _ _ => .any)
    (fun x52 x53 => (k (x52, x53))))
def F122 (fuel : Nat) (x1 : ByteArray) (x2 : Nat) (x3 : FF) (x4 : Nat) (x5 : FF) (x6 : Nat) (x7 : FF) (x8 : Nat) (x9 : FF) (x10 : Nat) (x11 : FF) (x12 : Nat) (x13 : FF) (x14 : Int) : Option (Nat × FF) := D122 fuel x1 x2 x3 x4 x5 x6 x7 x8 x9 x10 x11 x12 x13 x14 some
theorem f122 {ρ : Type} (fuel : Nat) (x1 : ByteArray) (x2 : Nat) (x3 : FF) (x4 : Nat) (x5 : FF) (x6 : Nat) (x7 : FF) (x8 : Nat) (x9 : FF) (x10 : Nat) (x11 : FF) (x12 : Nat) (x13 : FF) (x14 : Int) (k : (Nat × FF) → Option ρ) : D122 fuel x1 x2 x3 x4 x5 x6 x7 x8 x9 x10 x11 x12 x13 x14 k = ob (F122 fuel x1 x2 x3 x4 x5 x6 x7 x8 x9 x10 x11 x12 x13 x14) k := by
  simp only [F122, D122, ob_bif, ob_ob, ob_none, ob_some, nl122v1]
def s122v2 (x1 : ByteArray) (x2 : Nat) (x3 : FF) (x4 : Nat) (x5 : FF) (x6 : Nat) (x7 : FF) (x8 : Nat) (x9 : FF) (x10 : Nat) (x11 : FF) (x12 : Nat) (x13 : FF) (x14 : Int) : St := ⟨[.agg [(vcs x1), (.c (.ro false (.pr .str (.pr (.int .i64) (.pr .str .nil))) x2 x3)), (.c (.ro false (.pr .str (.pr (.int .i64) (.pr (.int .i64) (.pr .str (.pr .str (.pr (.int .i64) (.pr (.sl kP) (.pr (.sl (.pr (.sl kP) .nil)) (.pr .str (.pr (.int .i64) (.pr (.int .i64) (.pr (.int .i64) (.pr (.int .i64) (.pr (.int .i64) (.pr (.int .i64) kV))))))))))))))) x4 x5)), (.c (.ro false (.pr .str (.pr .str (.pr .str kV))) x6 x7)), (.c (.ro false (.pr .str (.pr .str (.pr (.sl (.pr .str .nil)) (.pr (.int .i64) (.pr (.sl (.pr .str .nil)) .nil))))) x8 x9)), (.c (.ro false (.pr (.int .i64) (.pr .str (.pr .str .nil))) x10 x11))], .x (.c (.ro false kV x12 x13)), vxi x14, .x (.ptr 0 0), .undef, .undef, .x (.own 1 0 0), .undef, .undef, .x (.ptr 0 2), .x (.c (.ro false (.pr .str (.pr (.int .i64) (.pr (.int .i64) (.pr .str (.pr .str (.pr (.int .i64) (.pr (.sl kP) (.pr (.sl (.pr (.sl kP) .nil)) (.pr .str (.pr (.int .i64) (.pr (.int .i64) (.pr (.int .i64) (.pr (.int .i64) (.pr (.int .i64) (.pr (.int .i64) kV))))))))))))))) x4 x5)), vxi (Int.ofNat x4), vxi 0, .undef, .undef, .undef, .undef, .undef, .undef, .undef, .undef, .undef, .undef, .undef], [.box [(vcs x1), (.c (.ro false (.pr .str (.pr (.int .i64) (.pr .str .nil))) x2 x3)), (.c (.ro false (.pr .str (.pr (.int .i64) (.pr (.int .i64) (.pr .str (.pr .str (.pr (.int .i64) (.pr (.sl kP) (.pr (.sl (.pr (.sl kP) .nil)) (.pr .str (.pr (.int .i64) (.pr (.int .i64) (.pr (.int .i64) (.pr (.int .i64) (.pr (.int .i64) (.pr (.int .i64) kV))))))))))))))) x4 x5)), (.c (.ro false (.pr .str (.pr .str (.pr .str kV))) x6 x7)), (.c (.ro false (.pr .str (.pr .str (.pr (.sl (.pr .str .nil)) (.pr (.int .i64) (.pr (.sl (.pr .str .nil)) .nil))))) x8 x9)), (.c (.ro false (.pr (.int .i64) (.pr .str (.pr .str .nil))) x10 x11))], .arr (.pr .str kV) 0 nilF]⟩
theorem walk122 (fuel : Nat) (x1 : ByteArray) (x2 : Nat) (x3 : FF) (x4 : Nat) (x5 : FF) (x6 : Nat) (x7 : FF) (x8 : Nat) (x9 : FF) (x10 : Nat) (x11 : FF) (x12 : Nat) (x13 : FF) (x14 : Int) :
    evalF (C50 fuel) fuel A21 [.agg [(.s x1), (.ro false (.pr .str (.pr (.int .i64) (.pr .str .nil))) x2 x3), (.ro false (.pr .str (.pr (.int .i64) (.pr (.int .i64) (.pr .str (.pr .str (.pr (.int .i64) (.pr (.sl kP) (.pr (.sl (.pr (.sl kP) .nil)) (.pr .str (.pr (.int .i64) (.pr (.int .i64) (.pr (.int .i64) (.pr (.int .i64) (.pr (.int .i64) (.pr (.int .i64) kV))))))))))))))) x4 x5), (.ro false (.pr .str (.pr .str (.pr .str kV))) x6 x7), (.ro false (.pr .str (.pr .str (.pr (.sl (.pr .str .nil)) (.pr (.int .i64) (.pr (.sl (.pr .str .nil)) .nil))))) x8 x9), (.ro false (.pr (.int .i64) (.pr .str (.pr .str .nil))) x10 x11)], .v (.ro false kV x12 x13), .v (vi x14)] =
    (loopN (B122v1 (C50 fuel) fuel) N122v1 fuel (s122v2 x1 x2 x3 x4 x5 x6 x7 x8 x9 x10 x11 x12 x13 x14) (kBlk 0 (kSeq (C50 fuel) fuel (rl 8 15 []) A21v3 (finish A21)))) := by kernel_rfl
theorem t122v1 (fuel : Nat) {ρ : Type} (k : Ex → St → Option ρ) (x1 : ByteArray) (x2 : Nat) (x3 : FF) (x4 : Nat) (x5 : FF) (x6 : Nat) (x7 : FF) (x8 : Nat) (x9 : FF) (x10 : Nat) (x11 : FF) (x12 : Nat) (x13 : FF) (x14 : Int) :
    loopN (B122v1 (C50 fuel) fuel) N122v1 fuel (s122v2 x1 x2 x3 x4 x5 x6 x7 x8 x9 x10 x11 x12 x13 x14) k =
    L122v1 fuel x12 x13 x14 x4 x5 (Int.ofNat x4) x1 x2 x3 x6 x7 x8 x9 x10 x11 fuel 0 0 nilF (fun x50 x51 => k (.exit 0) (s122v1 x50 x1 x2 x3 x4 x5 x6 x7 x8 x9 x10 x11 x51)) :=
  (loopN_at (st' := (s122v0 x12 x13 x14 0 x4 x5 (Int.ofNat x4) 0 x1 x2 x3 x6 x7 x8 x9 x10 x11 nilF)) (by kernel_rfl)).trans (q122v1 fuel x12 x13 x14 x4 x5 (Int.ofNat x4) x1 x2 x3 x6 x7 x8 x9 x10 x11 k fuel 0 0 nilF)
theorem g122v2 (fuel : Nat) (x52 : Nat) (x1 : ByteArray) (x2 : Nat) (x3 : FF) (x4 : Nat) (x5 : FF) (x6 : Nat) (x7 : FF) (x8 : Nat) (x9 : FF) (x10 : Nat) (x11 x53 : FF) :
    (kBlk 0 (kSeq (C50 fuel) fuel (rl 8 15 []) A21v3 (finish A21))) (.exit 0) (s122v1 x52 x1 x2 x3 x4 x5 x6 x7 x8 x9 x10 x11 x53) =
    (some [.v (.ro false (.pr .str kV) x52 x53)]) := by kernel_rfl
theorem e122 (fuel : Nat) (x1 : ByteArray) (x2 : Nat) (x3 : FF) (x4 : Nat) (x5 : FF) (x6 : Nat) (x7 : FF) (x8 : Nat) (x9 : FF) (x10 : Nat) (x11 : FF) (x12 : Nat) (x13 : FF) (x14 : Int) : evalF (C50 fuel) fuel A21 [.agg [(.s x1), (.ro false (.pr .str (.pr (.int .i64) (.pr .str .nil))) x2 x3), (.ro false (.pr .str (.pr (.int .i64) (.pr (.int .i64) (.pr .str (.pr .str (.pr (.int .i64) (.pr (.sl kP) (.pr (.sl (.pr (.sl kP) .nil)) (.pr .str (.pr (.int .i64) (.pr (.int .i64) (.pr (.int .i64) (.pr (.int .i64) (.pr (.int .i64) (.pr (.int .i64) kV))))))))))))))) x4 x5), (.ro false (.pr .str (.pr .str (.pr .str kV))) x6 x7), (.ro false (.pr .str (.pr .str (.pr (.sl (.pr .str .nil)) (.pr (.int .i64) (.pr (.sl (.pr .str .nil)) .nil))))) x8 x9), (.ro false (.pr (.int .i64) (.pr .str (.pr .str .nil))) x10 x11)], .v (.ro false kV x12 x13), .v (vi x14)] = ob (F122 fuel x1 x2 x3 x4 x5 x6 x7 x8 x9 x10 x11 x12 x13 x14) fun t => some [.v (.ro false (.pr .str kV) t.1 t.2)] := by
  rw [walk122, ← f122]
  simp only [D122, t122v1, g122v2]
def O122 (fuel : Nat) : Ora where
  o := fun args {ρ} K =>
    wc args fun a1 l2 =>
    wagg a1 fun l3 =>
    wdS l3 fun y7 l5 =>
    wdL (.pr .str (.pr (.int .i64) (.pr .str .nil))) l5 fun y11 y12 l9 =>
    wdL (.pr .str (.pr (.int .i64) (.pr (.int .i64) (.pr .str (.pr .str (.pr (.int .i64) (.pr (.sl kP) (.pr (.sl (.pr (.sl kP) .nil)) (.pr .str (.pr (.int .i64) (.pr (.int .i64) (.pr (.int .i64) (.pr (.int .i64) (.pr (.int .i64) (.pr (.int .i64) kV))))))))))))))) l9 fun y16 y17 l14 =>
    wdL (.pr .str (.pr .str (.pr .str kV))) l14 fun y21 y22 l19 =>
    wdL (.pr .str (.pr .str (.pr (.sl (.pr .str .nil)) (.pr (.int .i64) (.pr (.sl (.pr .str .nil)) .nil))))) l19 fun y26 y27 l24 =>
    wdL (.pr (.int .i64) (.pr .str (.pr .str .nil))) l24 fun y31 y32 l29 =>
    wn l29 <|
    wcL kV l2 fun y36 y37 l34 =>
    wcI .i64 l34 fun y41 l39 =>
    wn l39 <|
    (ob (F122 fuel y7 y11 y12 y16 y17 y21 y22 y26 y27 y31 y32 y36 y37 y41) fun t => K [.v (.ro false (.pr .str kV) t.1 t.2)])
  nat := fun args {ρ} K => by
    simp only [bind_wagg, bind_wc, bind_wcI, bind_wcL, bind_wdL, bind_wdS, bind_wn, bind_ob, Option.bind_some]
theorem d122 {P : Program} (fuel : Nat) (hmix : P.follows .mixedOrders = true) (hC : Sound P (C50 fuel)) (hF : FFits P 21 A21) (args res : List A) (h : (O122 fuel).o args some = some res) : Den P 21 args res := by
  obtain ⟨a1, l2, rfl, z0⟩ := inv_wc h
  obtain ⟨l3, rfl, z1⟩ := inv_wagg z0
  obtain ⟨a4, y7, l5, rfl, h6, z2⟩ := inv_wdS z1
  obtain ⟨a8, y11, y12, l9, rfl, h10, z3⟩ := inv_wdL z2
  obtain ⟨a13, y16, y17, l14, rfl, h15, z4⟩ := inv_wdL z3
  obtain ⟨a18, y21, y22, l19, rfl, h20, z5⟩ := inv_wdL z4
  obtain ⟨a23, y26, y27, l24, rfl, h25, z6⟩ := inv_wdL z5
  obtain ⟨a28, y31, y32, l29, rfl, h30, z7⟩ := inv_wdL z6
  obtain ⟨hn, z8⟩ := inv_wn z7
  cases hn
  obtain ⟨a33, y36, y37, l34, rfl, h35, z9⟩ := inv_wcL z8
  obtain ⟨a38, y41, l39, rfl, h40, z10⟩ := inv_wcI z9
  obtain ⟨hn, z11⟩ := inv_wn z10
  cases hn
  exact Den.weaken (.cons (WkA.agg (.cons h6 (.cons h10 (.cons h15 (.cons h20 (.cons h25 (.cons h30 .nil))))))) (.cons h35 (.cons h40 .nil))) (evalF_sound hmix hC hF ((e122 fuel y7 y11 y12 y16 y17 y21 y22 y26 y27 y31 y32 y36 y37 y41).trans z11))
def C51 (fuel : Nat) : Oracle := (C50 fuel).add 21 (fun _ => true) (O122 fuel)
def A66 : AF := ⟨22, [.cell 2 88 (some 8)],
  (.seq (.region 0 [o1 1 (bx 0 68 0), o1 2 (.alloc 1 88 [vci 0, vci 0, vci 0, vci 0, vci 0, vci 0, vci 0, vci 0])] 2 none) []
  (.seq (.region 1 [o1 3 (fa 68 1 0 0), o1 4 (ln 40 2 3), o1 5 (fa 68 1 1 2), o1 6 (fa 40 5 0 0), o1 7 (lo 3 6), o1 8 (fa 68 1 0 0), o1 9 (fa 40 8 1 1), o1 10 (lo 3 9), o1 11 (.build 40 [vci 0, vci 0] [(0, 1), (1, 1)] 0 [(0, (tm 7)), (1, (tm 10))]), o1 12 (fa 68 1 1 2), o1 13 (ln 40 2 12), o1 14 (fa 68 1 0 0), o1 15 (fa 40 14 0 0), o1 16 (lo 3 15), o1 17 (fa 68 1 1 2), o1 18 (fa 40 17 1 1), o1 19 (lo 3 18), o1 20 (.build 40 [vci 0, vci 0] [(0, 1), (1, 1)] 0 [(0, (tm 16)), (1, (tm 19))]), o1 21 (.build 88 [vci 0, vci 0, vci 0, vci 0, vci 0, vci 0, vci 0, vci 0] [] 2 [(0, (tm 4)), (1, (tm 11)), (2, (tm 13)), (3, (tm 20))]), o0 (.store 88 8 (tm 2) (tm 21))] 0 none) []
  (.ret (0 :: 1 :: (rl 3 19 [])))))⟩
def D123 {ρ : Type} (fuel : Nat) (x1 x2 x3 x4 : Int) (k : (Int × Int × Int × Int × Int × Int × Int × Int) → Option ρ) : Option ρ :=
  (k (x1, x2, x3, x2, x3, x4, x1, x4))
def F123 (fuel : Nat) (x1 x2 x3 x4 : Int) : Option (Int × Int × Int × Int × Int × Int × Int × Int) := D123 fuel x1 x2 x3 x4 some
theorem f123 {ρ : Type} (fuel : Nat) (x1 x2 x3 x4 : Int) (k : (Int × Int × Int × Int × Int × Int × Int × Int) → Option ρ) : D123 fuel x1 x2 x3 x4 k = ob (F123 fuel x1 x2 x3 x4) k := by
  simp only [F123, D123, ob_bif, ob_ob, ob_none, ob_some]
theorem walk123 (fuel : Nat) (x1 x2 x3 x4 : Int) :
    evalF (C51 fuel) fuel A66 [.agg [(vi x1), (vi x2), (vi x3), (vi x4)]] =
    (some [.agg [(vi x1), (vi x2), (vi x3), (vi x2), (vi x3), (vi x4), (vi x1), (vi x4)]]) := by kernel_rfl
theorem e123 (fuel : Nat) (x1 x2 x3 x4 : Int) : evalF (C51 fuel) fuel A66 [.agg [(vi x1), (vi x2), (vi x3), (vi x4)]] = ob (F123 fuel x1 x2 x3 x4) fun t => some [.agg [(vi t.1), (vi t.2.1), (vi t.2.2.1), (vi t.2.2.2.1), (vi t.2.2.2.2.1), (vi t.2.2.2.2.2.1), (vi t.2.2.2.2.2.2.1), (vi t.2.2.2.2.2.2.2)]] := by
  rw [walk123, ← f123]
  simp only [D123]
def O123 (fuel : Nat) : Ora where
  o := fun args {ρ} K =>
    wc args fun a1 l2 =>
    wagg a1 fun l3 =>
    wdI .i64 l3 fun y7 l5 =>
    wdI .i64 l5 fun y11 l9 =>
    wdI .i64 l9 fun y15 l13 =>
    wdI .i64 l13 fun y19 l17 =>
    wn l17 <|
    wn l2 <|
    (ob (F123 fuel y7 y11 y15 y19) fun t => K [.agg [(vi t.1), (vi t.2.1), (vi t.2.2.1), (vi t.2.2.2.1), (vi t.2.2.2.2.1), (vi t.2.2.2.2.2.1), (vi t.2.2.2.2.2.2.1), (vi t.2.2.2.2.2.2.2)]])
  nat := fun args {ρ} K => by
    simp only [bind_wagg, bind_wc, bind_wdI, bind_wn, bind_ob, Option.bind_some]
theorem d123 {P : Program} (fuel : Nat) (hmix : P.follows .mixedOrders = true) (hC : Sound P (C51 fuel)) (hF : FFits P 66 A66) (args res : List A) (h : (O123 fuel).o args some = some res) : Den P 66 args res := by
  obtain ⟨a1, l2, rfl, z0⟩ := inv_wc h
  obtain ⟨l3, rfl, z1⟩ := inv_wagg z0
  obtain ⟨a4, y7, l5, rfl, h6, z2⟩ := inv_wdI z1
  obtain ⟨a8, y11, l9, rfl, h10, z3⟩ := inv_wdI z2
  obtain ⟨a12, y15, l13, rfl, h14, z4⟩ := inv_wdI z3
  obtain ⟨a16, y19, l17, rfl, h18, z5⟩ := inv_wdI z4
  obtain ⟨hn, z6⟩ := inv_wn z5
  cases hn
  obtain ⟨hn, z7⟩ := inv_wn z6
  cases hn
  exact Den.weaken (.cons (WkA.agg (.cons h6 (.cons h10 (.cons h14 (.cons h18 .nil))))) .nil) (evalF_sound hmix hC hF ((e123 fuel y7 y11 y15 y19).trans z7))
def C52 (fuel : Nat) : Oracle := (C51 fuel).add 66 (fun _ => true) (O123 fuel)
def A67v1 : AC := (.seq (.block 1
  (.seq (.region 6 [o1 58 (.index 88 40 4 2 (some 2) (tm 55) (tm 56)), o1 10 (.alloc 0 40 [vci 0, vci 0]), o0 (.store 40 2 (tm 10) (tm 58))] 1 none) []
    (.seq (.region 7 [o1 59 (fa 40 5 0 0), o1 60 (lo 3 59), o1 61 (fa 40 4 0 0), o1 62 (lo 3 61), o1 63 (bt .sub 3 60 62), o1 64 (fa 40 10 1 1), o1 65 (lo 3 64), o1 66 (fa 40 4 1 1), o1 67 (lo 3 66), o1 68 (bt .sub 3 65 67), o1 69 (bt .mul 3 63 68), o1 70 (fa 40 5 1 1), o1 71 (lo 3 70), o1 72 (fa 40 4 1 1), o1 73 (lo 3 72), o1 74 (bt .sub 3 71 73), o1 75 (fa 40 10 0 0), o1 76 (lo 3 75), o1 77 (fa 40 4 0 0), o1 78 (lo 3 77), o1 79 (bt .sub 3 76 78), o1 80 (bt .mul 3 74 79), o1 81 (bt .sub 3 69 80), o1 11 (sg 81)] 0 none) []
    (.region 8 [mv 82 7, mv 83 82, og 84 (.move (tm 11)) 83 false, og 85 (bk .gtr 3 84 0) 83 false, o1 86 (pa 83 85), mv 87 8, mv 88 87, og 89 (.move (tm 11)) 88 false, og 90 (bk .lss 3 89 0) 88 false, o1 91 (pa 88 90), o1 7 (sg 86), o1 8 (sg 91)] 0 none)))) []
  (.region 9 [o1 92 (bk .add 3 56 1), mv 56 92] 0 none))
def A67v2 : AC := (.seq (.region 5 [o1 57 (bk .lss 3 56 4)] 0 none) []
  (.seq (.cond (tm 57)
  .skip
  (.exit 0 (rl 0 7 (rl 9 88 [])))) []
  A67v1))
def A67v3 : AC := (.seq (.region 10 [mv 93 7, mv 94 93, og 95 (.move (tm 8)) 94 true, o1 96 (po 94 95), o1 6 (sg 96)] 0 none) []
  (.ret (rl 0 6 (rl 7 90 []))))
def A67v4 : AC := (.seq (.region 3 [o1 7 (sb false), o1 8 (sb false)] 0 none) []
  (.seq (.seq (.region 4 [o1 54 (ln 68 4 3), o1 55 (cs 66 [54] [68]), o1 56 (.move (ic 0))] 0 none) []
  (.block 0
  (.loop [] (rl 0 4 (6 :: (rl 9 46 (rl 57 40 []))))
    A67v2))) (10 :: 11 :: (rl 54 39 []))
  A67v3))
def A67 : AF := ⟨97, [.tmp 6],
  (.seq (.region 0 [o1 3 (bx 0 68 0), o1 4 (bx 1 40 1), o1 5 (bx 2 40 2), o1 6 (sb false)] 3 none) []
  (.seq (.seq (.region 1 [o1 12 (fa 40 4 0 0), o1 13 (lo 3 12), o1 14 (fa 40 5 0 0), o1 15 (lo 3 14), o1 16 (.mm true [(tm 13), (tm 15)] [3, 3]), o1 17 (fa 68 3 0 0), o1 18 (fa 40 17 0 0), o1 19 (lo 3 18), o1 20 (bt .leq 3 16 19), mv 21 20, og 22 (fa 40 4 0 0) 21 false, og 23 (lo 3 22) 21 false, og 24 (fa 40 5 0 0) 21 false, og 25 (lo 3 24) 21 false, og 26 (.mm false [(tm 23), (tm 25)] [3, 3]) 21 false, og 27 (fa 68 3 1 2) 21 false, og 28 (fa 40 27 0 0) 21 false, og 29 (lo 3 28) 21 false, og 30 (bt .geq 3 26 29) 21 false, o1 31 (pa 21 30), mv 32 31, og 33 (fa 40 4 1 1) 32 false, og 34 (lo 3 33) 32 false, og 35 (fa 40 5 1 1) 32 false, og 36 (lo 3 35) 32 false, og 37 (.mm true [(tm 34), (tm 36)] [3, 3]) 32 false, og 38 (fa 68 3 0 0) 32 false, og 39 (fa 40 38 1 1) 32 false, og 40 (lo 3 39) 32 false, og 41 (bt .leq 3 37 40) 32 false, o1 42 (pa 32 41), mv 43 42, og 44 (fa 40 4 1 1) 43 false, og 45 (lo 3 44) 43 false, og 46 (fa 40 5 1 1) 43 false, og 47 (lo 3 46) 43 false, og 48 (.mm false [(tm 45), (tm 47)] [3, 3]) 43 false, og 49 (fa 68 3 1 2) 43 false, og 50 (fa 40 49 1 1) 43 false, og 51 (lo 3 50) 43 false, og 52 (bt .geq 3 48 51) 43 false, o1 53 (pa 43 52)] 0 none) []
  (.cond (tm 53)
  (.seq (.region 2 [o1 6 (sb false)] 0 none) []
    (.ret (rl 0 6 (rl 7 90 []))))
  .skip)) (6 :: (rl 12 42 []))
  A67v4))⟩
def B124v1 (C : Oracle) (fuel : Nat) {ρ : Type} : St → (Ex → St → Option ρ) → Option ρ := fun st k => evalC C fuel A67v2 st k
def N124v1 : St → Option St := fun s => s.norm (rl 0 4 (6 :: (rl 9 46 (rl 57 40 [])))) 3
def s124v0 (x26 x27 : Bool) (x28 x29 x30 x31 x32 x33 x34 x35 x36 x37 x38 x39 x40 x41 x42 x43 x44 : Int) : St := ⟨(us 4 (.x (.ptr 1 0) :: .x (.ptr 2 0) :: .u :: vxb x26 :: vxb x27 :: (us 46 (.agg [(vci x28), (vci x29), (vci x30), (vci x31), (vci x32), (vci x33), (vci x34), (vci x35)] :: vxi x36 :: (us 40 []))))), [.box [(vci x37), (vci x38), (vci x39), (vci x40)], .box [(vci x41), (vci x42)], .box [(vci x43), (vci x44)]]⟩
def s124v1 (x45 x46 : Bool) (x37 x38 x39 x40 x41 x42 x43 x44 : Int) : St := ⟨(us 7 (vxb x45 :: vxb x46 :: (us 88 []))), [.box [(vci x37), (vci x38), (vci x39), (vci x40)], .box [(vci x41), (vci x42)], .box [(vci x43), (vci x44)]]⟩
def L124v1 {ρ : Type} (fuel : Nat) (x28 x29 x30 x31 x32 x33 x34 x35 x37 x38 x39 x40 x41 x42 x43 x44 : Int) : Nat → Bool → Bool → Int → (Bool → Bool → Option ρ) → Option ρ
  | 0, _, _, _, _ => none
  | m + 1, x26, x27, x36, k0 =>
    (bif (decide (x36 < 4)) then (bif (x36 == 0) then (bif (x26 == false) then (bif (x27 == false) then (L124v1 fuel x28 x29 x30 x31 x32 x33 x34 x35 x37 x38 x39 x40 x41 x42 x43 x44 m (decide ((w64 ((w64 ((w64 (x43 - x41)) * (w64 (x29 - x42)))) - (w64 ((w64 (x44 - x42)) * (w64 (x28 - x41)))))) > 0)) (decide ((w64 ((w64 ((w64 (x43 - x41)) * (w64 (x29 - x42)))) - (w64 ((w64 (x44 - x42)) * (w64 (x28 - x41)))))) < 0)) (w64 (x36 + 1)) k0) else (L124v1 fuel x28 x29 x30 x31 x32 x33 x34 x35 x37 x38 x39 x40 x41 x42 x43 x44 m (decide ((w64 ((w64 ((w64 (x43 - x41)) * (w64 (x29 - x42)))) - (w64 ((w64 (x44 - x42)) * (w64 (x28 - x41)))))) > 0)) true (w64 (x36 + 1)) k0)) else (bif (x27 == false) then (L124v1 fuel x28 x29 x30 x31 x32 x33 x34 x35 x37 x38 x39 x40 x41 x42 x43 x44 m true (decide ((w64 ((w64 ((w64 (x43 - x41)) * (w64 (x29 - x42)))) - (w64 ((w64 (x44 - x42)) * (w64 (x28 - x41)))))) < 0)) (w64 (x36 + 1)) k0) else (L124v1 fuel x28 x29 x30 x31 x32 x33 x34 x35 x37 x38 x39 x40 x41 x42 x43 x44 m true true (w64 (x36 + 1)) k0))) else (bif (x36 == 1) then (bif (x26 == false) then (bif (x27 == false) then (L124v1 fuel x28 x29 x30 x31 x32 x33 x34 x35 x37 x38 x39 x40 x41 x42 x43 x44 m (decide ((w64 ((w64 ((w64 (x43 - x41)) * (w64 (x31 - x42)))) - (w64 ((w64 (x44 - x42)) * (w64 (x30 - x41)))))) > 0)) (decide ((w64 ((w64 ((w64 (x43 - x41)) * (w64 (x31 - x42)))) - (w64 ((w64 (x44 - x42)) * (w64 (x30 - x41)))))) < 0)) (w64 (x36 + 1)) k0) else (L124v1 fuel x28 x29 x30 x31 x32 x33 x34 x35 x37 x38 x39 x40 x41 x42 x43 x44 m (decide ((w64 ((w64 ((w64 (x43 - x41)) * (w64 (x31 - x42)))) - (w64 ((w64 (x44 - x42)) * (w64 (x30 - x41)))))) > 0)) true (w64 (x36 + 1)) k0)) else (bif (x27 == false) then (L124v1 fuel x28 x29 x30 x31 x32 x33 x34 x35 x37 x38 x39 x40 x41 x42 x43 x44 m true (decide ((w64 ((w64 ((w64 (x43 - x41)) * (w64 (x31 - x42)))) - (w64 ((w64 (x44 - x42)) * (w64 (x30 - x41)))))) < 0)) (w64 (x36 + 1)) k0) else (L124v1 fuel x28 x29 x30 x31 x32 x33 x34 x35 x37 x38 x39 x40 x41 x42 x43 x44 m true true (w64 (x36 + 1)) k0))) else (bif (x36 == 2) then (bif (x26 == false) then (bif (x27 == false) then (L124v1 fuel x28 x29 x30 x31 x32 x33 x34 x35 x37 x38 x39 x40 x41 x42 x43 x44 m (decide ((w64 ((w64 ((w64 (x43 - x41)) * (w64 (x33 - x42)))) - (w64 ((w64 (x44 - x42)) * (w64 (x32 - x41)))))) > 0)) (decide ((w64 ((w64 ((w64 (x43 - x41)) * (w64 (x33 - x42)))) - (w64 ((w64 (x44 - x42)) * (w64 (x32 - x41)))))) < 0)) (w64 (x36 + 1)) k0) else (L124v1 fuel x28 x29 x30 x31 x32 x33 x34 x35 x37 x38 x39 x40 x41 x42 x43 x44 m (decide ((w64 ((w64 ((w64 (x43 - x41)) * (w64 (x33 - x42)))) - (w64 ((w64 (x44 - x42)) * (w64 (x32 - x41)))))) > 0)) true (w64 (x36 + 1)) k0)) else (bif (x27 == false) then (L124v1 fuel x28 x29 x30 x31 x32 x33 x34 x35 x37 x38 x39 x40 x41 x42 x43 x44 m true (decide ((w64 ((w64 ((w64 (x43 - x41)) * (w64 (x33 - x42)))) - (w64 ((w64 (x44 - x42)) * (w64 (x32 - x41)))))) < 0)) (w64 (x36 + 1)) k0) else (L124v1 fuel x28 x29 x30 x31 x32 x33 x34 x35 x37 x38 x39 x40 x41 x42 x43 x44 m true true (w64 (x36 + 1)) k0))) else (bif (x36 == 3) then (bif (x26 == false) then (bif (x27 == false) then (L124v1 fuel x28 x29 x30 x31 x32 x33 x34 x35 x37 x38 x39 x40 x41 x42 x43 x44 m (decide ((w64 ((w64 ((w64 (x43 - x41)) * (w64 (x35 - x42)))) - (w64 ((w64 (x44 - x42)) * (w64 (x34 - x41)))))) > 0)) (decide ((w64 ((w64 ((w64 (x43 - x41)) * (w64 (x35 - x42)))) - (w64 ((w64 (x44 - x42)) * (w64 (x34 - x41)))))) < 0)) (w64 (x36 + 1)) k0) else (L124v1 fuel x28 x29 x30 x31 x32 x33 x34 x35 x37 x38 x39 x40 x41 x42 x43 x44 m (decide ((w64 ((w64 ((w64 (x43 - x41)) * (w64 (x35 - x42)))) - (w64 ((w64 (x44 - x42)) * (w64 (x34 - x41)))))) > 0)) true (w64 (x36 + 1)) k0)) else (bif (x27 == false) then (L124v1 fuel x28 x29 x30 x31 x32 x33 x34 x35 x37 x38 x39 x40 x41 x42 x43 x44 m true (decide ((w64 ((w64 ((w64 (x43 - x41)) * (w64 (x35 - x42)))) - (w64 ((w64 (x44 - x42)) * (w64 (x34 - x41)))))) < 0)) (w64 (x36 + 1)) k0) else (L124v1 fuel x28 x29 x30 x31 x32 x33 x34 x35 x37 x38 x39 x40 x41 x42 x43 x44 m true true (w64 (x36 + 1)) k0))) else none)))) else (k0 x26 x27))
theorem nl124v1 {ρ σ : Type} (fuel : Nat) (x28 x29 x30 x31 x32 x33 x34 x35 x37 x38 x39 x40 x41 x42 x43 x44 : Int) (g : ρ → Option σ) : ∀ (m : Nat) (x26 x27 : Bool) (x36 : Int) (k0 : Bool → Bool → Option ρ), ob (L124v1 fuel x28 x29 x30 x31 x32 x33 x34 x35 x37 x38 x39 x40 x41 x42 x43 x44 m x26 x27 x36 k0) g = L124v1 fuel x28 x29 x30 x31 x32 x33 x34 x35 x37 x38 x39 x40 x41 x42 x43 x44 m x26 x27 x36 (fun x45 x46 => ob (k0 x45 x46) g)
  | 0, _, _, _, _ => rfl
  | m + 1, x26, x27, x36, k0 => by
    simp only [L124v1, ob_bif, ob_ob, ob_none, nl124v1 fuel x28 x29 x30 x31 x32 x33 x34 x35 x37 x38 x39 x40 x41 x42 x43 x44 g m]
theorem r124v1 (fuel : Nat) (m : Nat) {ρ : Type} (k : Ex → St → Option ρ) (x28 x29 x30 x31 x32 x33 x34 x35 x37 x38 x39 x40 x41 x42 x43 x44 : Int) (x26 x27 : Bool) (x36 : Int) :
    loopH (B124v1 (C52 fuel) fuel) N124v1 (m + 1) (s124v0 x26 x27 x28 x29 x30 x31 x32 x33 x34 x35 x36 x37 x38 x39 x40 x41 x42 x43 x44) k =
    (bif (decide (x36 < 4)) then (bif (x36 == 0) then (bif (x26 == false) then (bif (x27 == false) then (loopH (B124v1 (C52 fuel) fuel) N124v1 m (s124v0 (decide ((w64 ((w64 ((w64 (x43 - x41)) * (w64 (x29 - x42)))) - (w64 ((w64 (x44 - x42)) * (w64 (x28 - x41)))))) > 0)) (decide ((w64 ((w64 ((w64 (x43 - x41)) * (w64 (x29 - x42)))) - (w64 ((w64 (x44 - x42)) * (w64 (x28 - x41)))))) < 0)) x28 x29 x30 x31 x32 x33 x34 x35 (w64 (x36 + 1)) x37 x38 x39 x40 x41 x42 x43 x44) k) else (loopH (B124v1 (C52 fuel) fuel) N124v1 m (s124v0 (decide ((w64 ((w64 ((w64 (x43 - x41)) * (w64 (x29 - x42)))) - (w64 ((w64 (x44 - x42)) * (w64 (x28 - x41)))))) > 0)) true x28 x29 x30 x31 x32 x33 x34 x35 (w64 (x36 + 1)) x37 x38 x39 x40 x41 x42 x43 x44) k)) else (bif (x27 == false) then (loopH (B124v1 (C52 fuel) fuel) N124v1 m (s124v0 true (decide ((w64 ((w64 ((w64 (x43 - x41)) * (w64 (x29 - x42)))) - (w64 ((w64 (x44 - x42)) * (w64 (x28 - x41)))))) < 0)) x28 x29 x30 x31 x32 x33 x34 x35 (w64 (x36 + 1)) x37 x38 x39 x40 x41 x42 x43 x44) k) else (loopH (B124v1 (C52 fuel) fuel) N124v1 m (s124v0 true true x28 x29 x30 x31 x32 x33 x34 x35 (w64 (x36 + 1)) x37 x38 x39 x40 x41 x42 x43 x44) k))) else (bif (x36 == 1) then (bif (x26 == false) then (bif (x27 == false) then (loopH (B124v1 (C52 fuel) fuel) N124v1 m (s124v0 (decide ((w64 ((w64 ((w64 (x43 - x41)) * (w64 (x31 - x42)))) - (w64 ((w64 (x44 - x42)) * (w64 (x30 - x41)))))) > 0)) (decide ((w64 ((w64 ((w64 (x43 - x41)) * (w64 (x31 - x42)))) - (w64 ((w64 (x44 - x42)) * (w64 (x30 - x41)))))) < 0)) x28 x29 x30 x31 x32 x33 x34 x35 (w64 (x36 + 1)) x37 x38 x39 x40 x41 x42 x43 x44) k) else (loopH (B124v1 (C52 fuel) fuel) N124v1 m (s124v0 (decide ((w64 ((w64 ((w64 (x43 - x41)) * (w64 (x31 - x42)))) - (w64 ((w64 (x44 - x42)) * (w64 (x30 - x41)))))) > 0)) true x28 x29 x30 x31 x32 x33 x34 x35 (w64 (x36 + 1)) x37 x38 x39 x40 x41 x42 x43 x44) k)) else (bif (x27 == false) then (loopH (B124v1 (C52 fuel) fuel) N124v1 m (s124v0 true (decide ((w64 ((w64 ((w64 (x43 - x41)) * (w64 (x31 - x42)))) - (w64 ((w64 (x44 - x42)) * (w64 (x30 - x41)))))) < 0)) x28 x29 x30 x31 x32 x33 x34 x35 (w64 (x36 + 1)) x37 x38 x39 x40 x41 x42 x43 x44) k) else (loopH (B124v1 (C52 fuel) fuel) N124v1 m (s124v0 true true x28 x29 x30 x31 x32 x33 x34 x35 (w64 (x36 + 1)) x37 x38 x39 x40 x41 x42 x43 x44) k))) else (bif (x36 == 2) then (bif (x26 == false) then (bif (x27 == false) then (loopH (B124v1 (C52 fuel) fuel) N124v1 m (s124v0 (decide ((w64 ((w64 ((w64 (x43 - x41)) * (w64 (x33 - x42)))) - (w64 ((w64 (x44 - x42)) * (w64 (x32 - x41)))))) > 0)) (decide ((w64 ((w64 ((w64 (x43 - x41)) * (w64 (x33 - x42)))) - (w64 ((w64 (x44 - x42)) * (w64 (x32 - x41)))))) < 0)) x28 x29 x30 x31 x32 x33 x34 x35 (w64 (x36 + 1)) x37 x38 x39 x40 x41 x42 x43 x44) k) else (loopH (B124v1 (C52 fuel) fuel) N124v1 m (s124v0 (decide ((w64 ((w64 ((w64 (x43 - x41)) * (w64 (x33 - x42)))) - (w64 ((w64 (x44 - x42)) * (w64 (x32 - x41)))))) > 0)) true x28 x29 x30 x31 x32 x33 x34 x35 (w64 (x36 + 1)) x37 x38 x39 x40 x41 x42 x43 x44) k)) else (bif (x27 == false) then (loopH (B124v1 (C52 fuel) fuel) N124v1 m (s124v0 true (decide ((w64 ((w64 ((w64 (x43 - x41)) * (w64 (x33 - x42)))) - (w64 ((w64 (x44 - x42)) * (w64 (x32 - x41)))))) < 0)) x28 x29 x30 x31 x32 x33 x34 x35 (w64 (x36 + 1)) x37 x38 x39 x40 x41 x42 x43 x44) k) else (loopH (B124v1 (C52 fuel) fuel) N124v1 m (s124v0 true true x28 x29 x30 x31 x32 x33 x34 x35 (w64 (x36 + 1)) x37 x38 x39 x40 x41 x42 x43 x44) k))) else (bif (x36 == 3) then (bif (x26 == false) then (bif (x27 == false) then (loopH (B124v1 (C52 fuel) fuel) N124v1 m (s124v0 (decide ((w64 ((w64 ((w64 (x43 - x41)) * (w64 (x35 - x42)))) - (w64 ((w64 (x44 - x42)) * (w64 (x34 - x41)))))) > 0)) (decide ((w64 ((w64 ((w64 (x43 - x41)) * (w64 (x35 - x42)))) - (w64 ((w64 (x44 - x42)) * (w64 (x34 - x41)))))) < 0)) x28 x29 x30 x31 x32 x33 x34 x35 (w64 (x36 + 1)) x37 x38 x39 x40 x41 x42 x43 x44) k) else (loopH (B124v1 (C52 fuel) fuel) N124v1 m (s124v0 (decide ((w64 ((w64 ((w64 (x43 - x41)) * (w64 (x35 - x42)))) - (w64 ((w64 (x44 - x42)) * (w64 (x34 - x41)))))) > 0)) true x28 x29 x30 x31 x32 x33 x34 x35 (w64 (x36 + 1)) x37 x38 x39 x40 x41 x42 x43 x44) k)) else (bif (x27 == false) then (loopH (B124v1 (C52 fuel) fuel) N124v1 m (s124v0 true (decide ((w64 ((w64 ((w64 (x43 - x41)) * (w64 (x35 - x42)))) - (w64 ((w64 (x44 - x42)) * (w64 (x34 - x41)))))) < 0)) x28 x29 x30 x31 x32 x33 x34 x35 (w64 (x36 + 1)) x37 x38 x39 x40 x41 x42 x43 x44) k) else (loopH (B124v1 (C52 fuel) fuel) N124v1 m (s124v0 true true x28 x29 x30 x31 x32 x33 x34 x35 (w64 (x36 + 1)) x37 x38 x39 x40 x41 x42 x43 x44) k))) else none)))) else (k (.exit 0) (s124v1 x26 x27 x37 x38 x39 x40 x41 x42 x43 x44))) := by kernel_rfl
theorem q124v1 (fuel : Nat) (x28 x29 x30 x31 x32 x33 x34 x35 x37 x38 x39 x40 x41 x42 x43 x44 : Int) {ρ : Type} (k : Ex → St → Option ρ) : ∀ (m : Nat) (x26 x27 : Bool) (x36 : Int),
    loopH (B124v1 (C52 fuel) fuel) N124v1 m (s124v0 x26 x27 x28 x29 x30 x31 x32 x33 x34 x35 x36 x37 x38 x39 x40 x41 x42 x43 x44) k = L124v1 fuel x28 x29 x30 x31 x32 x33 x34 x35 x37 x38 x39 x40 x41 x42 x43 x44 m x26 x27 x36 (fun x45 x46 => k (.exit 0) (s124v1 x45 x46 x37 x38 x39 x40 x41 x42 x43 x44))
  | 0, _, _, _ => rfl
  | m + 1, x26, x27, x36 => by
    rw [r124v1]
    simp only [L124v1, q124v1 fuel x28 x29 x30 x31 x32 x33 x34 x35 x37 x38 x39 x40 x41 x42 x43 x44 k m]
def D124 {ρ : Type} (fuel : Nat) (x1 x2 x3 x4 x5 x6 x7 x8 : Int) (k : Bool → Option ρ) : Option ρ :=
  (bif ((decide ((if x7 > x5 then x7 else x5) ≤ x1)) == false) then (bif ((decide ((if x7 < x5 then x7 else x5) ≥ x3)) == false) then (bif ((decide ((if x8 > x6 then x8 else x6) ≤ x2)) == false) then (bif (decide ((if x8 < x6 then x8 else x6) ≥ x4)) then (k false) else (ob (F123 fuel x1 x2 x3 x4) fun x9 => (L124v1 fuel x9.1 x9.2.1 x9.2.2.1 x9.2.2.2.1 x9.2.2.2.2.1 x9.2.2.2.2.2.1 x9.2.2.2.2.2.2.1 x9.2.2.2.2.2.2.2 x1 x2 x3 x4 x5 x6 x7 x8 fuel false false 0
    (fun x47 x48 => (bif (x47 == true) then (k x48) else (k false)))))) else (k false)) else (k false)) else (k false))
def F124 (fuel : Nat) (x1 x2 x3 x4 x5 x6 x7 x8 : Int) : Option (Bool) := D124 fuel x1 x2 x3 x4 x5 x6 x7 x8 some
theorem f124 {ρ : Type} (fuel : Nat) (x1 x2 x3 x4 x5 x6 x7 x8 : Int) (k : (Bool) → Option ρ) : D124 fuel x1 x2 x3 x4 x5 x6 x7 x8 k = ob (F124 fuel x1 x2 x3 x4 x5 x6 x7 x8) k := by
  simp only [F124, D124, ob_bif, ob_ob, ob_none, ob_some, nl124v1]
def s124v2 (x1 x2 x3 x4 x5 x6 x7 x8 : Int) (x9 : Int × Int × Int × Int × Int × Int × Int × Int) : St := ⟨(.agg [(vci x1), (vci x2), (vci x3), (vci x4)] :: .agg [(vci x5), (vci x6)] :: .agg [(vci x7), (vci x8)] :: .x (.ptr 0 0) :: .x (.ptr 1 0) :: .x (.ptr 2 0) :: .u :: vxb false :: vxb false :: .undef :: .undef :: .undef :: (us 42 [.agg [(vci x1), (vci x2), (vci x3), (vci x4)], .agg [(vci x9.1), (vci x9.2.1), (vci x9.2.2.1), (vci x9.2.2.2.1), (vci x9.2.2.2.2.1), (vci x9.2.2.2.2.2.1), (vci x9.2.2.2.2.2.2.1), (vci x9.2.2.2.2.2.2.2)], vxi 0, .undef, .undef, .undef, .undef, .undef, .undef, .undef, .undef, .undef, .undef, .undef, .undef, .undef, .undef, .undef, .undef, .undef, .undef, .undef, .undef, .undef, .undef, .undef, .undef, .undef, .undef, .undef, .undef, .undef, .undef, .undef, .undef, .undef, .undef, .undef, .undef, .undef, .undef, .undef, .undef])), [.box [(vci x1), (vci x2), (vci x3), (vci x4)], .box [(vci x5), (vci x6)], .box [(vci x7), (vci x8)]]⟩
theorem walk124 (fuel : Nat) (x1 x2 x3 x4 x5 x6 x7 x8 : Int) :
    evalF (C52 fuel) fuel A67 [.agg [(vi x1), (vi x2), (vi x3), (vi x4)], .agg [(vi x5), (vi x6)], .agg [(vi x7), (vi x8)]] =
    (bif ((decide ((if x7 > x5 then x7 else x5) ≤ x1)) == false) then (bif ((decide ((if x7 < x5 then x7 else x5) ≥ x3)) == false) then (bif ((decide ((if x8 > x6 then x8 else x6) ≤ x2)) == false) then (bif (decide ((if x8 < x6 then x8 else x6) ≥ x4)) then (some [.v (.b false)]) else (ob (F123 fuel x1 x2 x3 x4) fun x9 => (loopN (B124v1 (C52 fuel) fuel) N124v1 fuel (s124v2 x1 x2 x3 x4 x5 x6 x7 x8 x9) (kBlk 0 (kSeq (C52 fuel) fuel (10 :: 11 :: (rl 54 39 [])) A67v3 (finish A67)))))) else (some [.v (.b false)])) else (some [.v (.b false)])) else (some [.v (.b false)])) := by kernel_rfl
theorem t124v1 (fuel : Nat) {ρ : Type} (k : Ex → St → Option ρ) (x1 x2 x3 x4 x5 x6 x7 x8 : Int) (x9 : Int × Int × Int × Int × Int × Int × Int × Int) :
    loopN (B124v1 (C52 fuel) fuel) N124v1 fuel (s124v2 x1 x2 x3 x4 x5 x6 x7 x8 x9) k =
    L124v1 fuel x9.1 x9.2.1 x9.2.2.1 x9.2.2.2.1 x9.2.2.2.2.1 x9.2.2.2.2.2.1 x9.2.2.2.2.2.2.1 x9.2.2.2.2.2.2.2 x1 x2 x3 x4 x5 x6 x7 x8 fuel false false 0 (fun x45 x46 => k (.exit 0) (s124v1 x45 x46 x1 x2 x3 x4 x5 x6 x7 x8)) :=
  (loopN_at (st' := (s124v0 false false x9.1 x9.2.1 x9.2.2.1 x9.2.2.2.1 x9.2.2.2.2.1 x9.2.2.2.2.2.1 x9.2.2.2.2.2.2.1 x9.2.2.2.2.2.2.2 0 x1 x2 x3 x4 x5 x6 x7 x8)) (by kernel_rfl)).trans (q124v1 fuel x9.1 x9.2.1 x9.2.2.1 x9.2.2.2.1 x9.2.2.2.2.1 x9.2.2.2.2.2.1 x9.2.2.2.2.2.2.1 x9.2.2.2.2.2.2.2 x1 x2 x3 x4 x5 x6 x7 x8 k fuel false false 0)
theorem g124v2 (fuel : Nat) (x47 x48 : Bool) (x1 x2 x3 x4 x5 x6 x7 x8 : Int) :
    (kBlk 0 (kSeq (C52 fuel) fuel (10 :: 11 :: (rl 54 39 [])) A67v3 (finish A67))) (.exit 0) (s124v1 x47 x48 x1 x2 x3 x4 x5 x6 x7 x8) =
    (bif (x47 == true) then (some [.v (.b x48)]) else (some [.v (.b false)])) := by kernel_rfl
theorem e124 (fuel : Nat) (x1 x2 x3 x4 x5 x6 x7 x8 : Int) : evalF (C52 fuel) fuel A67 [.agg [(vi x1), (vi x2), (vi x3), (vi x4)], .agg [(vi x5), (vi x6)], .agg [(vi x7), (vi x8)]] = ob (F124 fuel x1 x2 x3 x4 x5 x6 x7 x8) fun t => some [.v (.b t)] := by
  rw [walk124, ← f124]
  simp only [D124, t124v1, g124v2]
def O124 (fuel : Nat) : Ora where
  o := fun args {ρ} K =>
    wc args fun a1 l2 =>
    wagg a1 fun l3 =>
    wdI .i64 l3 fun y7 l5 =>
    wdI .i64 l5 fun y11 l9 =>
    wdI .i64 l9 fun y15 l13 =>
    wdI .i64 l13 fun y19 l17 =>
    wn l17 <|
    wc l2 fun a20 l21 =>
    wagg a20 fun l22 =>
    wdI .i64 l22 fun y26 l24 =>
    wdI .i64 l24 fun y30 l28 =>
    wn l28 <|
    wc l21 fun a31 l32 =>
    wagg a31 fun l33 =>
    wdI .i64 l33 fun y37 l35 =>
    wdI .i64 l35 fun y41 l39 =>
    wn l39 <|
    wn l32 <|
    (ob (F124 fuel y7 y11 y15 y19 y26 y30 y37 y41) fun t => K [.v (.b t)])
  nat := fun args {ρ} K => by
    simp only [bind_wagg, bind_wc, bind_wdI, bind_wn, bind_ob, Option.bind_some]
theorem d124 {P : Program} (fuel : Nat) (hmix : P.follows .mixedOrders = true) (hC : Sound P (C52 fuel)) (hF : FFits P 67 A67) (args res : List A) (h : (O124 fuel).o args some = some res) : Den P 67 args res := by
  obtain ⟨a1, l2, rfl, z0⟩ := inv_wc h
  obtain ⟨l3, rfl, z1⟩ := inv_wagg z0
  obtain ⟨a4, y7, l5, rfl, h6, z2⟩ := inv_wdI z1
  obtain ⟨a8, y11, l9, rfl, h10, z3⟩ := inv_wdI z2
  obtain ⟨a12, y15, l13, rfl, h14, z4⟩ := inv_wdI z3
  obtain ⟨a16, y19, l17, rfl, h18, z5⟩ := inv_wdI z4
  obtain ⟨hn, z6⟩ := inv_wn z5
  cases hn
  obtain ⟨a20, l21, rfl, z7⟩ := inv_wc z6
  obtain ⟨l22, rfl, z8⟩ := inv_wagg z7
  obtain ⟨a23, y26, l24, rfl, h25, z9⟩ := inv_wdI z8
  obtain ⟨a27, y30, l28, rfl, h29, z10⟩ := inv_wdI z9
  obtain ⟨hn, z11⟩ := inv_wn z10
  cases hn
  obtain ⟨a31, l32, rfl, z12⟩ := inv_wc z11
  obtain ⟨l33, rfl, z13⟩ := inv_wagg z12
  obtain ⟨a34, y37, l35, rfl, h36, z14⟩ := inv_wdI z13
  obtain ⟨a38, y41, l39, rfl, h40, z15⟩ := inv_wdI z14
  obtain ⟨hn, z16⟩ := inv_wn z15
  cases hn
  obtain ⟨hn, z17⟩ := inv_wn z16
  cases hn
  exact Den.weaken (.cons (WkA.agg (.cons h6 (.cons h10 (.cons h14 (.cons h18 .nil))))) (.cons (WkA.agg (.cons h25 (.cons h29 .nil))) (.cons (WkA.agg (.cons h36 (.cons h40 .nil))) .nil))) (evalF_sound hmix hC hF ((e124 fuel y7 y11 y15 y19 y26 y30 y37 y41).trans z17))
def C53 (fuel : Nat) : Oracle := (C52 fuel).add 67 (fun _ => true) (O124 fuel)
def A38v1 : AC := (.region 13 [o1 49 (bk .add 3 42 1), mv 42 49] 0 none)
def A38v2 : AC := (.seq (.block 1
  (.seq (.region 10 [o1 44 (.index 88 40 4 2 (some 2) (tm 41) (tm 42)), o1 8 (.alloc 0 40 [vci 0, vci 0]), o0 (.store 40 2 (tm 8) (tm 44))] 1 none) []
    (.seq (.region 11 [o1 45 (ln 25 2 6), o1 46 (ln 40 2 8), o1 47 (cs 27 [45, 46] [25, 40]), o1 48 (bk .lss 3 47 0)] 0 none) []
    (.cond (tm 48)
    (.seq (.region 12 [o1 4 (sb false)] 0 none) []
      (.ret (rl 0 4 (rl 5 64 []))))
    .skip)))) (4 :: 8 :: (rl 44 5 []))
  A38v1)
def A38v3 : AC := (.seq (.region 9 [o1 43 (bk .lss 3 42 4)] 0 none) []
  (.seq (.cond (tm 43)
  .skip
  (.exit 0 (1 :: 2 :: (rl 4 65 [])))) []
  A38v2))
def A38v4 : AC := (.region 19 [o1 68 (bk .add 3 52 1), mv 52 68] 0 none)
def A38v5 : AC := (.seq (.block 3
  (.seq (.region 16 [mv 54 52, o1 55 (.indexAddr 22 40 2 (tm 50) (tm 52)), o1 56 (ln 40 2 55), o1 10 (.alloc 0 40 [vci 0, vci 0]), o1 9 (sg 54), o0 (.store 40 2 (tm 10) (tm 56))] 1 none) []
    (.seq (.region 17 [o1 57 (ln 68 4 3), o1 58 (ln 40 2 10), mv 59 0, mv 60 9, o1 61 (bk .add 3 60 1), mv 62 0, o1 63 (.len 22 false (tm 62)), o1 64 (bt .rem 3 61 63), o1 65 (.indexAddr 22 40 2 (tm 59) (tm 64)), o1 66 (ln 40 2 65), o1 67 (cs 67 [57, 58, 66] [68, 40, 40])] 0 (some [[], [], [], [], [3], [], [5], (rl 3 4 []), (rl 2 6 []), (rl 2 7 []), (rl 0 10 [])])) []
    (.cond (tm 67)
    (.seq (.region 18 [o1 4 (sb false)] 0 none) []
      (.ret (rl 0 4 (rl 5 64 []))))
    .skip)))) (4 :: 9 :: 10 :: (rl 54 14 []))
  A38v4)
def A38v6 : AC := (.seq (.region 15 [o1 53 (bt .lss 3 52 51)] 0 none) []
  (.seq (.cond (tm 53)
  .skip
  (.exit 2 (rl 0 69 []))) []
  A38v5))
def A38v7 : AC := (.seq (.region 20 [o1 4 (sb true)] 0 none) []
  (.ret (rl 0 4 (rl 5 64 []))))
def A38v8 : AC := (.seq (.seq (.region 14 [mv 50 0, o1 51 (.len 22 false (tm 50)), o1 52 (.move (ic 0))] 0 none) []
  (.block 2
  (.loop [] (1 :: 2 :: (rl 4 46 (rl 53 16 [])))
    A38v6))) (4 :: 9 :: 10 :: (rl 50 19 []))
  A38v7)
def A38v9 : AC := (.seq (.seq (.region 8 [o1 40 (ln 68 4 3), o1 41 (cs 66 [40] [68]), o1 42 (.move (ic 0))] 0 none) []
  (.block 0
  (.loop [] (1 :: 2 :: 4 :: 5 :: (rl 7 34 (rl 43 26 [])))
    A38v3))) (4 :: 8 :: (rl 40 10 []))
  A38v8)
def A38v10 : AC := (.seq (.seq (.region 6 [o1 20 (ln 25 2 6), o1 21 (fa 68 3 0 0), o1 22 (fa 40 21 0 0), o1 23 (lo 3 22), o1 24 (fa 68 3 1 2), o1 25 (fa 40 24 0 0), o1 26 (lo 3 25), o1 27 (bt .add 3 23 26), o1 28 (bk .quo 3 27 2), o1 29 (fa 68 3 0 0), o1 30 (fa 40 29 1 1), o1 31 (lo 3 30), o1 32 (fa 68 3 1 2), o1 33 (fa 40 32 1 1), o1 34 (lo 3 33), o1 35 (bt .add 3 31 34), o1 36 (bk .quo 3 35 2), o1 37 (.build 40 [vci 0, vci 0] [(0, 1), (1, 1)] 0 [(0, (tm 28)), (1, (tm 36))]), o1 38 (cs 27 [20, 37] [25, 40]), o1 39 (bk .lss 3 38 1)] 0 none) []
  (.cond (tm 39)
  (.seq (.region 7 [o1 4 (sb false)] 0 none) []
    (.ret (rl 0 4 (rl 5 64 []))))
  .skip)) (4 :: (rl 20 20 []))
  A38v9)
def A38 : AF := ⟨69, [.tmp 4],
  (.seq (.region 0 [o1 3 (bx 0 68 1), o1 4 (sb false)] 1 none) []
  (.seq (.region 1 [mv 11 0, o1 12 (.callo 0 64 [(tm 11)] [22] kP), o1 5 (sg 12)] 1 none) []
  (.seq (.region 2 [mv 13 5, o1 14 (.turn 65 (tm 13) [] [22])] 0 none) []
  (.seq (.region 3 [mv 15 5, o1 16 (.build 25 [vcn, vcn] [(0, 1), (1, 1)] 0 [(0, (tm 15))]), o1 6 (.alloc 0 25 [vcn, vcn]), o0 (.store 25 2 (tm 6) (tm 16))] 1 none) []
  (.seq (.seq (.region 4 [o1 17 (ln 25 2 6), o1 18 (cs 47 [17] [25]), o1 19 (bk .neq 79 18 0)] 0 none) []
  (.cond (tm 19)
  (.seq (.region 5 [o1 4 (sb false)] 0 none) []
    (.ret (rl 0 4 (rl 5 64 []))))
  .skip)) [4, 17, 18, 19]
  A38v10)))))⟩
def B125v1 (C : Oracle) (fuel : Nat) {ρ : Type} : St → (Ex → St → Option ρ) → Option ρ := fun st k => evalC C fuel A38v3 st k
def N125v1 : St → Option St := fun s => s.norm (1 :: 2 :: 4 :: 5 :: (rl 7 34 (rl 43 26 []))) 3
def s125v0 (x25 : Nat) (x26 : FF) (x27 x28 x29 x30 x31 x32 x33 x34 x35 x36 x37 x38 x39 : Int) : St := ⟨(.x (.c (.ro false kP x25 x26)) :: .u :: .u :: .x (.ptr 0 0) :: .u :: .u :: .x (.ptr 2 0) :: (us 34 (.agg [(vci x27), (vci x28), (vci x29), (vci x30), (vci x31), (vci x32), (vci x33), (vci x34)] :: vxi x35 :: (us 26 [])))), [.box [(vci x36), (vci x37), (vci x38), (vci x39)], .arr kP x25 x26, .box [(.own 1 0 x25), (vcn)]]⟩
def s125v1 (x36 x37 x38 x39 : Int) (x25 : Nat) (x26 : FF) (x44 x45 : Int) : St := ⟨(us 4 (vxb false :: (us 64 []))), [.box [(vci x36), (vci x37), (vci x38), (vci x39)], .arr kP x25 x26, .box [(.own 1 0 x25), (vcn)], .box [(vci x44), (vci x45)]]⟩
def s125v2 (x25 : Nat) (x26 : FF) (x36 x37 x38 x39 : Int) : St := ⟨(.x (.c (.ro false kP x25 x26)) :: .u :: .u :: .x (.ptr 0 0) :: (us 65 [])), [.box [(vci x36), (vci x37), (vci x38), (vci x39)], .arr kP x25 x26, .box [(.own 1 0 x25), (vcn)]]⟩
def L125v1 {ρ : Type} (fuel : Nat) (x25 : Nat) (x26 : FF) (x27 x28 x29 x30 x31 x32 x33 x34 x36 x37 x38 x39 : Int) : Nat → Int → (Int → Int → Option ρ) → (Option ρ) → Option ρ
  | 0, _, _, _ => none
  | m + 1, x35, k0, k1 =>
    (bif (decide (x35 < 4)) then (bif (x35 == 0) then (ob (F22 fuel x25 x26 0 (fun _ _ => .any) x27 x28) fun x40 => (bif (decide (x40 < 0)) then (k0 x27 x28) else (L125v1 fuel x25 x26 x27 x28 x29 x30 x31 x32 x33 x34 x36 x37 x38 x39 m (w64 (x35 + 1)) k0 k1))) else (bif (x35 == 1) then (ob (F22 fuel x25 x26 0 (fun _ _ => .any) x29 x30) fun x41 => (bif (decide (x41 < 0)) then (k0 x29 x30) else (L125v1 fuel x25 x26 x27 x28 x29 x30 x31 x32 x33 x34 x36 x37 x38 x39 m (w64 (x35 + 1)) k0 k1))) else (bif (x35 == 2) then (ob (F22 fuel x25 x26 0 (fun _ _ => .any) x31 x32) fun x42 => (bif (decide (x42 < 0)) then (k0 x31 x32) else (L125v1 fuel x25 x26 x27 x28 x29 x30 x31 x32 x33 x34 x36 x37 x38 x39 m (w64 (x35 + 1)) k0 k1))) else (bif (x35 == 3) then (ob (F22 fuel x25 x26 0 (fun _ _ => .any) x33 x34) fun x43 => (bif (decide (x43 < 0)) then (k0 x33 x34) else (L125v1 fuel x25 x26 x27 x28 x29 x30 x31 x32 x33 x34 x36 x37 x38 x39 m (w64 (x35 + 1)) k0 k1))) else none)))) else k1)
theorem nl125v1 {ρ σ : Type} (fuel : Nat) (x25 : Nat) (x26 : FF) (x27 x28 x29 x30 x31 x32 x33 x34 x36 x37 x38 x39 : Int) (g : ρ → Option σ) : ∀ (m : Nat) (x35 : Int) (k0 : Int → Int → Option ρ) (k1 : Option ρ), ob (L125v1 fuel x25 x26 x27 x28 x29 x30 x31 x32 x33 x34 x36 x37 x38 x39 m x35 k0 k1) g = L125v1 fuel x25 x26 x27 x28 x29 x30 x31 x32 x33 x34 x36 x37 x38 x39 m x35 (fun x44 x45 => ob (k0 x44 x45) g) (ob k1 g)
  | 0, _, _, _ => rfl
  | m + 1, x35, k0, k1 => by
    simp only [L125v1, ob_bif, ob_ob, ob_none, nl125v1 fuel x25 x26 x27 x28 x29 x30 x31 x32 x33 x34 x36 x37 x38 x39 g m]
theorem r125v1 (fuel : Nat) (m : Nat) {ρ : Type} (k : Ex → St → Option ρ) (x25 : Nat) (x26 : FF) (x27 x28 x29 x30 x31 x32 x33 x34 x36 x37 x38 x39 x35 : Int) :
    loopH (B125v1 (C53 fuel) fuel) N125v1 (m + 1) (s125v0 x25 x26 x27 x28 x29 x30 x31 x32 x33 x34 x35 x36 x37 x38 x39) k =
    (bif (decide (x35 < 4)) then (bif (x35 == 0) then (ob (F22 fuel x25 x26 0 nilF x27 x28) fun x40 => (bif (decide (x40 < 0)) then (k .ret (s125v1 x36 x37 x38 x39 x25 x26 x27 x28)) else (loopH (B125v1 (C53 fuel) fuel) N125v1 m (s125v0 x25 x26 x27 x28 x29 x30 x31 x32 x33 x34 (w64 (x35 + 1)) x36 x37 x38 x39) k))) else (bif (x35 == 1) then (ob (F22 fuel x25 x26 0 nilF x29 x30) fun x41 => (bif (decide (x41 < 0)) then (k .ret (s125v1 x36 x37 x38 x39 x25 x26 x29 x30)) else (loopH (B125v1 (C53 fuel) fuel) N125v1 m (s125v0 x25 x26 x27 x28 x29 x30 x31 x32 x33 x34 (w64 (x35 + 1)) x36 x37 x38 x39) k))) else (bif (x35 == 2) then (ob (F22 fuel x25 x26 0 nilF x31 x32) fun x42 => (bif (decide (x42 < 0)) then (k .ret (s125v1 x36 x37 x38 x39 x25 x26 x31 x32)) else (loopH (B125v1 (C53 fuel) fuel) N125v1 m (s125v0 x25 x26 x27 x28 x29 x30 x31 x32 x33 x34 (w64 (x35 + 1)) x36 x37 x38 x39) k))) else (bif (x35 == 3) then (ob (F22 fuel x25 x26 0 nilF x33 x34) fun x43 => (bif (decide (x43 < 0)) then (k .ret (s125v1 x36 x37 x38 x39 x25 x26 x33 x34)) else (loopH (B125v1 (C53 fuel) fuel) N125v1 m (s125v0 x25 x26 x27 x28 x29 x30 x31 x32 x33 x34 (w64 (x35 + 1)) x36 x37 x38 x39) k))) else none)))) else (k (.exit 0) (s125v2 x25 x26 x36 x37 x38 x39))) := by kernel_rfl
theorem q125v1 (fuel : Nat) (x25 : Nat) (x26 : FF) (x27 x28 x29 x30 x31 x32 x33 x34 x36 x37 x38 x39 : Int) {ρ : Type} (k : Ex → St → Option ρ) : ∀ (m : Nat) (x35 : Int),
    loopH (B125v1 (C53 fuel) fuel) N125v1 m (s125v0 x25 x26 x27 x28 x29 x30 x31 x32 x33 x34 x35 x36 x37 x38 x39) k = L125v1 fuel x25 x26 x27 x28 x29 x30 x31 x32 x33 x34 x36 x37 x38 x39 m x35 (fun x44 x45 => k .ret (s125v1 x36 x37 x38 x39 x25 x26 x44 x45)) (k (.exit 0) (s125v2 x25 x26 x36 x37 x38 x39))
  | 0, _ => rfl
  | m + 1, x35 => by
    rw [r125v1]
    simp only [L125v1, q125v1 fuel x25 x26 x27 x28 x29 x30 x31 x32 x33 x34 x36 x37 x38 x39 k m]
def B125v2 (C : Oracle) (fuel : Nat) {ρ : Type} : St → (Ex → St → Option ρ) → Option ρ := fun st k => evalC C fuel A38v6 st k
def N125v2 : St → Option St := fun s => s.norm (1 :: 2 :: (rl 4 46 (rl 53 16 []))) 3
def s125v3 (x57 : Nat) (x58 : FF) (x59 x60 x61 x62 x63 x64 : Int) : St := ⟨(.x (.c (.ro false kP x57 x58)) :: .u :: .u :: .x (.ptr 0 0) :: (us 46 (.x (.c (.ro false kP x57 x58)) :: vxi x59 :: vxi x60 :: (us 16 [])))), [.box [(vci x61), (vci x62), (vci x63), (vci x64)], .arr kP x57 x58, .box [(.own 1 0 x57), (vcn)]]⟩
def s125v4 (x61 x62 x63 x64 : Int) (x57 : Nat) (x58 : FF) (x66 x67 : Int) : St := ⟨(us 4 (vxb false :: (us 64 []))), [.box [(vci x61), (vci x62), (vci x63), (vci x64)], .arr kP x57 x58, .box [(.own 1 0 x57), (vcn)], .box [(vci x66), (vci x67)]]⟩
def s125v5 (x61 x62 x63 x64 : Int) (x57 : Nat) (x58 : FF) : St := ⟨(us 69 []), [.box [(vci x61), (vci x62), (vci x63), (vci x64)], .arr kP x57 x58, .box [(.own 1 0 x57), (vcn)]]⟩
def L125v2 {ρ : Type} (fuel : Nat) (x57 : Nat) (x58 : FF) (x59 x61 x62 x63 x64 : Int) : Nat → Int → (Int → Int → Option ρ) → (Option ρ) → Option ρ
  | 0, _, _, _ => none
  | m + 1, x60, k0, k1 =>
    (bif (decide (x60 < x59)) then (bif (inb x60 x57) then (bif ((Int.ofNat x57) == 0) then none else (bif (inb (Int.tmod (w64 (x60 + 1)) (Int.ofNat x57)) x57) then (ob (F124 fuel x61 x62 x63 x64 (CV.int (x58 (Int.toNat x60) 0)) (CV.int (x58 (Int.toNat x60) 1)) (CV.int (x58 (Int.toNat (Int.tmod (w64 (x60 + 1)) (Int.ofNat x57))) 0)) (CV.int (x58 (Int.toNat (Int.tmod (w64 (x60 + 1)) (Int.ofNat x57))) 1))) fun x65 => (bif x65 then (k0 (CV.int (x58 (Int.toNat x60) 0)) (CV.int (x58 (Int.toNat x60) 1))) else (L125v2 fuel x57 x58 x59 x61 x62 x63 x64 m (w64 (x60 + 1)) k0 k1))) else none)) else none) else k1)
theorem nl125v2 {ρ σ : Type} (fuel : Nat) (x57 : Nat) (x58 : FF) (x59 x61 x62 x63 x64 : Int) (g : ρ → Option σ) : ∀ (m : Nat) (x60 : Int) (k0 : Int → Int → Option ρ) (k1 : Option ρ), ob (L125v2 fuel x57 x58 x59 x61 x62 x63 x64 m x60 k0 k1) g = L125v2 fuel x57 x58 x59 x61 x62 x63 x64 m x60 (fun x66 x67 => ob (k0 x66 x67) g) (ob k1 g)
  | 0, _, _, _ => rfl
  | m + 1, x60, k0, k1 => by
    simp only [L125v2, ob_bif, ob_ob, ob_none, nl125v2 fuel x57 x58 x59 x61 x62 x63 x64 g m]
theorem r125v2 (fuel : Nat) (m : Nat) {ρ : Type} (k : Ex → St → Option ρ) (x57 : Nat) (x58 : FF) (x59 x61 x62 x63 x64 x60 : Int) :
    loopH (B125v2 (C53 fuel) fuel) N125v2 (m + 1) (s125v3 x57 x58 x59 x60 x61 x62 x63 x64) k =
    (bif (decide (x60 < x59)) then (bif (inb x60 x57) then (bif ((Int.ofNat x57) == 0) then none else (bif (inb (Int.tmod (w64 (x60 + 1)) (Int.ofNat x57)) x57) then (ob (F124 fuel x61 x62 x63 x64 (CV.int (x58 (Int.toNat x60) 0)) (CV.int (x58 (Int.toNat x60) 1)) (CV.int (x58 (Int.toNat (Int.tmod (w64 (x60 + 1)) (Int.ofNat x57))) 0)) (CV.int (x58 (Int.toNat (Int.tmod (w64 (x60 + 1)) (Int.ofNat x57))) 1))) fun x65 => (bif x65 then (k .ret (s125v4 x61 x62 x63 x64 x57 x58 (CV.int (x58 (Int.toNat x60) 0)) (CV.int (x58 (Int.toNat x60) 1)))) else (loopH (B125v2 (C53 fuel) fuel) N125v2 m (s125v3 x57 x58 x59 (w64 (x60 + 1)) x61 x62 x63 x64) k))) else none)) else none) else (k (.exit 2) (s125v5 x61 x62 x63 x64 x57 x58))) := by kernel_rfl
theorem q125v2 (fuel : Nat) (x57 : Nat) (x58 : FF) (x59 x61 x62 x63 x64 : Int) {ρ : Type} (k : Ex → St → Option ρ) : ∀ (m : Nat) (x60 : Int),
    loopH (B125v2 (C53 fuel) fuel) N125v2 m (s125v3 x57 x58 x59 x60 x61 x62 x63 x64) k = L125v2 fuel x57 x58 x59 x61 x62 x63 x64 m x60 (fun x66 x67 => k .ret (s125v4 x61 x62 x63 x64 x57 x58 x66 x67)) (k (.exit 2) (s125v5 x61 x62 x63 x64 x57 x58))
  | 0, _ => rfl
  | m + 1, x60 => by
    rw [r125v2]
    simp only [L125v2, q125v2 fuel x57 x58 x59 x61 x62 x63 x64 k m]
def B125v3 (C : Oracle) (fuel : Nat) {ρ : Type} : St → (Ex → St → Option ρ) → Option ρ := fun st k => evalC C fuel A38v3 st k
def N125v3 : St → Option St := fun s => s.norm (1 :: 2 :: 4 :: 5 :: (rl 7 34 (rl 43 26 []))) 3
def s125v6 (x89 : Nat) (x90 : FF) (x91 x92 x93 x94 x95 x96 x97 x98 x99 x100 x101 x102 x103 : Int) (x104 : FF) : St := ⟨(.x (.c (.ro false kP x89 x90)) :: .u :: .u :: .x (.ptr 0 0) :: .u :: .u :: .x (.ptr 2 0) :: (us 34 (.agg [(vci x91), (vci x92), (vci x93), (vci x94), (vci x95), (vci x96), (vci x97), (vci x98)] :: vxi x99 :: (us 26 [])))), [.box [(vci x100), (vci x101), (vci x102), (vci x103)], .arr kP x89 x104, .box [(.own 1 0 x89), (vcn)]]⟩
def s125v7 (x100 x101 x102 x103 : Int) (x89 : Nat) (x104 : FF) (x109 x110 : Int) : St := ⟨(us 4 (vxb false :: (us 64 []))), [.box [(vci x100), (vci x101), (vci x102), (vci x103)], .arr kP x89 x104, .box [(.own 1 0 x89), (vcn)], .box [(vci x109), (vci x110)]]⟩
def s125v8 (x89 : Nat) (x90 : FF) (x100 x101 x102 x103 : Int) (x104 : FF) : St := ⟨(.x (.c (.ro false kP x89 x90)) :: .u :: .u :: .x (.ptr 0 0) :: (us 65 [])), [.box [(vci x100), (vci x101), (vci x102), (vci x103)], .arr kP x89 x104, .box [(.own 1 0 x89), (vcn)]]⟩
def L125v3 {ρ : Type} (fuel : Nat) (x89 : Nat) (x90 : FF) (x91 x92 x93 x94 x95 x96 x97 x98 x100 x101 x102 x103 : Int) (x104 : FF) : Nat → Int → (Int → Int → Option ρ) → (Option ρ) → Option ρ
  | 0, _, _, _ => none
  | m + 1, x99, k0, k1 =>
    (bif (decide (x99 < 4)) then (bif (x99 == 0) then (ob (F22 fuel x89 x104 0 (fun _ _ => .any) x91 x92) fun x105 => (bif (decide (x105 < 0)) then (k0 x91 x92) else (L125v3 fuel x89 x90 x91 x92 x93 x94 x95 x96 x97 x98 x100 x101 x102 x103 x104 m (w64 (x99 + 1)) k0 k1))) else (bif (x99 == 1) then (ob (F22 fuel x89 x104 0 (fun _ _ => .any) x93 x94) fun x106 => (bif (decide (x106 < 0)) then (k0 x93 x94) else (L125v3 fuel x89 x90 x91 x92 x93 x94 x95 x96 x97 x98 x100 x101 x102 x103 x104 m (w64 (x99 + 1)) k0 k1))) else (bif (x99 == 2) then (ob (F22 fuel x89 x104 0 (fun _ _ => .any) x95 x96) fun x107 => (bif (decide (x107 < 0)) then (k0 x95 x96) else (L125v3 fuel x89 x90 x91 x92 x93 x94 x95 x96 x97 x98 x100 x101 x102 x103 x104 m (w64 (x99 + 1)) k0 k1))) else (bif (x99 == 3) then (ob (F22 fuel x89 x104 0 (fun _ _ => .any) x97 x98) fun x108 => (bif (decide (x108 < 0)) then (k0 x97 x98) else (L125v3 fuel x89 x90 x91 x92 x93 x94 x95 x96 x97 x98 x100 x101 x102 x103 x104 m (w64 (x99 + 1)) k0 k1))) else none)))) else k1)
theorem nl125v3 {ρ σ : Type} (fuel : Nat) (x89 : Nat) (x90 : FF) (x91 x92 x93 x94 x95 x96 x97 x98 x100 x101 x102 x103 : Int) (x104 : FF) (g : ρ → Option σ) : ∀ (m : Nat) (x99 : Int) (k0 : Int → Int → Option ρ) (k1 : Option ρ), ob (L125v3 fuel x89 x90 x91 x92 x93 x94 x95 x96 x97 x98 x100 x101 x102 x103 x104 m x99 k0 k1) g = L125v3 fuel x89 x90 x91 x92 x93 x94 x95 x96 x97 x98 x100 x101 x102 x103 x104 m x99 (fun x109 x110 => ob (k0 x109 x110) g) (ob k1 g)
  | 0, _, _, _ => rfl
  | m + 1, x99, k0, k1 => by
    simp only [L125v3, ob_bif, ob_ob, ob_none, nl125v3 fuel x89 x90 x91 x92 x93 x94 x95 x96 x97 x98 x100 x101 x102 x103 x104 g m]
theorem r125v3 (fuel : Nat) (m : Nat) {ρ : Type} (k : Ex → St → Option ρ) (x89 : Nat) (x90 : FF) (x91 x92 x93 x94 x95 x96 x97 x98 x100 x101 x102 x103 : Int) (x104 : FF) (x99 : Int) :
    loopH (B125v3 (C53 fuel) fuel) N125v3 (m + 1) (s125v6 x89 x90 x91 x92 x93 x94 x95 x96 x97 x98 x99 x100 x101 x102 x103 x104) k =
    (bif (decide (x99 < 4)) then (bif (x99 == 0) then (ob (F22 fuel x89 x104 0 nilF x91 x92) fun x105 => (bif (decide (x105 < 0)) then (k .ret (s125v7 x100 x101 x102 x103 x89 x104 x91 x92)) else (loopH (B125v3 (C53 fuel) fuel) N125v3 m (s125v6 x89 x90 x91 x92 x93 x94 x95 x96 x97 x98 (w64 (x99 + 1)) x100 x101 x102 x103 x104) k))) else (bif (x99 == 1) then (ob (F22 fuel x89 x104 0 nilF x93 x94) fun x106 => (bif (decide (x106 < 0)) then (k .ret (s125v7 x100 x101 x102 x103 x89 x104 x93 x94)) else (loopH (B125v3 (C53 fuel) fuel) N125v3 m (s125v6 x89 x90 x91 x92 x93 x94 x95 x96 x97 x98 (w64 (x99 + 1)) x100 x101 x102 x103 x104) k))) else (bif (x99 == 2) then (ob (F22 fuel x89 x104 0 nilF x95 x96) fun x107 => (bif (decide (x107 < 0)) then (k .ret (s125v7 x100 x101 x102 x103 x89 x104 x95 x96)) else (loopH (B125v3 (C53 fuel) fuel) N125v3 m (s125v6 x89 x90 x91 x92 x93 x94 x95 x96 x97 x98 (w64 (x99 + 1)) x100 x101 x102 x103 x104) k))) else (bif (x99 == 3) then (ob (F22 fuel x89 x104 0 nilF x97 x98) fun x108 => (bif (decide (x108 < 0)) then (k .ret (s125v7 x100 x101 x102 x103 x89 x104 x97 x98)) else (loopH (B125v3 (C53 fuel) fuel) N125v3 m (s125v6 x89 x90 x91 x92 x93 x94 x95 x96 x97 x98 (w64 (x99 + 1)) x100 x101 x102 x103 x104) k))) else none)))) else (k (.exit 0) (s125v8 x89 x90 x100 x101 x102 x103 x104))) := by kernel_rfl
theorem q125v3 (fuel : Nat) (x89 : Nat) (x90 : FF) (x91 x92 x93 x94 x95 x96 x97 x98 x100 x101 x102 x103 : Int) (x104 : FF) {ρ : Type} (k : Ex → St → Option ρ) : ∀ (m : Nat) (x99 : Int),
    loopH (B125v3 (C53 fuel) fuel) N125v3 m (s125v6 x89 x90 x91 x92 x93 x94 x95 x96 x97 x98 x99 x100 x101 x102 x103 x104) k = L125v3 fuel x89 x90 x91 x92 x93 x94 x95 x96 x97 x98 x100 x101 x102 x103 x104 m x99 (fun x109 x110 => k .ret (s125v7 x100 x101 x102 x103 x89 x104 x109 x110)) (k (.exit 0) (s125v8 x89 x90 x100 x101 x102 x103 x104))
  | 0, _ => rfl
  | m + 1, x99 => by
    rw [r125v3]
    simp only [L125v3, q125v3 fuel x89 x90 x91 x92 x93 x94 x95 x96 x97 x98 x100 x101 x102 x103 x104 k m]
def B125v4 (C : Oracle) (fuel : Nat) {ρ : Type} : St → (Ex → St → Option ρ) → Option ρ := fun st k => evalC C fuel A38v6 st k
def N125v4 : St → Option St := fun s => s.norm (1 :: 2 :: (rl 4 46 (rl 53 16 []))) 3
def s125v9 (x122 : Nat) (x123 : FF) (x124 x125 x126 x127 x128 x129 : Int) (x130 : FF) : St := ⟨(.x (.c (.ro false kP x122 x123)) :: .u :: .u :: .x (.ptr 0 0) :: (us 46 (.x (.c (.ro false kP x122 x123)) :: vxi x124 :: vxi x125 :: (us 16 [])))), [.box [(vci x126), (vci x127), (vci x128), (vci x129)], .arr kP x122 x130, .box [(.own 1 0 x122), (vcn)]]⟩
def s125v10 (x126 x127 x128 x129 : Int) (x122 : Nat) (x130 : FF) (x132 x133 : Int) : St := ⟨(us 4 (vxb false :: (us 64 []))), [.box [(vci x126), (vci x127), (vci x128), (vci x129)], .arr kP x122 x130, .box [(.own 1 0 x122), (vcn)], .box [(vci x132), (vci x133)]]⟩
def s125v11 (x126 x127 x128 x129 : Int) (x122 : Nat) (x130 : FF) : St := ⟨(us 69 []), [.box [(vci x126), (vci x127), (vci x128), (vci x129)], .arr kP x122 x130, .box [(.own 1 0 x122), (vcn)]]⟩
def L125v4 {ρ : Type} (fuel : Nat) (x122 : Nat) (x123 : FF) (x124 x126 x127 x128 x129 : Int) (x130 : FF) : Nat → Int → (Int → Int → Option ρ) → (Option ρ) → Option ρ
  | 0, _, _, _ => none
  | m + 1, x125, k0, k1 =>
    (bif (decide (x125 < x124)) then (bif (inb x125 x122) then (bif ((Int.ofNat x122) == 0) then none else (bif (inb (Int.tmod (w64 (x125 + 1)) (Int.ofNat x122)) x122) then (ob (F124 fuel x126 x127 x128 x129 (CV.int (x123 (Int.toNat x125) 0)) (CV.int (x123 (Int.toNat x125) 1)) (CV.int (x123 (Int.toNat (Int.tmod (w64 (x125 + 1)) (Int.ofNat x122))) 0)) (CV.int (x123 (Int.toNat (Int.tmod (w64 (x125 + 1)) (Int.ofNat x122))) 1))) fun x131 => (bif x131 then (k0 (CV.int (x123 (Int.toNat x125) 0)) (CV.int (x123 (Int.toNat x125) 1))) else (L125v4 fuel x122 x123 x124 x126 x127 x128 x129 x130 m (w64 (x125 + 1)) k0 k1))) else none)) else none) else k1)
theorem nl125v4 {ρ σ : Type} (fuel : Nat) (x122 : Nat) (x123 : FF) (x124 x126 x127 x128 x129 : Int) (x130 : FF) (g : ρ → Option σ) : ∀ (m : Nat) (x125 : Int) (k0 : Int → Int → Option ρ) (k1 : Option ρ), ob (L125v4 fuel x122 x123 x124 x126 x127 x128 x129 x130 m x125 k0 k1) g = L125v4 fuel x122 x123 x124 x126 x127 x128 x129 x130 m x125 (fun x132 x133 => ob (k0 x132 x133) g) (ob k1 g)
  | 0, _, _, _ => rfl
  | m + 1, x125, k0, k1 => by
    simp only [L125v4, ob_bif, ob_ob, ob_none, nl125v4 fuel x122 x123 x124 x126 x127 x128 x129 x130 g m]
theorem r125v4 (fuel : Nat) (m : Nat) {ρ : Type} (k : Ex → St → Option ρ) (x122 : Nat) (x123 : FF) (x124 x126 x127 x128 x129 : Int) (x130 : FF) (x125 : Int) :
    loopH (B125v4 (C53 fuel) fuel) N125v4 (m + 1) (s125v9 x122 x123 x124 x125 x126 x127 x128 x129 x130) k =
    (bif (decide (x125 < x124)) then (bif (inb x125 x122) then (bif ((Int.ofNat x122) == 0) then none else (bif (inb (Int.tmod (w64 (x125 + 1)) (Int.ofNat x122)) x122) then (ob (F124 fuel x126 x127 x128 x129 (CV.int (x123 (Int.toNat x125) 0)) (CV.int (x123 (Int.toNat x125) 1)) (CV.int (x123 (Int.toNat (Int.tmod (w64 (x125 + 1)) (Int.ofNat x122))) 0)) (CV.int (x123 (Int.toNat (Int.tmod (w64 (x125 + 1)) (Int.ofNat x122))) 1))) fun x131 => (bif x131 then (k .ret (s125v10 x126 x127 x128 x129 x122 x130 (CV.int (x123 (Int.toNat x125) 0)) (CV.int (x123 (Int.toNat x125) 1)))) else (loopH (B125v4 (C53 fuel) fuel) N125v4 m (s125v9 x122 x123 x124 (w64 (x125 + 1)) x126 x127 x128 x129 x130) k))) else none)) else none) else (k (.exit 2) (s125v11 x126 x127 x128 x129 x122 x130))) := by kernel_rfl
theorem q125v4 (fuel : Nat) (x122 : Nat) (x123 : FF) (x124 x126 x127 x128 x129 : Int) (x130 : FF) {ρ : Type} (k : Ex → St → Option ρ) : ∀ (m : Nat) (x125 : Int),
    loopH (B125v4 (C53 fuel) fuel) N125v4 m (s125v9 x122 x123 x124 x125 x126 x127 x128 x129 x130) k = L125v4 fuel x122 x123 x124 x126 x127 x128 x129 x130 m x125 (fun x132 x133 => k .ret (s125v10 x126 x127 x128 x129 x122 x130 x132 x133)) (k (.exit 2) (s125v11 x126 x127 x128 x129 x122 x130))
  | 0, _ => rfl
  | m + 1, x125 => by
    rw [r125v4]
    simp only [L125v4, q125v4 fuel x122 x123 x124 x126 x127 x128 x129 x130 k m]
def D125 {ρ : Type} (fuel : Nat) (x1 : Nat) (x2 : FF) (x3 x4 x5 x6 : Int) (k : Bool → Option ρ) : Option ρ :=
  (bif (Nat.ble x1 1073741824) then (bif (Nat.beq x1 x1) then (bif (Nat.beq x1 0) then (ob (F13 fuel x1 x2 0 (fun _ _ => .any)) fun x7 => (bif (x7 != 0) then (k false) else (ob (F22 fuel x1 x2 0 (fun _ _ => .any) (w64 (Int.tdiv (w64 (x3 + x5)) 2)) (w64 (Int.tdiv (w64 (x4 + x6)) 2))) fun x8 => (bif (decide (x8 < 1)) then (k false) else (ob (F123 fuel x3 x4 x5 x6) fun x9 => (L125v1 fuel x1 x2 x9.1 x9.2.1 x9.2.2.1 x9.2.2.2.1 x9.2.2.2.2.1 x9.2.2.2.2.2.1 x9.2.2.2.2.2.2.1 x9.2.2.2.2.2.2.2 x3 x4 x5 x6 fuel 0
    (fun x46 x47 => (k false))
    (L125v2 fuel x1 x2 (Int.ofNat x1) x3 x4 x5 x6 fuel 0
    (fun x68 x69 => (k false))
    (k true)))))))) else (ob (F13 fuel x1 (revF x1 x2) 0 (fun _ _ => .any)) fun x70 => (bif (x70 != 0) then (k false) else (ob (F22 fuel x1 (revF x1 x2) 0 (fun _ _ => .any) (w64 (Int.tdiv (w64 (x3 + x5)) 2)) (w64 (Int.tdiv (w64 (x4 + x6)) 2))) fun x71 => (bif (decide (x71 < 1)) then (k false) else (ob (F123 fuel x3 x4 x5 x6) fun x72 => (L125v3 fuel x1 x2 x72.1 x72.2.1 x72.2.2.1 x72.2.2.2.1 x72.2.2.2.2.1 x72.2.2.2.2.2.1 x72.2.2.2.2.2.2.1 x72.2.2.2.2.2.2.2 x3 x4 x5 x6 (revF x1 x2) fuel 0
    (fun x111 x112 => (k false))
    (L125v4 fuel x1 x2 (Int.ofNat x1) x3 x4 x5 x6 (revF x1 x2) fuel 0
    (fun x134 x135 => (k false))
    (k true))))))))) else none) else none)
def F125 (fuel : Nat) (x1 : Nat) (x2 : FF) (x3 x4 x5 x6 : Int) : Option (Bool) := D125 fuel x1 x2 x3 x4 x5 x6 some
theorem f125 {ρ : Type} (fuel : Nat) (x1 : Nat) (x2 : FF) (x3 x4 x5 x6 : Int) (k : (Bool) → Option ρ) : D125 fuel x1 x2 x3 x4 x5 x6 k = ob (F125 fuel x1 x2 x3 x4 x5 x6) k := by
  simp only [F125, D125, ob_bif, ob_ob, ob_none, ob_some, nl125v1, nl125v2, nl125v3, nl125v4]
def s125v12 (x1 : Nat) (x2 : FF) (x3 x4 x5 x6 : Int) (x9 : Int × Int × Int × Int × Int × Int × Int × Int) : St := ⟨(.x (.c (.ro false kP x1 x2)) :: .agg [(vci x3), (vci x4), (vci x5), (vci x6)] :: .undef :: .x (.ptr 0 0) :: .u :: .x (.own 1 0 x1) :: .x (.ptr 2 0) :: .undef :: .undef :: .undef :: .undef :: .x (.c (.ro false kP x1 x2)) :: .x (.own 1 0 x1) :: .x (.own 1 0 x1) :: .u :: .x (.own 1 0 x1) :: .agg [(.own 1 0 x1), (vcn)] :: (us 23 [.agg [(vci x3), (vci x4), (vci x5), (vci x6)], .agg [(vci x9.1), (vci x9.2.1), (vci x9.2.2.1), (vci x9.2.2.2.1), (vci x9.2.2.2.2.1), (vci x9.2.2.2.2.2.1), (vci x9.2.2.2.2.2.2.1), (vci x9.2.2.2.2.2.2.2)], vxi 0, .undef, .undef, .undef, .undef, .undef, .undef, .undef, .undef, .undef, .undef, .undef, .undef, .undef, .undef, .undef, .undef, .undef, .undef, .undef, .undef, .undef, .undef, .undef, .undef, .undef, .undef])), [.box [(vci x3), (vci x4), (vci x5), (vci x6)], .arr kP x1 x2, .box [(.own 1 0 x1), (vcn)]]⟩
def s125v13 (x1 : Nat) (x2 : FF) (x3 x4 x5 x6 : Int) (x72 : Int × Int × Int × Int × Int × Int × Int × Int) : St := ⟨(.x (.c (.ro false kP x1 x2)) :: .agg [(vci x3), (vci x4), (vci x5), (vci x6)] :: .undef :: .x (.ptr 0 0) :: .u :: .x (.own 1 0 x1) :: .x (.ptr 2 0) :: .undef :: .undef :: .undef :: .undef :: .x (.c (.ro false kP x1 x2)) :: .x (.own 1 0 x1) :: .x (.own 1 0 x1) :: .u :: .x (.own 1 0 x1) :: .agg [(.own 1 0 x1), (vcn)] :: (us 23 [.agg [(vci x3), (vci x4), (vci x5), (vci x6)], .agg [(vci x72.1), (vci x72.2.1), (vci x72.2.2.1), (vci x72.2.2.2.1), (vci x72.2.2.2.2.1), (vci x72.2.2.2.2.2.1), (vci x72.2.2.2.2.2.2.1), (vci x72.2.2.2.2.2.2.2)], vxi 0, .undef, .undef, .undef, .undef, .undef, .undef, .undef, .undef, .undef, .undef, .undef, .undef, .undef, .undef, .undef, .undef, .undef, .undef, .undef, .undef, .undef, .undef, .undef, .undef, .undef, .undef])), [.box [(vci x3), (vci x4), (vci x5), (vci x6)], .arr kP x1 (revF x1 x2), .box [(.own 1 0 x1), (vcn)]]⟩
theorem walk125 (fuel : Nat) (x1 : Nat) (x2 : FF) (x3 x4 x5 x6 : Int) :
    evalF (C53 fuel) fuel A38 [.v (.ro false kP x1 x2), .agg [(vi x3), (vi x4), (vi x5), (vi x6)]] =
    (bif (Nat.ble x1 1073741824) then (bif (Nat.beq x1 x1) then (bif (Nat.beq x1 0) then (ob (F13 fuel x1 x2 0 nilF) fun x7 => (bif (x7 != 0) then (some [.v (.b false)]) else (ob (F22 fuel x1 x2 0 nilF (w64 (Int.tdiv (w64 (x3 + x5)) 2)) (w64 (Int.tdiv (w64 (x4 + x6)) 2))) fun x8 => (bif (decide (x8 < 1)) then (some [.v (.b false)]) else (ob (F123 fuel x3 x4 x5 x6) fun x9 => (loopN (B125v1 (C53 fuel) fuel) N125v1 fuel (s125v12 x1 x2 x3 x4 x5 x6 x9) (kBlk 0 (kSeq (C53 fuel) fuel (4 :: 8 :: (rl 40 10 [])) A38v8 (finish A38))))))))) else (ob (F13 fuel x1 (revF x1 x2) 0 nilF) fun x70 => (bif (x70 != 0) then (some [.v (.b false)]) else (ob (F22 fuel x1 (revF x1 x2) 0 nilF (w64 (Int.tdiv (w64 (x3 + x5)) 2)) (w64 (Int.tdiv (w64 (x4 + x6)) 2))) fun x71 => (bif (decide (x71 < 1)) then (some [.v (.b false)]) else (ob (F123 fuel x3 x4 x5 x6) fun x72 => (loopN (B125v3 (C53 fuel) fuel) N125v3 fuel (s125v13 x1 x2 x3 x4 x5 x6 x72) (kBlk 0 (kSeq (C53 fuel) fuel (4 :: 8 :: (rl 40 10 [])) A38v8 (finish A38)))))))))) else none) else none) := by kernel_rfl
theorem t125v1 (fuel : Nat) {ρ : Type} (k : Ex → St → Option ρ) (x1 : Nat) (x2 : FF) (x3 x4 x5 x6 : Int) (x9 : Int × Int × Int × Int × Int × Int × Int × Int) :
    loopN (B125v1 (C53 fuel) fuel) N125v1 fuel (s125v12 x1 x2 x3 x4 x5 x6 x9) k =
    L125v1 fuel x1 x2 x9.1 x9.2.1 x9.2.2.1 x9.2.2.2.1 x9.2.2.2.2.1 x9.2.2.2.2.2.1 x9.2.2.2.2.2.2.1 x9.2.2.2.2.2.2.2 x3 x4 x5 x6 fuel 0 (fun x44 x45 => k .ret (s125v1 x3 x4 x5 x6 x1 x2 x44 x45)) (k (.exit 0) (s125v2 x1 x2 x3 x4 x5 x6)) :=
  (loopN_at (st' := (s125v0 x1 x2 x9.1 x9.2.1 x9.2.2.1 x9.2.2.2.1 x9.2.2.2.2.1 x9.2.2.2.2.2.1 x9.2.2.2.2.2.2.1 x9.2.2.2.2.2.2.2 0 x3 x4 x5 x6)) (by kernel_rfl)).trans (q125v1 fuel x1 x2 x9.1 x9.2.1 x9.2.2.1 x9.2.2.2.1 x9.2.2.2.2.1 x9.2.2.2.2.2.1 x9.2.2.2.2.2.2.1 x9.2.2.2.2.2.2.2 x3 x4 x5 x6 k fuel 0)
theorem g125v2 (fuel : Nat) (x3 x4 x5 x6 : Int) (x1 : Nat) (x2 : FF) (x46 x47 : Int) :
    (kBlk 0 (kSeq (C53 fuel) fuel (4 :: 8 :: (rl 40 10 [])) A38v8 (finish A38))) .ret (s125v1 x3 x4 x5 x6 x1 x2 x46 x47) =
    (some [.v (.b false)]) := by kernel_rfl
def s125v14 (x1 : Nat) (x2 : FF) (x3 x4 x5 x6 : Int) : St := ⟨(.x (.c (.ro false kP x1 x2)) :: .u :: .u :: .x (.ptr 0 0) :: (us 46 (.x (.c (.ro false kP x1 x2)) :: vxi (Int.ofNat x1) :: vxi 0 :: (us 16 [])))), [.box [(vci x3), (vci x4), (vci x5), (vci x6)], .arr kP x1 x2, .box [(.own 1 0 x1), (vcn)]]⟩
theorem g125v3 (fuel : Nat) (x1 : Nat) (x2 : FF) (x3 x4 x5 x6 : Int) :
    (kBlk 0 (kSeq (C53 fuel) fuel (4 :: 8 :: (rl 40 10 [])) A38v8 (finish A38))) (.exit 0) (s125v2 x1 x2 x3 x4 x5 x6) =
    (loopN (B125v2 (C53 fuel) fuel) N125v2 fuel (s125v14 x1 x2 x3 x4 x5 x6) (kBlk 2 (kSeq (C53 fuel) fuel (4 :: 9 :: 10 :: (rl 50 19 [])) A38v7 (finish A38)))) := by kernel_rfl
theorem t125v4 (fuel : Nat) {ρ : Type} (k : Ex → St → Option ρ) (x1 : Nat) (x2 : FF) (x3 x4 x5 x6 : Int) :
    loopN (B125v2 (C53 fuel) fuel) N125v2 fuel (s125v14 x1 x2 x3 x4 x5 x6) k =
    L125v2 fuel x1 x2 (Int.ofNat x1) x3 x4 x5 x6 fuel 0 (fun x66 x67 => k .ret (s125v4 x3 x4 x5 x6 x1 x2 x66 x67)) (k (.exit 2) (s125v5 x3 x4 x5 x6 x1 x2)) :=
  (loopN_at (st' := (s125v3 x1 x2 (Int.ofNat x1) 0 x3 x4 x5 x6)) (by kernel_rfl)).trans (q125v2 fuel x1 x2 (Int.ofNat x1) x3 x4 x5 x6 k fuel 0)
theorem g125v5 (fuel : Nat) (x3 x4 x5 x6 : Int) (x1 : Nat) (x2 : FF) (x68 x69 : Int) :
    (kBlk 2 (kSeq (C53 fuel) fuel (4 :: 9 :: 10 :: (rl 50 19 [])) A38v7 (finish A38))) .ret (s125v4 x3 x4 x5 x6 x1 x2 x68 x69) =
    (some [.v (.b false)]) := by kernel_rfl
theorem g125v6 (fuel : Nat) (x3 x4 x5 x6 : Int) (x1 : Nat) (x2 : FF) :
    (kBlk 2 (kSeq (C53 fuel) fuel (4 :: 9 :: 10 :: (rl 50 19 [])) A38v7 (finish A38))) (.exit 2) (s125v5 x3 x4 x5 x6 x1 x2) =
    (some [.v (.b true)]) := by kernel_rfl
theorem t125v7 (fuel : Nat) {ρ : Type} (k : Ex → St → Option ρ) (x1 : Nat) (x2 : FF) (x3 x4 x5 x6 : Int) (x72 : Int × Int × Int × Int × Int × Int × Int × Int) :
    loopN (B125v3 (C53 fuel) fuel) N125v3 fuel (s125v13 x1 x2 x3 x4 x5 x6 x72) k =
    L125v3 fuel x1 x2 x72.1 x72.2.1 x72.2.2.1 x72.2.2.2.1 x72.2.2.2.2.1 x72.2.2.2.2.2.1 x72.2.2.2.2.2.2.1 x72.2.2.2.2.2.2.2 x3 x4 x5 x6 (revF x1 x2) fuel 0 (fun x109 x110 => k .ret (s125v7 x3 x4 x5 x6 x1 (revF x1 x2) x109 x110)) (k (.exit 0) (s125v8 x1 x2 x3 x4 x5 x6 (revF x1 x2))) :=
  (loopN_at (st' := (s125v6 x1 x2 x72.1 x72.2.1 x72.2.2.1 x72.2.2.2.1 x72.2.2.2.2.1 x72.2.2.2.2.2.1 x72.2.2.2.2.2.2.1 x72.2.2.2.2.2.2.2 0 x3 x4 x5 x6 (revF x1 x2))) (by kernel_rfl)).trans (q125v3 fuel x1 x2 x72.1 x72.2.1 x72.2.2.1 x72.2.2.2.1 x72.2.2.2.2.1 x72.2.2.2.2.2.1 x72.2.2.2.2.2.2.1 x72.2.2.2.2.2.2.2 x3 x4 x5 x6 (revF x1 x2) k fuel 0)
theorem g125v8 (fuel : Nat) (x3 x4 x5 x6 : Int) (x1 : Nat) (x2 : FF) (x111 x112 : Int) :
    (kBlk 0 (kSeq (C53 fuel) fuel (4 :: 8 :: (rl 40 10 [])) A38v8 (finish A38))) .ret (s125v7 x3 x4 x5 x6 x1 (revF x1 x2) x111 x112) =
    (some [.v (.b false)]) := by kernel_rfl
def s125v15 (x1 : Nat) (x2 : FF) (x3 x4 x5 x6 : Int) : St := ⟨(.x (.c (.ro false kP x1 x2)) :: .u :: .u :: .x (.ptr 0 0) :: (us 46 (.x (.c (.ro false kP x1 x2)) :: vxi (Int.ofNat x1) :: vxi 0 :: (us 16 [])))), [.box [(vci x3), (vci x4), (vci x5), (vci x6)], .arr kP x1 (revF x1 x2), .box [(.own 1 0 x1), (vcn)]]⟩
theorem g125v9 (fuel : Nat) (x1 : Nat) (x2 : FF) (x3 x4 x5 x6 : Int) :
    (kBlk 0 (kSeq (C53 fuel) fuel (4 :: 8 :: (rl 40 10 [])) A38v8 (finish A38))) (.exit 0) (s125v8 x1 x2 x3 x4 x5 x6 (revF x1 x2)) =
    (loopN (B125v4 (C53 fuel) fuel) N125v4 fuel (s125v15 x1 x2 x3 x4 x5 x6) (kBlk 2 (kSeq (C53 fuel) fuel (4 :: 9 :: 10 :: (rl 50 19 [])) A38v7 (finish A38)))) := by kernel_rfl
theorem t125v10 (fuel : Nat) {ρ : Type} (k : Ex → St → Option ρ) (x1 : Nat) (x2 : FF) (x3 x4 x5 x6 : Int) :
    loopN (B125v4 (C53 fuel) fuel) N125v4 fuel (s125v15 x1 x2 x3 x4 x5 x6) k =
    L125v4 fuel x1 x2 (Int.ofNat x1) x3 x4 x5 x6 (revF x1 x2) fuel 0 (fun x132 x133 => k .ret (s125v10 x3 x4 x5 x6 x1 (revF x1 x2) x132 x133)) (k (.exit 2) (s125v11 x3 x4 x5 x6 x1 (revF x1 x2))) :=
  (loopN_at (st' := (s125v9 x1 x2 (Int.ofNat x1) 0 x3 x4 x5 x6 (revF x1 x2))) (by kernel_rfl)).trans (q125v4 fuel x1 x2 (Int.ofNat x1) x3 x4 x5 x6 (revF x1 x2) k fuel 0)
theorem g125v11 (fuel : Nat) (x3 x4 x5 x6 : Int) (x1 : Nat) (x2 : FF) (x134 x135 : Int) :
    (kBlk 2 (kSeq (C53 fuel) fuel (4 :: 9 :: 10 :: (rl 50 19 [])) A38v7 (finish A38))) .ret (s125v10 x3 x4 x5 x6 x1 (revF x1 x2) x134 x135) =
    (some [.v (.b false)]) := by kernel_rfl
theorem g125v12 (fuel : Nat) (x3 x4 x5 x6 : Int) (x1 : Nat) (x2 : FF) :
    (kBlk 2 (kSeq (C53 fuel) fuel (4 :: 9 :: 10 :: (rl 50 19 [])) A38v7 (finish A38))) (.exit 2) (s125v11 x3 x4 x5 x6 x1 (revF x1 x2)) =
    (some [.v (.b true)]) := by kernel_rfl
theorem e125 (fuel : Nat) (x1 : Nat) (x2 : FF) (x3 x4 x5 x6 : Int) : evalF (C53 fuel) fuel A38 [.v (.ro false kP x1 x2), .agg [(vi x3), (vi x4), (vi x5), (vi x6)]] = ob (F125 fuel x1 x2 x3 x4 x5 x6) fun t => some [.v (.b t)] := by
  rw [walk125, ← f125]
  simp only [D125, t125v1, g125v2, g125v3, t125v4, g125v5, g125v6, t125v7, g125v8, g125v9, t125v10, g125v11, g125v12]
def O125 (fuel : Nat) : Ora where
  o := fun args {ρ} K =>
    wcL kP args fun y4 y5 l2 =>
    wc l2 fun a6 l7 =>
    wagg a6 fun l8 =>
    wdI .i64 l8 fun y12 l10 =>
    wdI .i64 l10 fun y16 l14 =>
    wdI .i64 l14 fun y20 l18 =>
    wdI .i64 l18 fun y24 l22 =>
    wn l22 <|
    wn l7 <|
    (ob (F125 fuel y4 y5 y12 y16 y20 y24) fun t => K [.v (.b t)])
  nat := fun args {ρ} K => by
    simp only [bind_wagg, bind_wc, bind_wcL, bind_wdI, bind_wn, bind_ob, Option.bind_some]
theorem d125 {P : Program} (fuel : Nat) (hmix : P.follows .mixedOrders = true) (hC : Sound P (C53 fuel)) (hF : FFits P 38 A38) (args res : List A) (h : (O125 fuel).o args some = some res) : Den P 38 args res := by
  obtain ⟨a1, y4, y5, l2, rfl, h3, z0⟩ := inv_wcL h
  obtain ⟨a6, l7, rfl, z1⟩ := inv_wc z0
  obtain ⟨l8, rfl, z2⟩ := inv_wagg z1
  obtain ⟨a9, y12, l10, rfl, h11, z3⟩ := inv_wdI z2
  obtain ⟨a13, y16, l14, rfl, h15, z4⟩ := inv_wdI z3
  obtain ⟨a17, y20, l18, rfl, h19, z5⟩ := inv_wdI z4
  obtain ⟨a21, y24, l22, rfl, h23, z6⟩ := inv_wdI z5
  obtain ⟨hn, z7⟩ := inv_wn z6
  cases hn
  obtain ⟨hn, z8⟩ := inv_wn z7
  cases hn
  exact Den.weaken (.cons h3 (.cons (WkA.agg (.cons h11 (.cons h15 (.cons h19 (.cons h23 .nil))))) .nil)) (evalF_sound hmix hC hF ((e125 fuel y4 y5 y12 y16 y20 y24).trans z8))
def C54 (fuel : Nat) : Oracle := (C53 fuel).add 38 (fun _ => true) (O125 fuel)
def A37 : AF := ⟨7, [.tmp 3],
  (.seq (.region 0 [o1 3 (sb false)] 0 none) []
  (.seq (.region 1 [mv 4 0, o1 5 (ln 68 4 1), o1 6 (cs 38 [4, 5] [22, 68]), o1 3 (sg 6)] 0 none) []
  (.ret [0, 1, 2, 4, 5, 6])))⟩
def D126 {ρ : Type} (fuel : Nat) (x1 : Nat) (x2 : FF) (x3 : Nat → CV) (k : Bool → Option ρ) : Option ρ :=
  (ob (F125 fuel x1 x2 (CV.int (x3 0)) (CV.int (x3 1)) (CV.int (x3 2)) (CV.int (x3 3))) fun x4 => (k x4))
def F126 (fuel : Nat) (x1 : Nat) (x2 : FF) (x3 : Nat → CV) : Option (Bool) := D126 fuel x1 x2 x3 some
theorem f126 {ρ : Type} (fuel : Nat) (x1 : Nat) (x2 : FF) (x3 : Nat → CV) (k : (Bool) → Option ρ) : D126 fuel x1 x2 x3 k = ob (F126 fuel x1 x2 x3) k := by
  simp only [F126, D126, ob_bif, ob_ob, ob_none, ob_some]
theorem walk126 (fuel : Nat) (x1 : Nat) (x2 : FF) (x3 : Nat → CV) :
    evalF (C54 fuel) fuel A37 [.v (.ro false kP x1 x2), .v (.rp (.pr (.int .i64) kV) x3)] =
    (ob (F125 fuel x1 x2 (CV.int (x3 0)) (CV.int (x3 1)) (CV.int (x3 2)) (CV.int (x3 3))) fun x4 => (some [.v (.b x4)])) := by kernel_rfl
theorem e126 (fuel : Nat) (x1 : Nat) (x2 : FF) (x3 : Nat → CV) : evalF (C54 fuel) fuel A37 [.v (.ro false kP x1 x2), .v (.rp (.pr (.int .i64) kV) x3)] = ob (F126 fuel x1 x2 x3) fun t => some [.v (.b t)] := by
  rw [walk126, ← f126]
  simp only [D126]
def O126 (fuel : Nat) : Ora where
  o := fun args {ρ} K =>
    wcL kP args fun y4 y5 l2 =>
    wc l2 fun a6 l7 =>
    wv a6 fun c8 =>
    wP (.pr (.int .i64) kV) c8 fun y9 =>
    wn l7 <|
    (ob (F126 fuel y4 y5 y9) fun t => K [.v (.b t)])
  nat := fun args {ρ} K => by
    simp only [bind_wP, bind_wc, bind_wcL, bind_wn, bind_wv, bind_ob, Option.bind_some]
theorem d126 {P : Program} (fuel : Nat) (hmix : P.follows .mixedOrders = true) (hC : Sound P (C54 fuel)) (hF : FFits P 37 A37) (args res : List A) (h : (O126 fuel).o args some = some res) : Den P 37 args res := by
  obtain ⟨a1, y4, y5, l2, rfl, h3, z0⟩ := inv_wcL h
  obtain ⟨a6, l7, rfl, z1⟩ := inv_wc z0
  obtain ⟨c8, rfl, z2⟩ := inv_wv z1
  obtain ⟨y9, h10, z3⟩ := inv_wP z2
  obtain ⟨hn, z4⟩ := inv_wn z3
  cases hn
  exact Den.weaken (.cons h3 (.cons (WkA.v (wk_rp h10)) .nil)) (evalF_sound hmix hC hF ((e126 fuel y4 y5 y9).trans z4))
def C55 (fuel : Nat) : Oracle := (C54 fuel).add 37 (fun _ => true) (O126 fuel)
def A63v1 : AC := (.region 6 [o1 18 (bk .add 3 8 1), mv 8 18] 0 none)
def A63v2 : AC := (.seq (.block 1
  (.seq (.region 3 [mv 10 8, o1 5 (sg 10)] 0 none) []
    (.seq (.region 4 [mv 11 1, mv 12 0, mv 13 5, o1 14 (.indexAddr 23 22 1 (tm 12) (tm 13)), o1 15 (lo 22 14), o1 16 (.callv (tm 11) [(tm 15)] [22] .snap)] 0 none) []
    (.cond (tm 16)
    (.seq (.region 5 [mv 17 5, o1 4 (sg 17)] 0 none) []
      (.ret (rl 0 4 (rl 5 14 []))))
    .skip)))) (4 :: 5 :: (rl 10 8 []))
  A63v1)
def A63v3 : AC := (.seq (.region 2 [o1 9 (bt .lss 3 8 7)] 0 none) []
  (.seq (.cond (tm 9)
  .skip
  (.exit 0 (rl 0 19 []))) []
  A63v2))
def A63v4 : AC := (.seq (.region 7 [o1 4 (sk (-1))] 0 none) []
  (.ret (rl 0 4 (rl 5 14 []))))
def A63 : AF := ⟨19, [.tmp 4],
  (.seq (.region 0 [o1 4 (sk 0)] 0 none) []
  (.seq (.seq (.region 1 [mv 6 0, o1 7 (.len 23 false (tm 6)), o1 8 (.move (ic 0))] 0 none) []
  (.block 0
  (.loop [] (rl 2 5 (rl 9 10 []))
    A63v3))) (rl 4 15 [])
  A63v4))⟩
def B127v1 (C : Oracle) (fuel : Nat) {ρ : Type} : St → (Ex → St → Option ρ) → Option ρ := fun st k => evalC C fuel A63v3 st k
def N127v1 : St → Option St := fun s => s.norm (rl 2 5 (rl 9 10 [])) 0
def s127v0 (x9 : Nat) (x10 : FF) (x11 : Nat → CV) (x12 x13 : Int) : St := ⟨(.x (.c (.ro false (.pr (.sl kP) .nil) x9 x10)) :: .x (.c (.fn 37 1 (listF [(.rp (.pr (.int .i64) kV) x11)]))) :: (us 5 (vxi x12 :: vxi x13 :: (us 10 [])))), []⟩
def s127v1 (x15 : Int) : St := ⟨(us 4 (vxi x15 :: (us 14 []))), []⟩
def s127v2 : St := ⟨(us 19 []), []⟩
def L127v1 {ρ : Type} (fuel : Nat) (x9 : Nat) (x10 : FF) (x11 : Nat → CV) (x12 : Int) : Nat → Int → (Int → Option ρ) → (Option ρ) → Option ρ
  | 0, _, _, _ => none
  | m + 1, x13, k0, k1 =>
    (bif (decide (x13 < x12)) then (bif (inb x13 x9) then (ob (F126 fuel (CV.len (x10 (Int.toNat x13) 0)) (CV.el (x10 (Int.toNat x13) 0)) x11) fun x14 => (bif x14 then (k0 x13) else (L127v1 fuel x9 x10 x11 x12 m (w64 (x13 + 1)) k0 k1))) else none) else k1)
theorem nl127v1 {ρ σ : Type} (fuel : Nat) (x9 : Nat) (x10 : FF) (x11 : Nat → CV) (x12 : Int) (g : ρ → Option σ) : ∀ (m : Nat) (x13 : Int) (k0 : Int → Option ρ) (k1 : Option ρ), ob (L127v1 fuel x9 x10 x11 x12 m x13 k0 k1) g = L127v1 fuel x9 x10 x11 x12 m x13 (fun x15 => ob (k0 x15) g) (ob k1 g)
  | 0, _, _, _ => rfl
  | m + 1, x13, k0, k1 => by
    simp only [L127v1, ob_bif, ob_ob, ob_none, nl127v1 fuel x9 x10 x11 x12 g m]
theorem r127v1 (fuel : Nat) (m : Nat) {ρ : Type} (k : Ex → St → Option ρ) (x9 : Nat) (x10 : FF) (x11 : Nat → CV) (x12 x13 : Int) :
    loopH (B127v1 (C55 fuel) fuel) N127v1 (m + 1) (s127v0 x9 x10 x11 x12 x13) k =
    (bif (decide (x13 < x12)) then (bif (inb x13 x9) then (ob (F126 fuel (CV.len (x10 (Int.toNat x13) 0)) (CV.el (x10 (Int.toNat x13) 0)) x11) fun x14 => (bif x14 then (k .ret (s127v1 x13)) else (loopH (B127v1 (C55 fuel) fuel) N127v1 m (s127v0 x9 x10 x11 x12 (w64 (x13 + 1))) k))) else none) else (k (.exit 0) s127v2)) := by kernel_rfl
theorem q127v1 (fuel : Nat) (x9 : Nat) (x10 : FF) (x11 : Nat → CV) (x12 : Int) {ρ : Type} (k : Ex → St → Option ρ) : ∀ (m : Nat) (x13 : Int),
    loopH (B127v1 (C55 fuel) fuel) N127v1 m (s127v0 x9 x10 x11 x12 x13) k = L127v1 fuel x9 x10 x11 x12 m x13 (fun x15 => k .ret (s127v1 x15)) (k (.exit 0) s127v2)
  | 0, _ => rfl
  | m + 1, x13 => by
    rw [r127v1]
    simp only [L127v1, q127v1 fuel x9 x10 x11 x12 k m]
def D127 {ρ : Type} (fuel : Nat) (x1 : Nat) (x2 : FF) (x3 : Nat → CV) (k : Int → Option ρ) : Option ρ :=
  (L127v1 fuel x1 x2 x3 (Int.ofNat x1) fuel 0
    (fun x16 => (k x16))
    (k (-1)))
def F127 (fuel : Nat) (x1 : Nat) (x2 : FF) (x3 : Nat → CV) : Option (Int) := D127 fuel x1 x2 x3 some
theorem f127 {ρ : Type} (fuel : Nat) (x1 : Nat) (x2 : FF) (x3 : Nat → CV) (k : (Int) → Option ρ) : D127 fuel x1 x2 x3 k = ob (F127 fuel x1 x2 x3) k := by
  simp only [F127, D127, ob_bif, ob_ob, ob_none, ob_some, nl127v1]
def s127v3 (x1 : Nat) (x2 : FF) (x3 : Nat → CV) : St := ⟨[.x (.c (.ro false (.pr (.sl kP) .nil) x1 x2)), .x (.c (.fn 37 1 (listF [(.rp (.pr (.int .i64) kV) x3)]))), .undef, .undef, vxi 0, .undef, .x (.c (.ro false (.pr (.sl kP) .nil) x1 x2)), vxi (Int.ofNat x1), vxi 0, .undef, .undef, .undef, .undef, .undef, .undef, .undef, .undef, .undef, .undef], []⟩
theorem walk127 (fuel : Nat) (x1 : Nat) (x2 : FF) (x3 : Nat → CV) :
    evalF (C55 fuel) fuel A63 [.v (.ro false (.pr (.sl kP) .nil) x1 x2), .v (.fn 37 1 (listF [(.rp (.pr (.int .i64) kV) x3)]))] =
    (loopN (B127v1 (C55 fuel) fuel) N127v1 fuel (s127v3 x1 x2 x3) (kBlk 0 (kSeq (C55 fuel) fuel (rl 4 15 []) A63v4 (finish A63)))) := by kernel_rfl
theorem t127v1 (fuel : Nat) {ρ : Type} (k : Ex → St → Option ρ) (x1 : Nat) (x2 : FF) (x3 : Nat → CV) :
    loopN (B127v1 (C55 fuel) fuel) N127v1 fuel (s127v3 x1 x2 x3) k =
    L127v1 fuel x1 x2 x3 (Int.ofNat x1) fuel 0 (fun x15 => k .ret (s127v1 x15)) (k (.exit 0) s127v2) :=
  (loopN_at (st' := (s127v0 x1 x2 x3 (Int.ofNat x1) 0)) (by kernel_rfl)).trans (q127v1 fuel x1 x2 x3 (Int.ofNat x1) k fuel 0)
theorem g127v2 (fuel : Nat) (x16 : Int) :
    (kBlk 0 (kSeq (C55 fuel) fuel (rl 4 15 []) A63v4 (finish A63))) .ret (s127v1 x16) =
    (some [.v (vi x16)]) := by kernel_rfl
theorem g127v3 (fuel : Nat) :
    (kBlk 0 (kSeq (C55 fuel) fuel (rl 4 15 []) A63v4 (finish A63))) (.exit 0) s127v2 =
    (some [.v (vi (-1))]) := by kernel_rfl
theorem e127 (fuel : Nat) (x1 : Nat) (x2 : FF) (x3 : Nat → CV) : evalF (C55 fuel) fuel A63 [.v (.ro false (.pr (.sl kP) .nil) x1 x2), .v (.fn 37 1 (listF [(.rp (.pr (.int .i64) kV) x3)]))] = ob (F127 fuel x1 x2 x3) fun t => some [.v (vi t)] := by
  rw [walk127, ← f127]
  simp only [D127, t127v1, g127v2, g127v3]
def O127 (fuel : Nat) : Ora where
  o := fun args {ρ} K =>
    wcL (.pr (.sl kP) .nil) args fun y4 y5 l2 =>
    wc l2 fun a6 l7 =>
    wv a6 fun c8 =>
    wFn 37 1 c8 fun y9 =>
    wP (.pr (.int .i64) kV) (y9 0) fun y11 =>
    wn l7 <|
    (ob (F127 fuel y4 y5 y11) fun t => K [.v (vi t)])
  nat := fun args {ρ} K => by
    simp only [bind_wFn, bind_wP, bind_wc, bind_wcL, bind_wn, bind_wv, bind_ob, Option.bind_some]
theorem d127 {P : Program} (fuel : Nat) (hmix : P.follows .mixedOrders = true) (hC : Sound P (C55 fuel)) (hF : FFits P 63 A63) (args res : List A) (h : (O127 fuel).o args some = some res) : Den P 63 args res := by
  obtain ⟨a1, y4, y5, l2, rfl, h3, z0⟩ := inv_wcL h
  obtain ⟨a6, l7, rfl, z1⟩ := inv_wc z0
  obtain ⟨c8, rfl, z2⟩ := inv_wv z1
  obtain ⟨y9, h10, z3⟩ := inv_wFn z2
  obtain ⟨y11, h12, z4⟩ := inv_wP z3
  obtain ⟨hn, z5⟩ := inv_wn z4
  cases hn
  exact Den.weaken (.cons h3 (.cons (WkA.v (wk_fn1 h10 (wk_rp h12))) .nil)) (evalF_sound hmix hC hF ((e127 fuel y4 y5 y11).trans z5))
def C56 (fuel : Nat) : Oracle := (C55 fuel).add 63 (fun l => isFn 37 l 1) (O127 fuel)
def A36 : AF := ⟨9, [.tmp 4],
  (.seq (.region 0 [o1 4 (sb false)] 0 none) []
  (.seq (.region 1 [mv 5 0, mv 6 1, o1 7 (cs 63 [5, 6] [23, 71]), o1 8 (bk .geq 3 7 0), o1 4 (sg 8)] 0 none) []
  (.ret (rl 0 4 (rl 5 4 [])))))⟩
def D128 {ρ : Type} (fuel : Nat) (x1 : Nat) (x2 : FF) (x3 : Nat → CV) (k : Bool → Option ρ) : Option ρ :=
  (ob (F127 fuel x1 x2 x3) fun x4 => (k (decide (x4 ≥ 0))))
def F128 (fuel : Nat) (x1 : Nat) (x2 : FF) (x3 : Nat → CV) : Option (Bool) := D128 fuel x1 x2 x3 some
theorem f128 {ρ : Type} (fuel : Nat) (x1 : Nat) (x2 : FF) (x3 : Nat → CV) (k : (Bool) → Option ρ) : D128 fuel x1 x2 x3 k = ob (F128 fuel x1 x2 x3) k := by
  simp only [F128, D128, ob_bif, ob_ob, ob_none, ob_some]
theorem walk128 (fuel : Nat) (x1 : Nat) (x2 : FF) (x3 : Nat → CV) :
    evalF (C56 fuel) fuel A36 [.v (.ro false (.pr (.sl kP) .nil) x1 x2), .v (.fn 37 1 (listF [(.rp (.pr (.int .i64) kV) x3)]))] =
    (ob (F127 fuel x1 x2 x3) fun x4 => (some [.v (.b (decide (x4 ≥ 0)))])) := by kernel_rfl
theorem e128 (fuel : Nat) (x1 : Nat) (x2 : FF) (x3 : Nat → CV) : evalF (C56 fuel) fuel A36 [.v (.ro false (.pr (.sl kP) .nil) x1 x2), .v (.fn 37 1 (listF [(.rp (.pr (.int .i64) kV) x3)]))] = ob (F128 fuel x1 x2 x3) fun t => some [.v (.b t)] := by
  rw [walk128, ← f128]
  simp only [D128]
def O128 (fuel : Nat) : Ora where
  o := fun args {ρ} K =>
    wcL (.pr (.sl kP) .nil) args fun y4 y5 l2 =>
    wc l2 fun a6 l7 =>
    wv a6 fun c8 =>
    wFn 37 1 c8 fun y9 =>
    wP (.pr (.int .i64) kV) (y9 0) fun y11 =>
    wn l7 <|
    (ob (F128 fuel y4 y5 y11) fun t => K [.v (.b t)])
  nat := fun args {ρ} K => by
    simp only [bind_wFn, bind_wP, bind_wc, bind_wcL, bind_wn, bind_wv, bind_ob, Option.bind_some]
theorem d128 {P : Program} (fuel : Nat) (hmix : P.follows .mixedOrders = true) (hC : Sound P (C56 fuel)) (hF : FFits P 36 A36) (args res : List A) (h : (O128 fuel).o args some = some res) : Den P 36 args res := by
  obtain ⟨a1, y4, y5, l2, rfl, h3, z0⟩ := inv_wcL h
  obtain ⟨a6, l7, rfl, z1⟩ := inv_wc z0
  obtain ⟨c8, rfl, z2⟩ := inv_wv z1
  obtain ⟨y9, h10, z3⟩ := inv_wFn z2
  obtain ⟨y11, h12, z4⟩ := inv_wP z3
  obtain ⟨hn, z5⟩ := inv_wn z4
  cases hn
  exact Den.weaken (.cons h3 (.cons (WkA.v (wk_fn1 h10 (wk_rp h12))) .nil)) (evalF_sound hmix hC hF ((e128 fuel y4 y5 y11).trans z5))
def C57 (fuel : Nat) : Oracle := (C56 fuel).add 36 (fun l => isFn 37 l 1) (O128 fuel)
def A14v1 : AC := (.seq (.region 3 [o1 42 (fa 42 3 2 3), o1 43 (lo 3 42), o1 44 (bk .add 3 43 1), o1 45 (bk .quo 3 44 2), o1 5 (sg 45)] 0 none) []
  (.seq (.region 4 [o1 46 (fa 42 3 1 1), o1 47 (fa 40 46 0 0), o1 48 (lo 3 47), mv 49 5, o1 50 (bt .sub 3 48 49), o1 51 (fa 42 3 1 1), o1 52 (fa 40 51 1 1), o1 53 (lo 3 52), mv 54 5, o1 55 (bt .sub 3 53 54), o1 56 (.build 40 [vci 0, vci 0] [(0, 1), (1, 1)] 0 [(0, (tm 50)), (1, (tm 55))]), o1 57 (fa 42 3 1 1), o1 58 (fa 40 57 0 0), o1 59 (lo 3 58), mv 60 5, o1 61 (bt .add 3 59 60), o1 62 (fa 42 3 1 1), o1 63 (fa 40 62 1 1), o1 64 (lo 3 63), mv 65 5, o1 66 (bt .add 3 64 65), o1 67 (.build 40 [vci 0, vci 0] [(0, 1), (1, 1)] 0 [(0, (tm 61)), (1, (tm 66))]), o1 68 (.build 68 [vci 0, vci 0, vci 0, vci 0] [(0, 2), (2, 2)] 0 [(0, (tm 56)), (1, (tm 67))]), o1 6 (.alloc 0 68 [vci 0, vci 0, vci 0, vci 0]), o0 (.store 68 4 (tm 6) (tm 68))] 1 none) []
  (.seq (.region 5 [o1 69 (fa 31 2 6 6), o1 70 (fa 25 69 1 1), o1 71 (lo 23 70), o1 72 (.mkfn 37 [(tm 6)]), o1 73 (cs 36 [71, 72] [23, 71]), o1 4 (sg 73)] 0 none) []
  (.ret (rl 0 4 (rl 5 69 []))))))
def A14 : AF := ⟨74, [.tmp 4],
  (.seq (.region 0 [o1 2 (bx 0 31 0), o1 3 (bx 1 42 1), o1 4 (sb false)] 2 none) []
  (.seq (.seq (.region 1 [o1 7 (fa 42 3 0 0), o1 8 (lo 9 7), o1 9 (fa 31 2 0 0), o1 10 (lo 9 9), o1 11 (bt .neq 9 8 10), mv 12 11, og 13 (fa 42 3 2 3) 12 false, og 14 (lo 3 13) 12 false, og 15 (bk .lss 3 14 1) 12 false, o1 16 (pa 12 15), mv 17 16, og 18 (fa 42 3 2 3) 17 false, og 19 (lo 3 18) 17 false, og 20 (bk .gtr 3 19 10000) 17 false, o1 21 (pa 17 20), mv 22 21, og 23 (fa 42 3 1 1) 22 false, og 24 (fa 40 23 0 0) 22 false, og 25 (lo 3 24) 22 false, og 26 (fa 42 3 1 1) 22 false, og 27 (fa 40 26 1 1) 22 false, og 28 (lo 3 27) 22 false, og 29 (.mm true [(tm 25), (tm 28)] [3, 3]) 22 false, og 30 (bk .gtr 3 29 32768) 22 false, o1 31 (pa 22 30), mv 32 31, og 33 (fa 42 3 1 1) 32 false, og 34 (fa 40 33 0 0) 32 false, og 35 (lo 3 34) 32 false, og 36 (fa 42 3 1 1) 32 false, og 37 (fa 40 36 1 1) 32 false, og 38 (lo 3 37) 32 false, og 39 (.mm false [(tm 35), (tm 38)] [3, 3]) 32 false, og 40 (bk .lss 3 39 (-32768)) 32 false, o1 41 (pa 32 40)] 0 none) []
  (.cond (tm 41)
  (.seq (.region 2 [o1 4 (sb false)] 0 none) []
    (.ret (rl 0 4 (rl 5 69 []))))
  .skip)) (4 :: (rl 7 35 []))
  A14v1))⟩
def D129 {ρ : Type} (fuel : Nat) (x1 : Nat → CV) (x2 : ByteArray) (x3 x4 x5 : Int) (k : Bool → Option ρ) : Option ρ :=
  (bif ((!(ByteArray.toList x2 == ByteArray.toList (CV.str (x1 0)))) == false) then (bif ((decide (x5 < 1)) == false) then (bif ((decide (x5 > 10000)) == false) then (bif ((decide ((if x4 > x3 then x4 else x3) > 32768)) == false) then (bif (decide ((if x4 < x3 then x4 else x3) < (-32768))) then (k false) else (ob (F128 fuel (CV.len (x1 7)) (CV.el (x1 7)) (listF [(.i .i64 (w64 (x3 - (w64 (Int.tdiv (w64 (x5 + 1)) 2))))), (.i .i64 (w64 (x4 - (w64 (Int.tdiv (w64 (x5 + 1)) 2))))), (.i .i64 (w64 (x3 + (w64 (Int.tdiv (w64 (x5 + 1)) 2))))), (.i .i64 (w64 (x4 + (w64 (Int.tdiv (w64 (x5 + 1)) 2)))))])) fun x6 => (k x6))) else (k false)) else (k false)) else (k false)) else (k false))
def F129 (fuel : Nat) (x1 : Nat → CV) (x2 : ByteArray) (x3 x4 x5 : Int) : Option (Bool) := D129 fuel x1 x2 x3 x4 x5 some
theorem f129 {ρ : Type} (fuel : Nat) (x1 : Nat → CV) (x2 : ByteArray) (x3 x4 x5 : Int) (k : (Bool) → Option ρ) : D129 fuel x1 x2 x3 x4 x5 k = ob (F129 fuel x1 x2 x3 x4 x5) k := by
  simp only [F129, D129, ob_bif, ob_ob, ob_none, ob_some]
theorem walk129 (fuel : Nat) (x1 : Nat → CV) (x2 : ByteArray) (x3 x4 x5 : Int) :
    evalF (C57 fuel) fuel A14 [.agg (pj kR0 x1), .agg [(.s x2), (vi x3), (vi x4), (vi x5)]] =
    (bif ((!(ByteArray.toList x2 == ByteArray.toList (CV.str (x1 0)))) == false) then (bif ((decide (x5 < 1)) == false) then (bif ((decide (x5 > 10000)) == false) then (bif ((decide ((if x4 > x3 then x4 else x3) > 32768)) == false) then (bif (decide ((if x4 < x3 then x4 else x3) < (-32768))) then (some [.v (.b false)]) else (ob (F128 fuel (CV.len (x1 7)) (CV.el (x1 7)) (listF [(vi (w64 (x3 - (w64 (Int.tdiv (w64 (x5 + 1)) 2))))), (vi (w64 (x4 - (w64 (Int.tdiv (w64 (x5 + 1)) 2))))), (vi (w64 (x3 + (w64 (Int.tdiv (w64 (x5 + 1)) 2))))), (vi (w64 (x4 + (w64 (Int.tdiv (w64 (x5 + 1)) 2)))))])) fun x6 => (some [.v (.b x6)]))) else (some [.v (.b false)])) else (some [.v (.b false)])) else (some [.v (.b false)])) else (some [.v (.b false)])) := by kernel_rfl
theorem e129 (fuel : Nat) (x1 : Nat → CV) (x2 : ByteArray) (x3 x4 x5 : Int) : evalF (C57 fuel) fuel A14 [.agg (pj kR0 x1), .agg [(.s x2), (vi x3), (vi x4), (vi x5)]] = ob (F129 fuel x1 x2 x3 x4 x5) fun t => some [.v (.b t)] := by
  rw [walk129, ← f129]
  simp only [D129]
def O129 (fuel : Nat) : Ora where
  o := fun args {ρ} K =>
    wc args fun a1 l2 =>
    wrow kR0 a1 fun y3 =>
    wc l2 fun a5 l6 =>
    wagg a5 fun l7 =>
    wdS l7 fun y11 l9 =>
    wdI .i64 l9 fun y15 l13 =>
    wdI .i64 l13 fun y19 l17 =>
    wdI .i64 l17 fun y23 l21 =>
    wn l21 <|
    wn l6 <|
    (ob (F129 fuel y3 y11 y15 y19 y23) fun t => K [.v (.b t)])
  nat := fun args {ρ} K => by
    simp only [bind_wagg, bind_wc, bind_wdI, bind_wdS, bind_wn, bind_wrow, bind_ob, Option.bind_some]
theorem d129 {P : Program} (fuel : Nat) (hmix : P.follows .mixedOrders = true) (hC : Sound P (C57 fuel)) (hF : FFits P 14 A14) (args res : List A) (h : (O129 fuel).o args some = some res) : Den P 14 args res := by
  obtain ⟨a1, l2, rfl, z0⟩ := inv_wc h
  obtain ⟨y3, h4, z1⟩ := inv_wrow z0
  obtain ⟨a5, l6, rfl, z2⟩ := inv_wc z1
  obtain ⟨l7, rfl, z3⟩ := inv_wagg z2
  obtain ⟨a8, y11, l9, rfl, h10, z4⟩ := inv_wdS z3
  obtain ⟨a12, y15, l13, rfl, h14, z5⟩ := inv_wdI z4
  obtain ⟨a16, y19, l17, rfl, h18, z6⟩ := inv_wdI z5
  obtain ⟨a20, y23, l21, rfl, h22, z7⟩ := inv_wdI z6
  obtain ⟨hn, z8⟩ := inv_wn z7
  cases hn
  obtain ⟨hn, z9⟩ := inv_wn z8
  cases hn
  exact Den.weaken (.cons h4 (.cons (WkA.agg (.cons h10 (.cons h14 (.cons h18 (.cons h22 .nil))))) .nil)) (evalF_sound hmix hC hF ((e129 fuel y3 y11 y15 y19 y23).trans z9))
def C58 (fuel : Nat) : Oracle := (C57 fuel).add 14 (fun _ => true) (O129 fuel)
end Go.Eng.R13
