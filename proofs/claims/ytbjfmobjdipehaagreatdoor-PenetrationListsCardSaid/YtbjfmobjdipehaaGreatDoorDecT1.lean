/-
 The functions of the program,run on symbols; printed by decomp.py.
-/
import Derived.Test.YtbjfmobjdipehaaGreatDoorDecT0
set_option linter.all false
set_option maxRecDepth 1000000
set_option maxHeartbeats 4000000
namespace Go.Eng.R13
open Go Go.RowKit Go.Eng
variable {ρ : Type} (u : Nat)
def A40v1 : AC := (.region 21 [o1 59 (bk .add 3 51 1),mv 51 59] 0 none)
def A40v2 : AC := (.seq (.block 3
 (.seq (.region 18 [o1 53 (.indexAddr 38 37 1 (tm 49) (tm 51)),o1 54 (lo 37 53),o1 8 (sg 54)] 0 none) []
  (.seq (.region 19 [mv 55 5,mv 56 8,o1 57 (cs 69 [55,56] [37,37]),o1 58 (.unOp .not 4 (tm 57))] 0 none) []
  (.cond (tm 58)
  (.seq (.region 20 [o1 2 (sk 17)] 0 none) []
   (.ret (0 :: 1 :: (rl 3 58 []))))
  .skip)))) (2 :: 8 :: (rl 53 6 []))
 A40v1)
def A40v3 : AC := (.seq (.region 17 [o1 52 (bt .lss 3 51 50)] 0 none) []
 (.seq (.cond (tm 52)
 .skip
 (.exit 2 (0 :: (rl 2 22 (rl 27 34 []))))) []
 A40v2))
def A40v4 : AC := (.seq (.region 16 [o1 46 (fa 40 1 1 1),o1 47 (lo 38 46),mv 48 4,o1 49 (.slice 38 37 1 (tm 47) none (some (tm 48)) none),o1 50 (.len 38 false (tm 49)),o1 51 (.move (ic 0))] 0 none) []
 (.block 2
 (.loop [] (0 :: 2 :: 3 :: 4 :: (rl 6 18 (rl 27 22 (rl 52 9 []))))
  A40v3)))
def A40v5 : AC := (.seq (.seq (.region 14 [mv 36 5,o1 37 (cs 67 [36] [37]),o1 38 (bk .geq 3 37 0),mv 39 38,og 40 (.move (tm 5)) 39 false,og 41 (fa 40 1 0 0) 39 false,og 42 (lo 37 41) 39 false,og 43 (cs 68 [40,42] [37,37]) 39 false,og 44 (.unOp .not 4 (tm 43)) 39 false,o1 45 (pa 39 44)] 0 none) []
 (.cond (tm 45)
 (.seq (.region 15 [o1 2 (sk 17)] 0 none) []
  (.ret (0 :: 1 :: (rl 3 58 []))))
 .skip)) (2 :: (rl 36 10 []))
 A40v4)
def A40v6 : AC := (.region 22 [o1 60 (bk .add 3 26 1),mv 26 60] 0 none)
def A40v7 : AC := (.seq (.block 1
 (.seq (.region 10 [mv 28 26,o1 29 (.indexAddr 38 37 1 (tm 24) (tm 26)),o1 30 (lo 37 29),o1 4 (sg 28),o1 5 (sg 30)] 0 none) []
  (.seq (.seq (.region 11 [mv 31 5,o1 32 (cs 66 [31] [37]),o1 6 (sg 32)] 0 none) []
  (.seq (.region 12 [mv 33 6,o1 34 (bk .neq 73 33 0)] 0 none) []
  (.cond (tm 34)
  (.seq (.region 13 [mv 35 6,o1 2 (sg 35)] 0 none) []
   (.ret (0 :: 1 :: (rl 3 58 []))))
  .skip))) (2 :: 6 :: (rl 31 5 []))
  A40v5))) (2 :: 4 :: 5 :: 6 :: 8 :: (rl 28 32 []))
 A40v6)
def A40v8 : AC := (.seq (.region 9 [o1 27 (bt .lss 3 26 25)] 0 none) []
 (.seq (.cond (tm 27)
 .skip
 (.exit 0 (rl 0 61 []))) []
 A40v7))
def A40v9 : AC := (.seq (.region 23 [o1 2 (sk 0)] 0 none) []
 (.ret (0 :: 1 :: (rl 3 58 []))))
def A40v10 : AC := (.seq (.seq (.region 8 [o1 23 (fa 40 1 1 1),o1 24 (lo 38 23),o1 25 (.len 38 false (tm 24)),o1 26 (.move (ic 0))] 0 none) []
 (.block 0
 (.loop [] (0 :: (rl 2 22 (rl 27 34 [])))
  A40v8))) (2 :: 4 :: 5 :: 6 :: 8 :: (rl 23 38 []))
 A40v9)
def A40v11 : AC := (.seq (.seq (.region 6 [o1 19 (fa 40 1 0 0),o1 20 (lo 37 19),o1 21 (cs 67 [20] [37]),o1 22 (bk .leq 3 21 0)] 0 none) []
 (.cond (tm 22)
 (.seq (.region 7 [o1 2 (sk 17)] 0 none) []
  (.ret (0 :: 1 :: (rl 3 58 []))))
 .skip)) (2 :: (rl 19 4 []))
 A40v10)
def A40v12 : AC := (.seq (.seq (.region 3 [o1 13 (fa 40 1 0 0),o1 14 (lo 37 13),o1 15 (cs 66 [14] [37]),o1 3 (sg 15)] 0 none) []
 (.seq (.region 4 [mv 16 3,o1 17 (bk .neq 73 16 0)] 0 none) []
 (.cond (tm 17)
 (.seq (.region 5 [mv 18 3,o1 2 (sg 18)] 0 none) []
  (.ret (0 :: 1 :: (rl 3 58 []))))
 .skip))) (2 :: 3 :: (rl 13 6 []))
 A40v11)
def A40 : AF := ⟨61,[.tmp 2],
 (.seq (.region 0 [o1 1 (bx 0 40 0),o1 2 (sk 0)] 1 none) []
 (.seq (.seq (.region 1 [o1 9 (fa 40 1 1 1),o1 10 (lo 38 9),o1 11 (.len 38 false (tm 10)),o1 12 (bk .gtr 3 11 8)] 0 none) []
 (.cond (tm 12)
 (.seq (.region 2 [o1 2 (sk 12)] 0 none) []
  (.ret (0 :: 1 :: (rl 3 58 []))))
 .skip)) (2 :: (rl 9 4 []))
 A40v12))⟩
def B13v2 (C : Oracle) (u : Nat) : St → (Ex → St → Option ρ) → Option ρ := fun st k => evalC C u A40v3 st k
def N13v2 : St → Option St := fun s => s.norm (0 :: 2 :: 3 :: 4 :: (rl 6 18 (rl 27 22 (rl 52 9 [])))) 1
def s13v0 (x0 : Nat) (x1 : FF) (x2 : Nat) (x3 : FF) (x4 x5 : Int) (x6 : Nat) (x7 x8 : Int) (x9 : Nat) (xA : FF) : St := ⟨(.u :: .x (.ptr 0 0) :: (us 3 (.x (.c (ro kP x0 x1)) :: (us 18 (.x (.c (ro (.pr (.sl kP) .nil) x2 x3)) :: vxi x4 :: vxi x5 :: (us 22 (.x (.c (ro (.pr (.sl kP) .nil) x6 x3)) :: vxi x7 :: vxi x8 :: (us 9 [])))))))),[.box [(.c (ro kP x9 xA)),(.c (ro (.pr (.sl kP) .nil) x2 x3))]]⟩
def s13v1 (x0 : Nat) (x1 : FF) (x2 : Nat) (x3 : FF) : St := ⟨(.u :: .u :: vxi 17 :: (us 58 [])),[.box [(.c (ro kP x0 x1)),(.c (ro (.pr (.sl kP) .nil) x2 x3))]]⟩
def s13v2 (x0 : Nat) (x1 : FF) (x2 x3 : Int) (x4 : Nat) (x5 : FF) : St := ⟨(.u :: .x (.ptr 0 0) :: (us 22 (.x (.c (ro (.pr (.sl kP) .nil) x0 x1)) :: vxi x2 :: vxi x3 :: (us 34 [])))),[.box [(.c (ro kP x4 x5)),(.c (ro (.pr (.sl kP) .nil) x0 x1))]]⟩
def L13v2 {ρ : Type} (u : Nat) (x0 : Nat) (x1 : FF) (x2 : Nat) (x3 : FF) (x4 x5 : Int) (x6 : Nat) (x7 : Int) (x8 : Nat) (x9 : FF) : Nat → Int → (Option ρ) → (Option ρ) → Option ρ
 | 0,_,_,_ => none
 | m + 1,xA,k0,k1 =>
  (bif (decide (xA < x7)) then (bif (inb xA x6) then (ob (F36 100 x0 x1 (x3 xA.toNat 0).len (x3 xA.toNat 0).el) fun xB => (bif (!xB) then k0 else (L13v2 u x0 x1 x2 x3 x4 x5 x6 x7 x8 x9 m (w64 (xA + 1)) k0 k1))) else none) else k1)
theorem nl13v2 {ρ σ : Type} (u : Nat) (x0 : Nat) (x1 : FF) (x2 : Nat) (x3 : FF) (x4 x5 : Int) (x6 : Nat) (x7 : Int) (x8 : Nat) (x9 : FF) (g : ρ → Option σ) : ∀ (m : Nat) (xA : Int) (k0 : Option ρ) (k1 : Option ρ),ob (L13v2 u x0 x1 x2 x3 x4 x5 x6 x7 x8 x9 m xA k0 k1) g = L13v2 u x0 x1 x2 x3 x4 x5 x6 x7 x8 x9 m xA (ob k0 g) (ob k1 g)
 | 0,_,_,_ => rfl
 | m + 1,xA,k0,k1 => by
  simp only [L13v2,ob_bif,ob_ob,ob_none,nl13v2 u x0 x1 x2 x3 x4 x5 x6 x7 x8 x9 g m]
theorem r13v2 (m : Nat) (k : Ex → St → Option ρ) (x0 : Nat) (x1 : FF) (x2 : Nat) (x3 : FF) (x4 x5 : Int) (x6 : Nat) (x7 : Int) (x8 : Nat) (x9 : FF) (xA : Int) :
  loopH (B13v2 (C39 u) u) N13v2 (m + 1) (s13v0 x0 x1 x2 x3 x4 x5 x6 x7 xA x8 x9) k =
  (bif (decide (xA < x7)) then (bif (inb xA x6) then (ob (F36 100 x0 x1 (x3 xA.toNat 0).len (x3 xA.toNat 0).el) fun xB => (bif (!xB) then (k .ret (s13v1 x8 x9 x2 x3)) else (loopH (B13v2 (C39 u) u) N13v2 m (s13v0 x0 x1 x2 x3 x4 x5 x6 x7 (w64 (xA + 1)) x8 x9) k))) else none) else (k (.exit 2) (s13v2 x2 x3 x4 x5 x8 x9))) := by kernel_rfl
theorem q13v2 (u : Nat) (x0 : Nat) (x1 : FF) (x2 : Nat) (x3 : FF) (x4 x5 : Int) (x6 : Nat) (x7 : Int) (x8 : Nat) (x9 : FF) {ρ : Type} (k : Ex → St → Option ρ) : ∀ (m : Nat) (xA : Int),
  loopH (B13v2 (C39 u) u) N13v2 m (s13v0 x0 x1 x2 x3 x4 x5 x6 x7 xA x8 x9) k = L13v2 u x0 x1 x2 x3 x4 x5 x6 x7 x8 x9 m xA (k .ret (s13v1 x8 x9 x2 x3)) (k (.exit 2) (s13v2 x2 x3 x4 x5 x8 x9))
 | 0,_ => rfl
 | m + 1,xA => by
  rw [r13v2]
  simp only [L13v2,q13v2 u x0 x1 x2 x3 x4 x5 x6 x7 x8 x9 k m]
def B13v3 (C : Oracle) (u : Nat) : St → (Ex → St → Option ρ) → Option ρ := fun st k => evalC C u A40v8 st k
def N13v3 : St → Option St := fun s => s.norm (0 :: (rl 2 22 (rl 27 34 []))) 1
def s13v3 (x0 : Nat) (x1 : FF) (x2 x3 : Int) (x4 : Nat) (x5 : FF) : St := ⟨(.u :: .x (.ptr 0 0) :: (us 22 (.x (.c (ro (.pr (.sl kP) .nil) x0 x1)) :: vxi x2 :: vxi x3 :: (us 34 [])))),[.box [(.c (ro kP x4 x5)),(.c (ro (.pr (.sl kP) .nil) x0 x1))]]⟩
def s13v4 (x0 : Int) (x1 : Nat) (x2 : FF) (x3 : Nat) (x4 : FF) : St := ⟨(.u :: .u :: vxi x0 :: (us 58 [])),[.box [(.c (ro kP x1 x2)),(.c (ro (.pr (.sl kP) .nil) x3 x4))]]⟩
def s13v5 (x0 : Nat) (x1 : FF) (x2 : Nat) (x3 : FF) : St := ⟨(us 61 []),[.box [(.c (ro kP x0 x1)),(.c (ro (.pr (.sl kP) .nil) x2 x3))]]⟩
def L13v3 {ρ : Type} (u : Nat) (x0 : Nat) (x1 : FF) (x2 : Int) (x3 : Nat) (x4 : FF) : Nat → Int → (Int → Option ρ) → (Option ρ) → Option ρ
 | 0,_,_,_ => none
 | m + 1,x5,k0,k1 =>
  (bif (decide (x5 < x2)) then (bif (inb x5 x0) then (ob (F33 100 (x1 x5.toNat 0).len (x1 x5.toNat 0).el) fun x6 => (bif (x6 != 0) then (k0 x6) else (ob (F34 100 (x1 x5.toNat 0).len (x1 x5.toNat 0).el) fun x7 => (bif ((decide (x7 ≥ 0)) == false) then (ob (F35 100 (x1 x5.toNat 0).len (x1 x5.toNat 0).el x3 x4) fun x8 => (bif (!x8) then (k0 17) else (bif (inbe x5 x0) then (L13v2 u (x1 x5.toNat 0).len (x1 x5.toNat 0).el x0 x1 x2 x5 (x5.toNat - 0) (Int.ofNat (x5.toNat - 0)) x3 x4 u 0
  (k0 17)
  (L13v3 u x0 x1 x2 x3 x4 m (w64 (x5 + 1)) k0 k1)) else none))) else (k0 17))))) else none) else k1)
theorem nl13v3 {ρ σ : Type} (u : Nat) (x0 : Nat) (x1 : FF) (x2 : Int) (x3 : Nat) (x4 : FF) (g : ρ → Option σ) : ∀ (m : Nat) (x5 : Int) (k0 : Int → Option ρ) (k1 : Option ρ),ob (L13v3 u x0 x1 x2 x3 x4 m x5 k0 k1) g = L13v3 u x0 x1 x2 x3 x4 m x5 (fun x6 => ob (k0 x6) g) (ob k1 g)
 | 0,_,_,_ => rfl
 | m + 1,x5,k0,k1 => by
  simp only [L13v3,ob_bif,ob_ob,ob_none,nl13v3 u x0 x1 x2 x3 x4 g m,nl13v2]
def s13v6 (x0 : Int) (x1 : FF) (x2 : Nat) (x3 : Int) (x4 : Nat) (x5 : FF) : St := ⟨(.u :: .x (.ptr 0 0) :: .u :: .u :: vxi x0 :: .x (.c (ro kP (x1 x0.toNat 0).len (x1 x0.toNat 0).el)) :: (us 18 (.x (.c (ro (.pr (.sl kP) .nil) x2 x1)) :: vxi x3 :: vxi x0 :: vxb true :: vxi x0 :: .x (.c (.rp (.pr (.sl kP) .nil) (x1 x0.toNat))) :: .x (.c (ro kP (x1 x0.toNat 0).len (x1 x0.toNat 0).el)) :: (us 15 (.x (.ptr 0 1) :: .x (.c (ro (.pr (.sl kP) .nil) x2 x1)) :: vxi x0 :: .x (.c (ro (.pr (.sl kP) .nil) (x0.toNat - 0) x1)) :: vxi (Int.ofNat (x0.toNat - 0)) :: vxi 0 :: (us 9 [])))))),[.box [(.c (ro kP x4 x5)),(.c (ro (.pr (.sl kP) .nil) x2 x1))]]⟩
theorem r13v3 (m : Nat) (k : Ex → St → Option ρ) (x0 : Nat) (x1 : FF) (x2 : Int) (x3 : Nat) (x4 : FF) (x5 : Int) :
  loopH (B13v3 (C39 u) u) N13v3 (m + 1) (s13v3 x0 x1 x2 x5 x3 x4) k =
  (bif (decide (x5 < x2)) then (bif (inb x5 x0) then (ob (F33 100 (x1 x5.toNat 0).len (x1 x5.toNat 0).el) fun x6 => (bif (x6 != 0) then (k .ret (s13v4 x6 x3 x4 x0 x1)) else (ob (F34 100 (x1 x5.toNat 0).len (x1 x5.toNat 0).el) fun x7 => (bif ((decide (x7 ≥ 0)) == false) then (ob (F35 100 (x1 x5.toNat 0).len (x1 x5.toNat 0).el x3 x4) fun x8 => (bif (!x8) then (k .ret (s13v4 17 x3 x4 x0 x1)) else (bif (inbe x5 x0) then (loopN (B13v2 (C39 u) u) N13v2 u (s13v6 x5 x1 x0 x2 x3 x4) (kBlk 2 (kBlk 1 (kSeq (C39 u) u (2 :: 4 :: 5 :: 6 :: 8 :: (rl 28 32 [])) A40v6 (kLoop (B13v3 (C39 u) u) N13v3 m k))))) else none))) else (k .ret (s13v4 17 x3 x4 x0 x1)))))) else none) else (k (.exit 0) (s13v5 x3 x4 x0 x1))) := by kernel_rfl
theorem t13v1 (k : Ex → St → Option ρ) (x0 : Int) (x1 : FF) (x2 : Nat) (x3 : Int) (x4 : Nat) (x5 : FF) :
  loopN (B13v2 (C39 u) u) N13v2 u (s13v6 x0 x1 x2 x3 x4 x5) k =
  L13v2 u (x1 x0.toNat 0).len (x1 x0.toNat 0).el x2 x1 x3 x0 (x0.toNat - 0) (Int.ofNat (x0.toNat - 0)) x4 x5 u 0 (k .ret (s13v1 x4 x5 x2 x1)) (k (.exit 2) (s13v2 x2 x1 x3 x0 x4 x5)) :=
 (loopN_at (st' := (s13v0 (x1 x0.toNat 0).len (x1 x0.toNat 0).el x2 x1 x3 x0 (x0.toNat - 0) (Int.ofNat (x0.toNat - 0)) 0 x4 x5)) (by kernel_rfl)).trans (q13v2 u (x1 x0.toNat 0).len (x1 x0.toNat 0).el x2 x1 x3 x0 (x0.toNat - 0) (Int.ofNat (x0.toNat - 0)) x4 x5 k u 0)
theorem g13v2 (m : Nat) (k : Ex → St → Option ρ) (x0 : Nat) (x1 : FF) (x2 : Nat) (x3 : FF) :
  (kBlk 2 (kBlk 1 (kSeq (C39 u) u (2 :: 4 :: 5 :: 6 :: 8 :: (rl 28 32 [])) A40v6 (kLoop (B13v3 (C39 u) u) N13v3 m k)))) .ret (s13v1 x0 x1 x2 x3) =
  (k .ret (s13v4 17 x0 x1 x2 x3)) := by kernel_rfl
theorem g13v3 (m : Nat) (k : Ex → St → Option ρ) (x0 : Nat) (x1 : FF) (x2 x3 : Int) (x4 : Nat) (x5 : FF) :
  (kBlk 2 (kBlk 1 (kSeq (C39 u) u (2 :: 4 :: 5 :: 6 :: 8 :: (rl 28 32 [])) A40v6 (kLoop (B13v3 (C39 u) u) N13v3 m k)))) (.exit 2) (s13v2 x0 x1 x2 x3 x4 x5) =
  (loopH (B13v3 (C39 u) u) N13v3 m (s13v3 x0 x1 x2 (w64 (x3 + 1)) x4 x5) k) := by kernel_rfl
theorem q13v3 (u : Nat) (x0 : Nat) (x1 : FF) (x2 : Int) (x3 : Nat) (x4 : FF) {ρ : Type} (k : Ex → St → Option ρ) : ∀ (m : Nat) (x5 : Int),
  loopH (B13v3 (C39 u) u) N13v3 m (s13v3 x0 x1 x2 x5 x3 x4) k = L13v3 u x0 x1 x2 x3 x4 m x5 (fun x6 => k .ret (s13v4 x6 x3 x4 x0 x1)) (k (.exit 0) (s13v5 x3 x4 x0 x1))
 | 0,_ => rfl
 | m + 1,x5 => by
  rw [r13v3]
  simp only [L13v3,q13v3 u x0 x1 x2 x3 x4 k m,t13v1,g13v2,g13v3]
def D13 (x0 : Nat) (x1 : FF) (x2 : Nat) (x3 : FF) (k : Int → Option ρ) : Option ρ :=
 (bif (decide ((Int.ofNat x2) > 8)) then (k 12) else (ob (F33 100 x0 x1) fun x4 => (bif (x4 != 0) then (k x4) else (ob (F34 100 x0 x1) fun x5 => (bif (decide (x5 ≤ 0)) then (k 17) else (L13v3 u x2 x3 (Int.ofNat x2) x0 x1 u 0
  (fun x6 => (k x6))
  (k 0)))))))
def F13 (x0 : Nat) (x1 : FF) (x2 : Nat) (x3 : FF) : Option (Int) := D13 u x0 x1 x2 x3 some
theorem f13 (x0 : Nat) (x1 : FF) (x2 : Nat) (x3 : FF) (k : (Int) → Option ρ) : D13 u x0 x1 x2 x3 k = ob (F13 u x0 x1 x2 x3) k := by
 simp only [F13,D13,ob_bif,ob_ob,ob_none,ob_some,nl13v3]
def s13v7 (x0 : Nat) (x1 : FF) (x2 : Nat) (x3 : FF) : St := ⟨(.agg [(.c (ro kP x0 x1)),(.c (ro (.pr (.sl kP) .nil) x2 x3))] :: .x (.ptr 0 0) :: .u :: .u :: uu :: uu :: uu :: uu :: uu :: (us 14 [.x (.ptr 0 1),.x (.c (ro (.pr (.sl kP) .nil) x2 x3)),vxi (Int.ofNat x2),vxi 0,uu,uu,uu,uu,uu,uu,uu,uu,uu,uu,uu,uu,uu,uu,uu,uu,uu,uu,uu,uu,uu,uu,uu,uu,uu,uu,uu,uu,uu,uu,uu,uu,uu,uu])),[.box [(.c (ro kP x0 x1)),(.c (ro (.pr (.sl kP) .nil) x2 x3))]]⟩
theorem t13v4 (k : Ex → St → Option ρ) (x0 : Nat) (x1 : FF) (x2 : Nat) (x3 : FF) :
  loopN (B13v3 (C39 u) u) N13v3 u (s13v7 x0 x1 x2 x3) k =
  L13v3 u x2 x3 (Int.ofNat x2) x0 x1 u 0 (fun x4 => k .ret (s13v4 x4 x0 x1 x2 x3)) (k (.exit 0) (s13v5 x0 x1 x2 x3)) :=
 (loopN_at (st' := (s13v3 x2 x3 (Int.ofNat x2) 0 x0 x1)) (by kernel_rfl)).trans (q13v3 u x2 x3 (Int.ofNat x2) x0 x1 k u 0)
theorem g13v5 (x0 : Int) (x1 : Nat) (x2 : FF) (x3 : Nat) (x4 : FF) :
  (kBlk 0 (kSeq (C39 u) u (2 :: 4 :: 5 :: 6 :: 8 :: (rl 23 38 [])) A40v9 (finish A40))) .ret (s13v4 x0 x1 x2 x3 x4) =
  (some [.v (vi x0)]) := by kernel_rfl
theorem g13v6 (x0 : Nat) (x1 : FF) (x2 : Nat) (x3 : FF) :
  (kBlk 0 (kSeq (C39 u) u (2 :: 4 :: 5 :: 6 :: 8 :: (rl 23 38 [])) A40v9 (finish A40))) (.exit 0) (s13v5 x0 x1 x2 x3) =
  (some [.v (vi 0)]) := by kernel_rfl
theorem e13 (x0 : Nat) (x1 : FF) (x2 : Nat) (x3 : FF) : evalF (C39 u) u A40 [.agg [(ro kP x0 x1),(ro (.pr (.sl kP) .nil) x2 x3)]] = ob (F13 u x0 x1 x2 x3) fun t => some [.v (vi t)] := Eq.trans (b := (bif (decide ((Int.ofNat x2) > 8)) then (some [.v (vi 12)]) else (ob (F33 100 x0 x1) fun x4 => (bif (x4 != 0) then (some [.v (vi x4)]) else (ob (F34 100 x0 x1) fun x5 => (bif (decide (x5 ≤ 0)) then (some [.v (vi 17)]) else (loopN (B13v3 (C39 u) u) N13v3 u (s13v7 x0 x1 x2 x3) (kBlk 0 (kSeq (C39 u) u (2 :: 4 :: 5 :: 6 :: 8 :: (rl 23 38 [])) A40v9 (finish A40)))))))))) (by kernel_rfl) (by
 rw [← f13]
 simp only [D13,t13v4,g13v5,g13v6])
def O13 : Ora where
 o := fun args {ρ} K =>
  wc args fun a1 l2 =>
  wagg a1 fun l3 =>
  wdL kP l3 fun y7 y8 l5 =>
  wdL (.pr (.sl kP) .nil) l5 fun y12 y13 l10 =>
  wn l10 <|
  wn l2 <|
  (ob (F13 u y7 y8 y12 y13) fun t => K [.v (vi t)])
 nat := fun args {ρ} K => by
  simp only [bind_wagg,bind_wc,bind_wdL,bind_wn,bind_ob,Option.bind_some]
theorem d13 : DO (O13 u) (C39 u) 40 A40 := by
 intro P hmix hC hF args res h
 obtain ⟨a1,l2,rfl,z0⟩ := inv_wc h
 obtain ⟨l3,rfl,z1⟩ := inv_wagg z0
 obtain ⟨a4,y7,y8,l5,rfl,h6,z2⟩ := inv_wdL z1
 obtain ⟨a9,y12,y13,l10,rfl,h11,z3⟩ := inv_wdL z2
 obtain ⟨hn,z4⟩ := inv_wn z3
 cases hn
 obtain ⟨hn,z5⟩ := inv_wn z4
 cases hn
 exact Den.weaken (.cons (WkA.agg (.cons h6 (.cons h11 .nil))) .nil) (evalF_sound hmix hC hF ((e13 u y7 y8 y12 y13).trans z5))
def C40 : Oracle := (C39 u).add 40 (fun _ => true) (O13 100)
def A18 : AF := ⟨17,[.tmp 2],
 (.seq (.region 0 [o1 1 (bx 0 46 0),o1 2 (sb false)] 1 none) []
 (.seq (.region 1 [o1 3 (fa 46 1 2 2),o1 4 (lo 3 3),o1 5 (bk .eql 3 4 1),mv 6 5,og 7 (fa 46 1 11 14) 6 true,og 8 (ln 44 4 7) 6 true,og 9 (cs 39 [8] [44]) 6 true,o1 10 (po 6 9),mv 11 10,og 12 (ln 46 18 1) 11 true,og 13 (cf 23 [12] [46]) 11 true,og 14 (cs 40 [13] [40]) 11 true,og 15 (bk .eql 73 14 0) 11 true,o1 16 (po 11 15),o1 2 (sg 16)] 0 none) []
 (.ret (0 :: 1 :: (rl 3 14 [])))))⟩
def D113 (u : Nat) (x0 : Nat → CV) (k : Bool → Option ρ) : Option ρ :=
 (bif (((x0 2).int == 1) == true) then (ob (F111 100 (x0 14).int (x0 15).int (x0 16).int (x0 17).int) fun x1 => (bif (x1 == true) then (ob (F112 100 (listF (pj kR0 x0))) fun x2 => (ob (F13 100 x2.1 x2.2.1 x2.2.2.1 x2.2.2.2) fun x3 => (k (x3 == 0)))) else (k false))) else (k false))
def F113 (x0 : Nat → CV) : Option (Bool) := D113 u x0 some
theorem f113 (x0 : Nat → CV) (k : (Bool) → Option ρ) : D113 u x0 k = ob (F113 u x0) k := by
 simp only [F113,D113,ob_bif,ob_ob,ob_none,ob_some]
theorem e113 (x0 : Nat → CV) : evalF (C40 u) u A18 [.agg (pj kR0 x0)] = ob (F113 u x0) fun t => some [.v (.b t)] := Eq.trans (b := (bif (((x0 2).int == 1) == true) then (ob (F111 100 (x0 14).int (x0 15).int (x0 16).int (x0 17).int) fun x1 => (bif (x1 == true) then (ob (F112 100 (listF (pj kR0 x0))) fun x2 => (ob (F13 100 x2.1 x2.2.1 x2.2.2.1 x2.2.2.2) fun x3 => (some [.v (.b (x3 == 0))]))) else (some [.v (.b false)]))) else (some [.v (.b false)]))) (by kernel_rfl) (by
 rw [← f113]
 simp only [D113])
def O113 : Ora where
 o := fun args {ρ} K =>
  wc args fun a1 l2 =>
  wrow kR0 a1 fun y3 =>
  wn l2 <|
  (ob (F113 u y3) fun t => K [.v (.b t)])
 nat := fun args {ρ} K => by
  simp only [bind_wc,bind_wn,bind_wrow,bind_ob,Option.bind_some]
theorem d113 : DO (O113 u) (C40 u) 18 A18 := by
 intro P hmix hC hF args res h
 obtain ⟨a1,l2,rfl,z0⟩ := inv_wc h
 obtain ⟨y3,h4,z1⟩ := inv_wrow z0
 obtain ⟨hn,z2⟩ := inv_wn z1
 cases hn
 exact Den.weaken (.cons h4 .nil) (evalF_sound hmix hC hF ((e113 u y3).trans z2))
def C41 : Oracle := (C40 u).add 18 (fun _ => true) (O113 100)
def A43v1 : AC := (.seq (.block 1
 (.region 4 [o1 11 (fa 42 2 1 1),o1 12 (lo 3 11),o1 13 (.unOp .neg 3 (tm 12)),o1 14 (fa 42 2 0 0),o1 15 (lo 3 14),o1 16 (fa 42 2 2 2),o1 17 (lo 3 16),o1 18 (.build 42 [vci 0,vci 0,vci 0] [(0,1),(1,1),(2,1)] 0 [(0,(tm 13)),(1,(tm 15)),(2,(tm 17))]),o0 (.store 42 3 (tm 2) (tm 18))] 0 none)) []
 (.region 5 [o1 19 (bk .add 3 9 1),mv 9 19] 0 none))
def A43v2 : AC := (.seq (.region 3 [o1 10 (bt .lss 3 9 8)] 0 none) []
 (.seq (.cond (tm 10)
 .skip
 (.exit 0 (0 :: 3 :: (rl 5 69 [])))) []
 A43v1))
def A43v3 : AC := (.seq (.region 17 [o1 73 (ln 42 3 2),o0 (.store 42 3 (tm 4) (tm 73))] 0 none) []
 (.ret (rl 0 4 (rl 5 69 []))))
def A43v4 : AC := (.seq (.seq (.region 6 [mv 20 1,o1 21 (bk .quo 3 20 4)] 0 none) []
 (.block 2
 (.seq (.region 7 [o1 23 (bk .eql 3 21 1),o1 22 (sg 23)] 0 none) []
  (.cond (tm 22)
  (.seq (.region 8 [o1 24 (fa 42 2 0 0),o1 25 (lo 3 24),o1 26 (fa 42 2 2 2),o1 27 (lo 3 26),o1 28 (.unOp .neg 3 (tm 27)),o1 29 (fa 42 2 1 1),o1 30 (lo 3 29),o1 31 (.build 42 [vci 0,vci 0,vci 0] [(0,1),(1,1),(2,1)] 0 [(0,(tm 25)),(1,(tm 28)),(2,(tm 30))]),o0 (.store 42 3 (tm 4) (tm 31))] 0 none) []
   (.ret (rl 0 4 (rl 5 69 []))))
  (.seq (.region 9 [o1 33 (bk .eql 3 21 2),o1 32 (sg 33)] 0 none) []
   (.cond (tm 32)
   (.seq (.region 10 [o1 34 (fa 42 2 0 0),o1 35 (lo 3 34),o1 36 (fa 42 2 1 1),o1 37 (lo 3 36),o1 38 (.unOp .neg 3 (tm 37)),o1 39 (fa 42 2 2 2),o1 40 (lo 3 39),o1 41 (.unOp .neg 3 (tm 40)),o1 42 (.build 42 [vci 0,vci 0,vci 0] [(0,1),(1,1),(2,1)] 0 [(0,(tm 35)),(1,(tm 38)),(2,(tm 41))]),o0 (.store 42 3 (tm 4) (tm 42))] 0 none) []
    (.ret (rl 0 4 (rl 5 69 []))))
   (.seq (.region 11 [o1 44 (bk .eql 3 21 3),o1 43 (sg 44)] 0 none) []
    (.cond (tm 43)
    (.seq (.region 12 [o1 45 (fa 42 2 0 0),o1 46 (lo 3 45),o1 47 (fa 42 2 2 2),o1 48 (lo 3 47),o1 49 (fa 42 2 1 1),o1 50 (lo 3 49),o1 51 (.unOp .neg 3 (tm 50)),o1 52 (.build 42 [vci 0,vci 0,vci 0] [(0,1),(1,1),(2,1)] 0 [(0,(tm 46)),(1,(tm 48)),(2,(tm 51))]),o0 (.store 42 3 (tm 4) (tm 52))] 0 none) []
     (.ret (rl 0 4 (rl 5 69 []))))
    (.seq (.region 13 [o1 54 (bk .eql 3 21 4),o1 53 (sg 54)] 0 none) []
     (.cond (tm 53)
     (.seq (.region 14 [o1 55 (fa 42 2 2 2),o1 56 (lo 3 55),o1 57 (fa 42 2 1 1),o1 58 (lo 3 57),o1 59 (fa 42 2 0 0),o1 60 (lo 3 59),o1 61 (.unOp .neg 3 (tm 60)),o1 62 (.build 42 [vci 0,vci 0,vci 0] [(0,1),(1,1),(2,1)] 0 [(0,(tm 56)),(1,(tm 58)),(2,(tm 61))]),o0 (.store 42 3 (tm 4) (tm 62))] 0 none) []
      (.ret (rl 0 4 (rl 5 69 []))))
     (.seq (.region 15 [o1 64 (bk .eql 3 21 5),o1 63 (sg 64)] 0 none) []
      (.cond (tm 63)
      (.seq (.region 16 [o1 65 (fa 42 2 2 2),o1 66 (lo 3 65),o1 67 (.unOp .neg 3 (tm 66)),o1 68 (fa 42 2 1 1),o1 69 (lo 3 68),o1 70 (fa 42 2 0 0),o1 71 (lo 3 70),o1 72 (.build 42 [vci 0,vci 0,vci 0] [(0,1),(1,1),(2,1)] 0 [(0,(tm 67)),(1,(tm 69)),(2,(tm 71))]),o0 (.store 42 3 (tm 4) (tm 72))] 0 none) []
       (.ret (rl 0 4 (rl 5 69 []))))
      .skip)))))))))))) (rl 20 53 [])
 A43v3)
def A43 : AF := ⟨74,[.cell 4 42 (some 3)],
 (.seq (.region 0 [o1 2 (bx 0 42 0),o1 4 (.alloc 1 42 [vci 0,vci 0,vci 0])] 2 none) []
 (.seq (.region 1 [mv 5 1,o1 6 (cs 65 [5] [3]),o1 1 (sg 6)] 0 none) []
 (.seq (.seq (.region 2 [mv 7 1,o1 8 (bk .rem 3 7 4),o1 9 (.move (ic 0))] 0 none) []
 (.block 0
 (.loop [] (0 :: 3 :: 5 :: 6 :: 7 :: (rl 10 64 []))
  A43v2))) (rl 7 13 [])
 A43v4)))⟩
def B114v1 (C : Oracle) (u : Nat) : St → (Ex → St → Option ρ) → Option ρ := fun st k => evalC C u A43v2 st k
def N114v1 : St → Option St := fun s => s.norm (0 :: 3 :: 5 :: 6 :: 7 :: (rl 10 64 [])) 2
def s114v0 (x0 x1 x2 x3 x4 x5 : Int) : St := ⟨(.u :: vxi x0 :: .x (.ptr 0 0) :: .u :: .x (.ptr 1 0) :: (us 3 (vxi x1 :: vxi x2 :: (us 64 [])))),[.box [(vci x3),(vci x4),(vci x5)],.box [(vci 0),(vci 0),(vci 0)]]⟩
def s114v1 (x0 x1 x2 x3 : Int) : St := ⟨(.u :: vxi x0 :: .x (.ptr 0 0) :: .u :: .x (.ptr 1 0) :: (us 69 [])),[.box [(vci x1),(vci x2),(vci x3)],.box [(vci 0),(vci 0),(vci 0)]]⟩
def L114v1 {ρ : Type} (u : Nat) (x0 x1 x2 : Int) : Nat → Int → Int → Int → (Int → Int → Option ρ) → Option ρ
 | 0,_,_,_,_ => none
 | m + 1,x3,x4,x5,k0 =>
  (bif (decide (x3 < x1)) then (L114v1 u x0 x1 x2 m (w64 (x3 + 1)) (w64 (0 - x5)) x4 k0) else (k0 x4 x5))
theorem nl114v1 {ρ σ : Type} (u : Nat) (x0 x1 x2 : Int) (g : ρ → Option σ) : ∀ (m : Nat) (x3 x4 x5 : Int) (k0 : Int → Int → Option ρ),ob (L114v1 u x0 x1 x2 m x3 x4 x5 k0) g = L114v1 u x0 x1 x2 m x3 x4 x5 (fun x6 x7 => ob (k0 x6 x7) g)
 | 0,_,_,_,_ => rfl
 | m + 1,x3,x4,x5,k0 => by
  simp only [L114v1,ob_bif,ob_ob,ob_none,nl114v1 u x0 x1 x2 g m]
theorem r114v1 (m : Nat) (k : Ex → St → Option ρ) (x0 x1 x2 x3 x4 x5 : Int) :
  loopH (B114v1 (C41 u) u) N114v1 (m + 1) (s114v0 x0 x1 x3 x4 x5 x2) k =
  (bif (decide (x3 < x1)) then (loopH (B114v1 (C41 u) u) N114v1 m (s114v0 x0 x1 (w64 (x3 + 1)) (w64 (0 - x5)) x4 x2) k) else (k (.exit 0) (s114v1 x0 x4 x5 x2))) := by kernel_rfl
theorem q114v1 (u : Nat) (x0 x1 x2 : Int) {ρ : Type} (k : Ex → St → Option ρ) : ∀ (m : Nat) (x3 x4 x5 : Int),
  loopH (B114v1 (C41 u) u) N114v1 m (s114v0 x0 x1 x3 x4 x5 x2) k = L114v1 u x0 x1 x2 m x3 x4 x5 (fun x6 x7 => k (.exit 0) (s114v1 x0 x6 x7 x2))
 | 0,_,_,_ => rfl
 | m + 1,x3,x4,x5 => by
  rw [r114v1]
  simp only [L114v1,q114v1 u x0 x1 x2 k m]
def D114 (x0 x1 x2 x3 : Int) (k : (Int × Int × Int) → Option ρ) : Option ρ :=
 (ob (F110 100 x3) fun x4 => (L114v1 u x4 (Int.tmod x4 4) x2 u 0 x0 x1
  (fun x5 x6 => (bif ((w64 (Int.tdiv x4 4)) == 1) then (k (x5,(w64 (0 - x2)),x6)) else (bif ((w64 (Int.tdiv x4 4)) == 2) then (k (x5,(w64 (0 - x6)),(w64 (0 - x2)))) else (bif ((w64 (Int.tdiv x4 4)) == 3) then (k (x5,x2,(w64 (0 - x6)))) else (bif ((w64 (Int.tdiv x4 4)) == 4) then (k (x2,x6,(w64 (0 - x5)))) else (bif ((w64 (Int.tdiv x4 4)) == 5) then (k ((w64 (0 - x2)),x6,x5)) else (k (x5,x6,x2))))))))))
def F114 (x0 x1 x2 x3 : Int) : Option (Int × Int × Int) := D114 u x0 x1 x2 x3 some
theorem f114 (x0 x1 x2 x3 : Int) (k : (Int × Int × Int) → Option ρ) : D114 u x0 x1 x2 x3 k = ob (F114 u x0 x1 x2 x3) k := by
 simp only [F114,D114,ob_bif,ob_ob,ob_none,ob_some,nl114v1]
def s114v2 (x0 x1 x2 x3 x4 : Int) : St := ⟨[.agg [(vci x0),(vci x1),(vci x2)],vxi x3,.x (.ptr 0 0),uu,.x (.ptr 1 0),vxi x4,vxi x3,vxi x3,vxi (Int.tmod x3 4),vxi 0,uu,uu,uu,uu,uu,uu,uu,uu,uu,uu,uu,uu,uu,uu,uu,uu,uu,uu,uu,uu,uu,uu,uu,uu,uu,uu,uu,uu,uu,uu,uu,uu,uu,uu,uu,uu,uu,uu,uu,uu,uu,uu,uu,uu,uu,uu,uu,uu,uu,uu,uu,uu,uu,uu,uu,uu,uu,uu,uu,uu,uu,uu,uu,uu],[.box [(vci x0),(vci x1),(vci x2)],.box [(vci 0),(vci 0),(vci 0)]]⟩
theorem t114v1 (k : Ex → St → Option ρ) (x0 x1 x2 x3 x4 : Int) :
  loopN (B114v1 (C41 u) u) N114v1 u (s114v2 x0 x1 x2 x3 x4) k =
  L114v1 u x3 (Int.tmod x3 4) x2 u 0 x0 x1 (fun x5 x6 => k (.exit 0) (s114v1 x3 x5 x6 x2)) :=
 (loopN_at (st' := (s114v0 x3 (Int.tmod x3 4) 0 x0 x1 x2)) (by kernel_rfl)).trans (q114v1 u x3 (Int.tmod x3 4) x2 k u 0 x0 x1)
theorem g114v2 (x0 x1 x2 x3 : Int) :
  (kBlk 0 (kSeq (C41 u) u (rl 7 13 []) A43v4 (finish A43))) (.exit 0) (s114v1 x0 x1 x2 x3) =
  (bif ((w64 (Int.tdiv x0 4)) == 1) then (some [.agg [(vi x1),(vi (w64 (0 - x3))),(vi x2)]]) else (bif ((w64 (Int.tdiv x0 4)) == 2) then (some [.agg [(vi x1),(vi (w64 (0 - x2))),(vi (w64 (0 - x3)))]]) else (bif ((w64 (Int.tdiv x0 4)) == 3) then (some [.agg [(vi x1),(vi x3),(vi (w64 (0 - x2)))]]) else (bif ((w64 (Int.tdiv x0 4)) == 4) then (some [.agg [(vi x3),(vi x2),(vi (w64 (0 - x1)))]]) else (bif ((w64 (Int.tdiv x0 4)) == 5) then (some [.agg [(vi (w64 (0 - x3))),(vi x2),(vi x1)]]) else (some [.agg [(vi x1),(vi x2),(vi x3)]])))))) := by kernel_rfl
theorem e114 (x0 x1 x2 x3 : Int) : evalF (C41 u) u A43 [.agg [(vi x0),(vi x1),(vi x2)],.v (vi x3)] = ob (F114 u x0 x1 x2 x3) fun t => some [.agg [(vi t.1),(vi t.2.1),(vi t.2.2)]] := Eq.trans (b := (ob (F110 100 x3) fun x4 => (loopN (B114v1 (C41 u) u) N114v1 u (s114v2 x0 x1 x2 x4 x3) (kBlk 0 (kSeq (C41 u) u (rl 7 13 []) A43v4 (finish A43)))))) (by kernel_rfl) (by
 rw [← f114]
 simp only [D114,t114v1,g114v2])
def O114 : Ora where
 o := fun args {ρ} K =>
  wc args fun a1 l2 =>
  wagg a1 fun l3 =>
  wdI .i64 l3 fun y7 l5 =>
  wdI .i64 l5 fun y11 l9 =>
  wdI .i64 l9 fun y15 l13 =>
  wn l13 <|
  wcI .i64 l2 fun y19 l17 =>
  wn l17 <|
  (ob (F114 u y7 y11 y15 y19) fun t => K [.agg [(vi t.1),(vi t.2.1),(vi t.2.2)]])
 nat := fun args {ρ} K => by
  simp only [bind_wagg,bind_wc,bind_wcI,bind_wdI,bind_wn,bind_ob,Option.bind_some]
theorem d114 : DO (O114 u) (C41 u) 43 A43 := by
 intro P hmix hC hF args res h
 obtain ⟨a1,l2,rfl,z0⟩ := inv_wc h
 obtain ⟨l3,rfl,z1⟩ := inv_wagg z0
 obtain ⟨a4,y7,l5,rfl,h6,z2⟩ := inv_wdI z1
 obtain ⟨a8,y11,l9,rfl,h10,z3⟩ := inv_wdI z2
 obtain ⟨a12,y15,l13,rfl,h14,z4⟩ := inv_wdI z3
 obtain ⟨hn,z5⟩ := inv_wn z4
 cases hn
 obtain ⟨a16,y19,l17,rfl,h18,z6⟩ := inv_wcI z5
 obtain ⟨hn,z7⟩ := inv_wn z6
 cases hn
 exact Den.weaken (.cons (WkA.agg (.cons h6 (.cons h10 (.cons h14 .nil)))) (.cons h18 .nil)) (evalF_sound hmix hC hF ((e114 u y7 y11 y15 y19).trans z7))
def C42 : Oracle := (C41 u).add 43 (fun _ => true) (O114 100)
def A42v1 : AC := (.region 6 [o1 15 (bk .add 3 4 1),mv 4 15] 0 none)
def A42v2 : AC := (.seq (.block 1
 (.seq (.region 3 [mv 6 4,o1 3 (sg 6)] 0 none) []
  (.seq (.region 4 [o1 7 (.load 42 (some 3) (.global 0)),mv 8 0,o1 9 (cs 43 [7,8] [42,3]),mv 10 3,o1 11 (cs 43 [9,10] [42,3]),o1 12 (.load 42 (some 3) (.global 0)),o1 13 (.eqA false kV 42 (tm 11) (tm 12) 42)] 0 (some [[],[],[0,1],[],(rl 0 4 []),[],(rl 0 6 [])])) []
  (.cond (tm 13)
  (.seq (.region 5 [mv 14 3,o1 2 (sg 14)] 0 none) []
   (.ret (0 :: 1 :: (rl 3 13 []))))
  .skip)))) (2 :: 3 :: (rl 6 9 []))
 A42v1)
def A42v3 : AC := (.seq (.region 2 [o1 5 (bk .lss 3 4 24)] 0 none) []
 (.seq (.cond (tm 5)
 .skip
 (.exit 0 (rl 0 16 []))) []
 A42v2))
def A42v4 : AC := (.seq (.region 7 [o1 2 (sk 0)] 0 none) []
 (.ret (0 :: 1 :: (rl 3 13 []))))
def A42 : AF := ⟨16,[.tmp 2],
 (.seq (.region 0 [o1 2 (sk 0)] 0 none) []
 (.seq (.seq (.region 1 [o1 4 (.move (ic 0))] 0 none) []
 (.block 0
 (.loop [] (1 :: 2 :: 3 :: (rl 5 11 []))
  A42v3))) (rl 2 14 [])
 A42v4))⟩
def B115v1 (C : Oracle) (u : Nat) : St → (Ex → St → Option ρ) → Option ρ := fun st k => evalC C u A42v3 st k
def N115v1 : St → Option St := fun s => s.norm (1 :: 2 :: 3 :: (rl 5 11 [])) 0
def s115v0 (x0 x1 : Int) : St := ⟨(vxi x0 :: (us 3 (vxi x1 :: (us 11 [])))),[]⟩
def s115v1 (x0 : Int) : St := ⟨(.u :: .u :: vxi x0 :: (us 13 [])),[]⟩
def s115v2 : St := ⟨(us 16 []),[]⟩
def L115v1 {ρ : Type} (u : Nat) (x0 : Int) : Nat → Int → (Int → Option ρ) → (Option ρ) → Option ρ
 | 0,_,_,_ => none
 | m + 1,x1,k0,k1 =>
  (bif (decide (x1 < 24)) then (ob (F114 100 1 2 3 x0) fun x2 => (ob (F114 100 x2.1 x2.2.1 x2.2.2 x1) fun x3 => (bif ((x3.1 == 1) && ((x3.2.1 == 2) && ((x3.2.2 == 3) && true))) then (k0 x1) else (L115v1 u x0 m (w64 (x1 + 1)) k0 k1)))) else k1)
theorem nl115v1 {ρ σ : Type} (u : Nat) (x0 : Int) (g : ρ → Option σ) : ∀ (m : Nat) (x1 : Int) (k0 : Int → Option ρ) (k1 : Option ρ),ob (L115v1 u x0 m x1 k0 k1) g = L115v1 u x0 m x1 (fun x2 => ob (k0 x2) g) (ob k1 g)
 | 0,_,_,_ => rfl
 | m + 1,x1,k0,k1 => by
  simp only [L115v1,ob_bif,ob_ob,ob_none,nl115v1 u x0 g m]
theorem r115v1 (m : Nat) (k : Ex → St → Option ρ) (x0 x1 : Int) :
  loopH (B115v1 (C42 u) u) N115v1 (m + 1) (s115v0 x0 x1) k =
  (bif (decide (x1 < 24)) then (ob (F114 100 1 2 3 x0) fun x2 => (ob (F114 100 x2.1 x2.2.1 x2.2.2 x1) fun x3 => (bif ((x3.1 == 1) && ((x3.2.1 == 2) && ((x3.2.2 == 3) && true))) then (k .ret (s115v1 x1)) else (loopH (B115v1 (C42 u) u) N115v1 m (s115v0 x0 (w64 (x1 + 1))) k)))) else (k (.exit 0) s115v2)) := by kernel_rfl
theorem q115v1 (u : Nat) (x0 : Int) {ρ : Type} (k : Ex → St → Option ρ) : ∀ (m : Nat) (x1 : Int),
  loopH (B115v1 (C42 u) u) N115v1 m (s115v0 x0 x1) k = L115v1 u x0 m x1 (fun x2 => k .ret (s115v1 x2)) (k (.exit 0) s115v2)
 | 0,_ => rfl
 | m + 1,x1 => by
  rw [r115v1]
  simp only [L115v1,q115v1 u x0 k m]
def D115 (x0 : Int) (k : Int → Option ρ) : Option ρ :=
 (L115v1 u x0 u 0
  (fun x1 => (k x1))
  (k 0))
def F115 (x0 : Int) : Option (Int) := D115 u x0 some
theorem f115 (x0 : Int) (k : (Int) → Option ρ) : D115 u x0 k = ob (F115 u x0) k := by
 simp only [F115,D115,ob_bif,ob_ob,ob_none,ob_some,nl115v1]
def s115v3 (x0 : Int) : St := ⟨[vxi x0,uu,vxi 0,uu,vxi 0,uu,uu,uu,uu,uu,uu,uu,uu,uu,uu,uu],[]⟩
theorem t115v1 (k : Ex → St → Option ρ) (x0 : Int) :
  loopN (B115v1 (C42 u) u) N115v1 u (s115v3 x0) k =
  L115v1 u x0 u 0 (fun x1 => k .ret (s115v1 x1)) (k (.exit 0) s115v2) :=
 (loopN_at (st' := (s115v0 x0 0)) (by kernel_rfl)).trans (q115v1 u x0 k u 0)
theorem g115v2 (x0 : Int) :
  (kBlk 0 (kSeq (C42 u) u (rl 2 14 []) A42v4 (finish A42))) .ret (s115v1 x0) =
  (some [.v (vi x0)]) := by kernel_rfl
theorem g115v3 :
  (kBlk 0 (kSeq (C42 u) u (rl 2 14 []) A42v4 (finish A42))) (.exit 0) s115v2 =
  (some [.v (vi 0)]) := by kernel_rfl
theorem e115 (x0 : Int) : evalF (C42 u) u A42 [.v (vi x0)] = ob (F115 u x0) fun t => some [.v (vi t)] := Eq.trans (b := (loopN (B115v1 (C42 u) u) N115v1 u (s115v3 x0) (kBlk 0 (kSeq (C42 u) u (rl 2 14 []) A42v4 (finish A42))))) (by kernel_rfl) (by
 rw [← f115]
 simp only [D115,t115v1,g115v2,g115v3])
def O115 : Ora where
 o := fun args {ρ} K =>
  wcI .i64 args fun y4 l2 =>
  wn l2 <|
  (ob (F115 u y4) fun t => K [.v (vi t)])
 nat := fun args {ρ} K => by
  simp only [bind_wcI,bind_wn,bind_ob,Option.bind_some]
theorem d115 : DO (O115 u) (C42 u) 42 A42 := by
 intro P hmix hC hF args res h
 obtain ⟨a1,y4,l2,rfl,h3,z0⟩ := inv_wcI h
 obtain ⟨hn,z1⟩ := inv_wn z0
 cases hn
 exact Den.weaken (.cons h3 .nil) (evalF_sound hmix hC hF ((e115 u y4).trans z1))
def C43 : Oracle := (C42 u).add 42 (fun _ => true) (O115 100)
def A19v1 : AC := (.seq (.region 3 [o1 9 (fa 44 1 1 3),o1 10 (lo 3 9),o1 11 (cs 42 [10] [3]),o1 3 (sg 11)] 0 none) []
 (.seq (.region 4 [o1 12 (fa 44 1 0 0),o1 13 (ln 42 3 12),o1 14 (cs 44 [13] [42]),mv 15 3,o1 16 (cs 43 [14,15] [42,3]),mv 17 3,o1 18 (.build 44 [vci 0,vci 0,vci 0,vci 0] [(0,3),(3,1)] 0 [(0,(tm 16)),(1,(tm 17))]),o0 (.store 44 4 (tm 2) (tm 18))] 0 none) []
 (.ret (0 :: 1 :: (rl 3 16 [])))))
def A19 : AF := ⟨19,[.cell 2 44 (some 4)],
 (.seq (.region 0 [o1 1 (bx 0 44 0),o1 2 (.alloc 1 44 [vci 0,vci 0,vci 0,vci 0])] 2 none) []
 (.seq (.seq (.region 1 [o1 4 (fa 44 1 0 0),o1 5 (ln 42 3 4),o1 6 (.call 41 [(tm 5),(ic 1099511627776)] [42,3] .snap),o1 7 (.unOp .not 4 (tm 6))] 0 none) []
 (.cond (tm 7)
 (.seq (.region 2 [o1 8 (.build 44 [vci 0,vci 0,vci 0,vci 0] [(0,3),(3,1)] 0 []),o0 (.store 44 4 (tm 2) (tm 8))] 0 none) []
  (.ret (0 :: 1 :: (rl 3 16 []))))
 .skip)) (rl 4 5 [])
 A19v1))⟩
def D116 (u : Nat) (x0 x1 x2 x3 : Int) (k : (Int × Int × Int × Int) → Option ρ) : Option ρ :=
 (ob (F105 100 x0 x1 x2 1099511627776) fun x4 => (bif (!x4) then (k (0,0,0,0)) else (ob (F115 100 x3) fun x5 => (ob (F106 100 x0 x1 x2) fun x6 => (ob (F114 100 x6.1 x6.2.1 x6.2.2 x5) fun x7 => (k (x7.1,x7.2.1,x7.2.2,x5)))))))
def F116 (x0 x1 x2 x3 : Int) : Option (Int × Int × Int × Int) := D116 u x0 x1 x2 x3 some
theorem f116 (x0 x1 x2 x3 : Int) (k : (Int × Int × Int × Int) → Option ρ) : D116 u x0 x1 x2 x3 k = ob (F116 u x0 x1 x2 x3) k := by
 simp only [F116,D116,ob_bif,ob_ob,ob_none,ob_some]
theorem e116 (x0 x1 x2 x3 : Int) : evalF (C43 u) u A19 [.agg [(vi x0),(vi x1),(vi x2),(vi x3)]] = ob (F116 u x0 x1 x2 x3) fun t => some [.agg [(vi t.1),(vi t.2.1),(vi t.2.2.1),(vi t.2.2.2)]] := Eq.trans (b := (ob (F105 100 x0 x1 x2 1099511627776) fun x4 => (bif (!x4) then (some [.agg [(vi 0),(vi 0),(vi 0),(vi 0)]]) else (ob (F115 100 x3) fun x5 => (ob (F106 100 x0 x1 x2) fun x6 => (ob (F114 100 x6.1 x6.2.1 x6.2.2 x5) fun x7 => (some [.agg [(vi x7.1),(vi x7.2.1),(vi x7.2.2),(vi x5)]]))))))) (by kernel_rfl) (by
 rw [← f116]
 simp only [D116])
def O116 : Ora where
 o := fun args {ρ} K =>
  wc args fun a1 l2 =>
  wagg a1 fun l3 =>
  wdI .i64 l3 fun y7 l5 =>
  wdI .i64 l5 fun y11 l9 =>
  wdI .i64 l9 fun y15 l13 =>
  wdI .i64 l13 fun y19 l17 =>
  wn l17 <|
  wn l2 <|
  (ob (F116 u y7 y11 y15 y19) fun t => K [.agg [(vi t.1),(vi t.2.1),(vi t.2.2.1),(vi t.2.2.2)]])
 nat := fun args {ρ} K => by
  simp only [bind_wagg,bind_wc,bind_wdI,bind_wn,bind_ob,Option.bind_some]
theorem d116 : DO (O116 u) (C43 u) 19 A19 := by
 intro P hmix hC hF args res h
 obtain ⟨a1,l2,rfl,z0⟩ := inv_wc h
 obtain ⟨l3,rfl,z1⟩ := inv_wagg z0
 obtain ⟨a4,y7,l5,rfl,h6,z2⟩ := inv_wdI z1
 obtain ⟨a8,y11,l9,rfl,h10,z3⟩ := inv_wdI z2
 obtain ⟨a12,y15,l13,rfl,h14,z4⟩ := inv_wdI z3
 obtain ⟨a16,y19,l17,rfl,h18,z5⟩ := inv_wdI z4
 obtain ⟨hn,z6⟩ := inv_wn z5
 cases hn
 obtain ⟨hn,z7⟩ := inv_wn z6
 cases hn
 exact Den.weaken (.cons (WkA.agg (.cons h6 (.cons h10 (.cons h14 (.cons h18 .nil))))) .nil) (evalF_sound hmix hC hF ((e116 u y7 y11 y15 y19).trans z7))
def C44 : Oracle := (C43 u).add 19 (fun _ => true) (O116 100)
def A21v1 : AC := (.seq (.region 3 [o1 15 (ln 42 3 3),o1 16 (fa 44 2 1 3),o1 17 (lo 3 16),o1 18 (cs 43 [15,17] [42,3]),o1 19 (fa 44 2 0 0),o1 20 (ln 42 3 19),o1 21 (cs 45 [18,20] [42,42]),o0 (.store 42 3 (tm 4) (tm 21))] 0 (some [[],[],[1],[0,1,2],[],[4],(rl 0 6 []),(rl 0 7 [])])) []
 (.ret (rl 0 4 (rl 5 17 []))))
def A21 : AF := ⟨22,[.cell 4 42 (some 3)],
 (.seq (.region 0 [o1 2 (bx 0 44 0),o1 3 (bx 1 42 1),o1 4 (.alloc 2 42 [vci 0,vci 0,vci 0])] 3 none) []
 (.seq (.seq (.region 1 [o1 5 (fa 44 2 0 0),o1 6 (ln 42 3 5),o1 7 (.call 41 [(tm 6),(ic 1099511627776)] [42,3] .snap),o1 8 (.unOp .not 4 (tm 7)),mv 9 8,og 10 (ln 42 3 3) 9 false,og 11 (.call 41 [(tm 10),(ic 1099511627776)] [42,3] .snap) 9 false,og 12 (.unOp .not 4 (tm 11)) 9 false,o1 13 (pa 9 12)] 0 none) []
 (.cond (tm 13)
 (.seq (.region 2 [o1 14 (.build 42 [vci 0,vci 0,vci 0] [(0,1),(1,1),(2,1)] 0 []),o0 (.store 42 3 (tm 4) (tm 14))] 0 none) []
  (.ret (rl 0 4 (rl 5 17 []))))
 .skip)) (rl 5 10 [])
 A21v1))⟩
def D117 (u : Nat) (x0 x1 x2 x3 x4 x5 x6 : Int) (k : (Int × Int × Int) → Option ρ) : Option ρ :=
 (ob (F105 100 x0 x1 x2 1099511627776) fun x7 => (bif ((!x7) == false) then (ob (F105 100 x4 x5 x6 1099511627776) fun x8 => (bif (!x8) then (k (0,0,0)) else (ob (F114 100 x4 x5 x6 x3) fun x9 => (ob (F107 100 x9.1 x9.2.1 x9.2.2 x0 x1 x2) fun xA => (k (xA.1,xA.2.1,xA.2.2)))))) else (k (0,0,0))))
def F117 (x0 x1 x2 x3 x4 x5 x6 : Int) : Option (Int × Int × Int) := D117 u x0 x1 x2 x3 x4 x5 x6 some
theorem f117 (x0 x1 x2 x3 x4 x5 x6 : Int) (k : (Int × Int × Int) → Option ρ) : D117 u x0 x1 x2 x3 x4 x5 x6 k = ob (F117 u x0 x1 x2 x3 x4 x5 x6) k := by
 simp only [F117,D117,ob_bif,ob_ob,ob_none,ob_some]
theorem e117 (x0 x1 x2 x3 x4 x5 x6 : Int) : evalF (C44 u) u A21 [.agg [(vi x0),(vi x1),(vi x2),(vi x3)],.agg [(vi x4),(vi x5),(vi x6)]] = ob (F117 u x0 x1 x2 x3 x4 x5 x6) fun t => some [.agg [(vi t.1),(vi t.2.1),(vi t.2.2)]] := Eq.trans (b := (ob (F105 100 x0 x1 x2 1099511627776) fun x7 => (bif ((!x7) == false) then (ob (F105 100 x4 x5 x6 1099511627776) fun x8 => (bif (!x8) then (some [.agg [(vi 0),(vi 0),(vi 0)]]) else (ob (F114 100 x4 x5 x6 x3) fun x9 => (ob (F107 100 x9.1 x9.2.1 x9.2.2 x0 x1 x2) fun xA => (some [.agg [(vi xA.1),(vi xA.2.1),(vi xA.2.2)]]))))) else (some [.agg [(vi 0),(vi 0),(vi 0)]])))) (by kernel_rfl) (by
 rw [← f117]
 simp only [D117])
def O117 : Ora where
 o := fun args {ρ} K =>
  wc args fun a1 l2 =>
  wagg a1 fun l3 =>
  wdI .i64 l3 fun y7 l5 =>
  wdI .i64 l5 fun y11 l9 =>
  wdI .i64 l9 fun y15 l13 =>
  wdI .i64 l13 fun y19 l17 =>
  wn l17 <|
  wc l2 fun a20 l21 =>
  wagg a20 fun l22 =>
  wdI .i64 l22 fun y26 l24 =>
  wdI .i64 l24 fun y30 l28 =>
  wdI .i64 l28 fun y34 l32 =>
  wn l32 <|
  wn l21 <|
  (ob (F117 u y7 y11 y15 y19 y26 y30 y34) fun t => K [.agg [(vi t.1),(vi t.2.1),(vi t.2.2)]])
 nat := fun args {ρ} K => by
  simp only [bind_wagg,bind_wc,bind_wdI,bind_wn,bind_ob,Option.bind_some]
theorem d117 : DO (O117 u) (C44 u) 21 A21 := by
 intro P hmix hC hF args res h
 obtain ⟨a1,l2,rfl,z0⟩ := inv_wc h
 obtain ⟨l3,rfl,z1⟩ := inv_wagg z0
 obtain ⟨a4,y7,l5,rfl,h6,z2⟩ := inv_wdI z1
 obtain ⟨a8,y11,l9,rfl,h10,z3⟩ := inv_wdI z2
 obtain ⟨a12,y15,l13,rfl,h14,z4⟩ := inv_wdI z3
 obtain ⟨a16,y19,l17,rfl,h18,z5⟩ := inv_wdI z4
 obtain ⟨hn,z6⟩ := inv_wn z5
 cases hn
 obtain ⟨a20,l21,rfl,z7⟩ := inv_wc z6
 obtain ⟨l22,rfl,z8⟩ := inv_wagg z7
 obtain ⟨a23,y26,l24,rfl,h25,z9⟩ := inv_wdI z8
 obtain ⟨a27,y30,l28,rfl,h29,z10⟩ := inv_wdI z9
 obtain ⟨a31,y34,l32,rfl,h33,z11⟩ := inv_wdI z10
 obtain ⟨hn,z12⟩ := inv_wn z11
 cases hn
 obtain ⟨hn,z13⟩ := inv_wn z12
 cases hn
 exact Den.weaken (.cons (WkA.agg (.cons h6 (.cons h10 (.cons h14 (.cons h18 .nil))))) (.cons (WkA.agg (.cons h25 (.cons h29 (.cons h33 .nil)))) .nil)) (evalF_sound hmix hC hF ((e117 u y7 y11 y15 y19 y26 y30 y34).trans z13))
def C45 : Oracle := (C44 u).add 21 (fun _ => true) (O117 100)
def A20 : AF := ⟨11,[.cell 4 42 (some 3)],
 (.seq (.region 0 [o1 4 (.alloc 0 42 [vci 0,vci 0,vci 0])] 1 none) []
 (.seq (.region 1 [o1 5 (ln 44 4 1),o1 6 (lo 29 2),mv 7 0,o1 8 (.indexAddr 29 42 3 (tm 6) (tm 7)),o1 9 (ln 42 3 8),o1 10 (cs 21 [5,9] [44,42]),o0 (.store 42 3 (tm 4) (tm 10))] 0 (some [[],[],[],[1,2],[1,2,3],(rl 0 5 []),(rl 0 6 [])])) []
 (.ret (rl 0 4 (rl 5 6 [])))))⟩
def D118 (u : Nat) (x0 : Int) (x1 x2 : Nat → CV) (k : (Int × Int × Int) → Option ρ) : Option ρ :=
 (bif (inb x0 (x2 0).len) then (ob (F117 100 (x1 0).int (x1 1).int (x1 2).int (x1 3).int ((x2 0).el x0.toNat 0).int ((x2 0).el x0.toNat 1).int ((x2 0).el x0.toNat 2).int) fun x3 => (k (x3.1,x3.2.1,x3.2.2))) else none)
def F118 (x0 : Int) (x1 x2 : Nat → CV) : Option (Int × Int × Int) := D118 u x0 x1 x2 some
theorem f118 (x0 : Int) (x1 x2 : Nat → CV) (k : (Int × Int × Int) → Option ρ) : D118 u x0 x1 x2 k = ob (F118 u x0 x1 x2) k := by
 simp only [F118,D118,ob_bif,ob_ob,ob_none,ob_some]
theorem e118 (x0 : Int) (x1 x2 : Nat → CV) : evalF (C45 u) u A20 [.v (vi x0),.v (.rp (.pr (.int .i64) kV) x1),.v (.rp (.pr (.sl kV) .nil) x2)] = ob (F118 u x0 x1 x2) fun t => some [.agg [(vi t.1),(vi t.2.1),(vi t.2.2)]] := Eq.trans (b := (bif (inb x0 (x2 0).len) then (ob (F117 100 (x1 0).int (x1 1).int (x1 2).int (x1 3).int ((x2 0).el x0.toNat 0).int ((x2 0).el x0.toNat 1).int ((x2 0).el x0.toNat 2).int) fun x3 => (some [.agg [(vi x3.1),(vi x3.2.1),(vi x3.2.2)]])) else none)) (by kernel_rfl) (by
 rw [← f118]
 simp only [D118])
def O118 : Ora where
 o := fun args {ρ} K =>
  wcI .i64 args fun y4 l2 =>
  wc l2 fun a5 l6 =>
  wv a5 fun c7 =>
  wP (.pr (.int .i64) kV) c7 fun y8 =>
  wc l6 fun a10 l11 =>
  wv a10 fun c12 =>
  wP (.pr (.sl kV) .nil) c12 fun y13 =>
  wn l11 <|
  (ob (F118 u y4 y8 y13) fun t => K [.agg [(vi t.1),(vi t.2.1),(vi t.2.2)]])
 nat := fun args {ρ} K => by
  simp only [bind_wP,bind_wc,bind_wcI,bind_wn,bind_wv,bind_ob,Option.bind_some]
theorem d118 : DO (O118 u) (C45 u) 20 A20 := by
 intro P hmix hC hF args res h
 obtain ⟨a1,y4,l2,rfl,h3,z0⟩ := inv_wcI h
 obtain ⟨a5,l6,rfl,z1⟩ := inv_wc z0
 obtain ⟨c7,rfl,z2⟩ := inv_wv z1
 obtain ⟨y8,h9,z3⟩ := inv_wP z2
 obtain ⟨a10,l11,rfl,z4⟩ := inv_wc z3
 obtain ⟨c12,rfl,z5⟩ := inv_wv z4
 obtain ⟨y13,h14,z6⟩ := inv_wP z5
 obtain ⟨hn,z7⟩ := inv_wn z6
 cases hn
 exact Den.weaken (.cons h3 (.cons (WkA.v (wk_rp h9)) (.cons (WkA.v (wk_rp h14)) .nil))) (evalF_sound hmix hC hF ((e118 u y4 y8 y13).trans z7))
def C46 : Oracle := (C45 u).add 20 (fun _ => true) (O118 100)
def A46v1 : AC := (.region 10 [o1 30 (bk .add 3 19 1),mv 19 30] 0 none)
def A46v2 : AC := (.seq (.block 1
 (.seq (.region 6 [o1 21 (.indexAddr 38 37 1 (tm 17) (tm 19)),o1 22 (lo 37 21),o1 7 (sg 22)] 0 none) []
  (.seq (.region 7 [mv 23 7,o1 24 (ln 49 2 3),o1 25 (cs 70 [23,24] [37,49]),o1 8 (sg 25)] 0 none) []
  (.seq (.region 8 [mv 26 8,o1 27 (bk .geq 3 26 0)] 0 none) []
  (.cond (tm 27)
  (.seq (.region 9 [mv 28 8,o1 29 (.unOp .neg 3 (tm 28)),o1 4 (sg 29)] 0 none) []
   (.ret (rl 0 4 (rl 5 26 []))))
  .skip))))) (4 :: 7 :: 8 :: (rl 21 9 []))
 A46v1)
def A46v3 : AC := (.seq (.region 5 [o1 20 (bt .lss 3 19 18)] 0 none) []
 (.seq (.cond (tm 20)
 .skip
 (.exit 0 (rl 0 31 []))) []
 A46v2))
def A46v4 : AC := (.seq (.region 11 [o1 4 (sk 1)] 0 none) []
 (.ret (rl 0 4 (rl 5 26 []))))
def A46v5 : AC := (.seq (.seq (.region 4 [o1 16 (fa 40 2 1 1),o1 17 (lo 38 16),o1 18 (.len 38 false (tm 17)),o1 19 (.move (ic 0))] 0 none) []
 (.block 0
 (.loop [] (0 :: 1 :: 2 :: (rl 4 13 (rl 20 11 [])))
  A46v3))) (4 :: 7 :: 8 :: (rl 16 15 []))
 A46v4)
def A46 : AF := ⟨31,[.tmp 4],
 (.seq (.region 0 [o1 2 (bx 0 40 0),o1 3 (bx 1 49 1),o1 4 (sk 0)] 2 none) []
 (.seq (.seq (.region 1 [o1 9 (fa 40 2 0 0),o1 10 (lo 37 9),o1 11 (ln 49 2 3),o1 12 (cs 70 [10,11] [37,49]),o1 5 (sg 12)] 0 none) []
 (.seq (.region 2 [mv 13 5,o1 14 (bk .leq 3 13 0)] 0 none) []
 (.cond (tm 14)
 (.seq (.region 3 [mv 15 5,o1 4 (sg 15)] 0 none) []
  (.ret (rl 0 4 (rl 5 26 []))))
 .skip))) (4 :: 5 :: (rl 9 7 []))
 A46v5))⟩
def B47v1 (C : Oracle) (u : Nat) : St → (Ex → St → Option ρ) → Option ρ := fun st k => evalC C u A46v3 st k
def N47v1 : St → Option St := fun s => s.norm (0 :: 1 :: 2 :: (rl 4 13 (rl 20 11 []))) 2
def s47v0 (x0 : Nat) (x1 : FF) (x2 x3 : Int) (x4 : Nat) (x5 : FF) (x6 x7 : Int) : St := ⟨(us 3 (.x (.ptr 1 0) :: (us 13 (.x (.c (ro (.pr (.sl kP) .nil) x0 x1)) :: vxi x2 :: vxi x3 :: (us 11 []))))),[.box [(.c (ro kP x4 x5)),(.c (ro (.pr (.sl kP) .nil) x0 x1))],.box [(vci x6),(vci x7)]]⟩
def s47v1 (x0 : Int) (x1 : Nat) (x2 : FF) (x3 : Nat) (x4 : FF) (x5 x6 : Int) : St := ⟨(us 4 (vxi x0 :: (us 26 []))),[.box [(.c (ro kP x1 x2)),(.c (ro (.pr (.sl kP) .nil) x3 x4))],.box [(vci x5),(vci x6)]]⟩
def s47v2 (x0 : Nat) (x1 : FF) (x2 : Nat) (x3 : FF) (x4 x5 : Int) : St := ⟨(us 31 []),[.box [(.c (ro kP x0 x1)),(.c (ro (.pr (.sl kP) .nil) x2 x3))],.box [(vci x4),(vci x5)]]⟩
def L47v1 {ρ : Type} (u : Nat) (x0 : Nat) (x1 : FF) (x2 : Int) (x3 : Nat) (x4 : FF) (x5 x6 : Int) : Nat → Int → (Int → Option ρ) → (Option ρ) → Option ρ
 | 0,_,_,_ => none
 | m + 1,x7,k0,k1 =>
  (bif (decide (x7 < x2)) then (bif (inb x7 x0) then (ob (F65 100 (x1 x7.toNat 0).len (x1 x7.toNat 0).el x5 x6) fun x8 => (bif (decide (x8 ≥ 0)) then (k0 (w64 (0 - x8))) else (L47v1 u x0 x1 x2 x3 x4 x5 x6 m (w64 (x7 + 1)) k0 k1))) else none) else k1)
theorem nl47v1 {ρ σ : Type} (u : Nat) (x0 : Nat) (x1 : FF) (x2 : Int) (x3 : Nat) (x4 : FF) (x5 x6 : Int) (g : ρ → Option σ) : ∀ (m : Nat) (x7 : Int) (k0 : Int → Option ρ) (k1 : Option ρ),ob (L47v1 u x0 x1 x2 x3 x4 x5 x6 m x7 k0 k1) g = L47v1 u x0 x1 x2 x3 x4 x5 x6 m x7 (fun x8 => ob (k0 x8) g) (ob k1 g)
 | 0,_,_,_ => rfl
 | m + 1,x7,k0,k1 => by
  simp only [L47v1,ob_bif,ob_ob,ob_none,nl47v1 u x0 x1 x2 x3 x4 x5 x6 g m]
theorem r47v1 (m : Nat) (k : Ex → St → Option ρ) (x0 : Nat) (x1 : FF) (x2 : Int) (x3 : Nat) (x4 : FF) (x5 x6 x7 : Int) :
  loopH (B47v1 (C46 u) u) N47v1 (m + 1) (s47v0 x0 x1 x2 x7 x3 x4 x5 x6) k =
  (bif (decide (x7 < x2)) then (bif (inb x7 x0) then (ob (F65 100 (x1 x7.toNat 0).len (x1 x7.toNat 0).el x5 x6) fun x8 => (bif (decide (x8 ≥ 0)) then (k .ret (s47v1 (w64 (0 - x8)) x3 x4 x0 x1 x5 x6)) else (loopH (B47v1 (C46 u) u) N47v1 m (s47v0 x0 x1 x2 (w64 (x7 + 1)) x3 x4 x5 x6) k))) else none) else (k (.exit 0) (s47v2 x3 x4 x0 x1 x5 x6))) := by kernel_rfl
theorem q47v1 (u : Nat) (x0 : Nat) (x1 : FF) (x2 : Int) (x3 : Nat) (x4 : FF) (x5 x6 : Int) {ρ : Type} (k : Ex → St → Option ρ) : ∀ (m : Nat) (x7 : Int),
  loopH (B47v1 (C46 u) u) N47v1 m (s47v0 x0 x1 x2 x7 x3 x4 x5 x6) k = L47v1 u x0 x1 x2 x3 x4 x5 x6 m x7 (fun x8 => k .ret (s47v1 x8 x3 x4 x0 x1 x5 x6)) (k (.exit 0) (s47v2 x3 x4 x0 x1 x5 x6))
 | 0,_ => rfl
 | m + 1,x7 => by
  rw [r47v1]
  simp only [L47v1,q47v1 u x0 x1 x2 x3 x4 x5 x6 k m]
def D47 (x0 : Nat) (x1 : FF) (x2 : Nat) (x3 : FF) (x4 x5 : Int) (k : Int → Option ρ) : Option ρ :=
 (ob (F65 100 x0 x1 x4 x5) fun x6 => (bif (decide (x6 ≤ 0)) then (k x6) else (L47v1 u x2 x3 (Int.ofNat x2) x0 x1 x4 x5 u 0
  (fun x7 => (k x7))
  (k 1))))
def F47 (x0 : Nat) (x1 : FF) (x2 : Nat) (x3 : FF) (x4 x5 : Int) : Option (Int) := D47 u x0 x1 x2 x3 x4 x5 some
theorem f47 (x0 : Nat) (x1 : FF) (x2 : Nat) (x3 : FF) (x4 x5 : Int) (k : (Int) → Option ρ) : D47 u x0 x1 x2 x3 x4 x5 k = ob (F47 u x0 x1 x2 x3 x4 x5) k := by
 simp only [F47,D47,ob_bif,ob_ob,ob_none,ob_some,nl47v1]
def s47v3 (x0 : Nat) (x1 : FF) (x2 : Nat) (x3 : FF) (x4 x5 : Int) : St := ⟨(.agg [(.c (ro kP x0 x1)),(.c (ro (.pr (.sl kP) .nil) x2 x3))] :: .agg [(vci x4),(vci x5)] :: .x (.ptr 0 0) :: .x (.ptr 1 0) :: .u :: .u :: uu :: uu :: uu :: (us 7 [.x (.ptr 0 1),.x (.c (ro (.pr (.sl kP) .nil) x2 x3)),vxi (Int.ofNat x2),vxi 0,uu,uu,uu,uu,uu,uu,uu,uu,uu,uu,uu])),[.box [(.c (ro kP x0 x1)),(.c (ro (.pr (.sl kP) .nil) x2 x3))],.box [(vci x4),(vci x5)]]⟩
theorem t47v1 (k : Ex → St → Option ρ) (x0 : Nat) (x1 : FF) (x2 : Nat) (x3 : FF) (x4 x5 : Int) :
  loopN (B47v1 (C46 u) u) N47v1 u (s47v3 x0 x1 x2 x3 x4 x5) k =
  L47v1 u x2 x3 (Int.ofNat x2) x0 x1 x4 x5 u 0 (fun x6 => k .ret (s47v1 x6 x0 x1 x2 x3 x4 x5)) (k (.exit 0) (s47v2 x0 x1 x2 x3 x4 x5)) :=
 (loopN_at (st' := (s47v0 x2 x3 (Int.ofNat x2) 0 x0 x1 x4 x5)) (by kernel_rfl)).trans (q47v1 u x2 x3 (Int.ofNat x2) x0 x1 x4 x5 k u 0)
theorem g47v2 (x0 : Int) (x1 : Nat) (x2 : FF) (x3 : Nat) (x4 : FF) (x5 x6 : Int) :
  (kBlk 0 (kSeq (C46 u) u (4 :: 7 :: 8 :: (rl 16 15 [])) A46v4 (finish A46))) .ret (s47v1 x0 x1 x2 x3 x4 x5 x6) =
  (some [.v (vi x0)]) := by kernel_rfl
theorem g47v3 (x0 : Nat) (x1 : FF) (x2 : Nat) (x3 : FF) (x4 x5 : Int) :
  (kBlk 0 (kSeq (C46 u) u (4 :: 7 :: 8 :: (rl 16 15 [])) A46v4 (finish A46))) (.exit 0) (s47v2 x0 x1 x2 x3 x4 x5) =
  (some [.v (vi 1)]) := by kernel_rfl
theorem e47 (x0 : Nat) (x1 : FF) (x2 : Nat) (x3 : FF) (x4 x5 : Int) : evalF (C46 u) u A46 [.agg [(ro kP x0 x1),(ro (.pr (.sl kP) .nil) x2 x3)],.agg [(vi x4),(vi x5)]] = ob (F47 u x0 x1 x2 x3 x4 x5) fun t => some [.v (vi t)] := Eq.trans (b := (ob (F65 100 x0 x1 x4 x5) fun x6 => (bif (decide (x6 ≤ 0)) then (some [.v (vi x6)]) else (loopN (B47v1 (C46 u) u) N47v1 u (s47v3 x0 x1 x2 x3 x4 x5) (kBlk 0 (kSeq (C46 u) u (4 :: 7 :: 8 :: (rl 16 15 [])) A46v4 (finish A46))))))) (by kernel_rfl) (by
 rw [← f47]
 simp only [D47,t47v1,g47v2,g47v3])
def O47 : Ora where
 o := fun args {ρ} K =>
  wc args fun a1 l2 =>
  wagg a1 fun l3 =>
  wdL kP l3 fun y7 y8 l5 =>
  wdL (.pr (.sl kP) .nil) l5 fun y12 y13 l10 =>
  wn l10 <|
  wc l2 fun a14 l15 =>
  wagg a14 fun l16 =>
  wdI .i64 l16 fun y20 l18 =>
  wdI .i64 l18 fun y24 l22 =>
  wn l22 <|
  wn l15 <|
  (ob (F47 u y7 y8 y12 y13 y20 y24) fun t => K [.v (vi t)])
 nat := fun args {ρ} K => by
  simp only [bind_wagg,bind_wc,bind_wdI,bind_wdL,bind_wn,bind_ob,Option.bind_some]
theorem d47 : DO (O47 u) (C46 u) 46 A46 := by
 intro P hmix hC hF args res h
 obtain ⟨a1,l2,rfl,z0⟩ := inv_wc h
 obtain ⟨l3,rfl,z1⟩ := inv_wagg z0
 obtain ⟨a4,y7,y8,l5,rfl,h6,z2⟩ := inv_wdL z1
 obtain ⟨a9,y12,y13,l10,rfl,h11,z3⟩ := inv_wdL z2
 obtain ⟨hn,z4⟩ := inv_wn z3
 cases hn
 obtain ⟨a14,l15,rfl,z5⟩ := inv_wc z4
 obtain ⟨l16,rfl,z6⟩ := inv_wagg z5
 obtain ⟨a17,y20,l18,rfl,h19,z7⟩ := inv_wdI z6
 obtain ⟨a21,y24,l22,rfl,h23,z8⟩ := inv_wdI z7
 obtain ⟨hn,z9⟩ := inv_wn z8
 cases hn
 obtain ⟨hn,z10⟩ := inv_wn z9
 cases hn
 exact Den.weaken (.cons (WkA.agg (.cons h6 (.cons h11 .nil))) (.cons (WkA.agg (.cons h19 (.cons h23 .nil))) .nil)) (evalF_sound hmix hC hF ((e47 u y7 y8 y12 y13 y20 y24).trans z10))
def C47 : Oracle := (C46 u).add 46 (fun _ => true) (O47 100)
def A22v1 : AC := (.seq (.region 3 [o1 8 (ln 40 2 2),o1 9 (ln 49 2 3),o1 10 (cs 46 [8,9] [40,49]),o1 4 (sg 10)] 0 none) []
 (.ret (rl 0 4 (rl 5 6 []))))
def A22 : AF := ⟨11,[.tmp 4],
 (.seq (.region 0 [o1 2 (bx 0 40 0),o1 3 (bx 1 49 1),o1 4 (sk 0)] 2 none) []
 (.seq (.seq (.region 1 [o1 5 (ln 40 2 2),o1 6 (cs 40 [5] [40]),o1 7 (bk .neq 73 6 0)] 0 none) []
 (.cond (tm 7)
 (.seq (.region 2 [o1 4 (sk (-1))] 0 none) []
  (.ret (rl 0 4 (rl 5 6 []))))
 .skip)) (rl 4 4 [])
 A22v1))⟩
def D22 (u : Nat) (x0 : Nat) (x1 : FF) (x2 : Nat) (x3 : FF) (x4 x5 : Int) (k : Int → Option ρ) : Option ρ :=
 (ob (F13 100 x0 x1 x2 x3) fun x6 => (bif (x6 != 0) then (k (-1)) else (ob (F47 100 x0 x1 x2 x3 x4 x5) fun x7 => (k x7))))
def F22 (x0 : Nat) (x1 : FF) (x2 : Nat) (x3 : FF) (x4 x5 : Int) : Option (Int) := D22 u x0 x1 x2 x3 x4 x5 some
theorem f22 (x0 : Nat) (x1 : FF) (x2 : Nat) (x3 : FF) (x4 x5 : Int) (k : (Int) → Option ρ) : D22 u x0 x1 x2 x3 x4 x5 k = ob (F22 u x0 x1 x2 x3 x4 x5) k := by
 simp only [F22,D22,ob_bif,ob_ob,ob_none,ob_some]
theorem e22 (x0 : Nat) (x1 : FF) (x2 : Nat) (x3 : FF) (x4 x5 : Int) : evalF (C47 u) u A22 [.agg [(ro kP x0 x1),(ro (.pr (.sl kP) .nil) x2 x3)],.agg [(vi x4),(vi x5)]] = ob (F22 u x0 x1 x2 x3 x4 x5) fun t => some [.v (vi t)] := Eq.trans (b := (ob (F13 100 x0 x1 x2 x3) fun x6 => (bif (x6 != 0) then (some [.v (vi (-1))]) else (ob (F47 100 x0 x1 x2 x3 x4 x5) fun x7 => (some [.v (vi x7)]))))) (by kernel_rfl) (by
 rw [← f22]
 simp only [D22])
def O22 : Ora where
 o := fun args {ρ} K =>
  wc args fun a1 l2 =>
  wagg a1 fun l3 =>
  wdL kP l3 fun y7 y8 l5 =>
  wdL (.pr (.sl kP) .nil) l5 fun y12 y13 l10 =>
  wn l10 <|
  wc l2 fun a14 l15 =>
  wagg a14 fun l16 =>
  wdI .i64 l16 fun y20 l18 =>
  wdI .i64 l18 fun y24 l22 =>
  wn l22 <|
  wn l15 <|
  (ob (F22 u y7 y8 y12 y13 y20 y24) fun t => K [.v (vi t)])
 nat := fun args {ρ} K => by
  simp only [bind_wagg,bind_wc,bind_wdI,bind_wdL,bind_wn,bind_ob,Option.bind_some]
theorem d22 : DO (O22 u) (C47 u) 22 A22 := by
 intro P hmix hC hF args res h
 obtain ⟨a1,l2,rfl,z0⟩ := inv_wc h
 obtain ⟨l3,rfl,z1⟩ := inv_wagg z0
 obtain ⟨a4,y7,y8,l5,rfl,h6,z2⟩ := inv_wdL z1
 obtain ⟨a9,y12,y13,l10,rfl,h11,z3⟩ := inv_wdL z2
 obtain ⟨hn,z4⟩ := inv_wn z3
 cases hn
 obtain ⟨a14,l15,rfl,z5⟩ := inv_wc z4
 obtain ⟨l16,rfl,z6⟩ := inv_wagg z5
 obtain ⟨a17,y20,l18,rfl,h19,z7⟩ := inv_wdI z6
 obtain ⟨a21,y24,l22,rfl,h23,z8⟩ := inv_wdI z7
 obtain ⟨hn,z9⟩ := inv_wn z8
 cases hn
 obtain ⟨hn,z10⟩ := inv_wn z9
 cases hn
 exact Den.weaken (.cons (WkA.agg (.cons h6 (.cons h11 .nil))) (.cons (WkA.agg (.cons h19 (.cons h23 .nil))) .nil)) (evalF_sound hmix hC hF ((e22 u y7 y8 y12 y13 y20 y24).trans z10))
def C48 : Oracle := (C47 u).add 22 (fun _ => true) (O22 100)
def A47v1 : AC := (.region 6 [o1 18 (bk .add 3 8 1),mv 8 18] 0 none)
def A47v2 : AC := (.seq (.block 1
 (.seq (.region 3 [mv 10 8,o1 5 (sg 10)] 0 none) []
  (.seq (.region 4 [o1 11 (ln 51 4 3),mv 12 0,mv 13 5,o1 14 (.indexAddr 33 51 4 (tm 12) (tm 13)),o1 15 (ln 51 4 14),o1 16 (.eqA false (.pr .str kV) 51 (tm 11) (tm 15) 51)] 0 (some [[],[],[],[1,2],[1,2,3],(rl 0 5 [])])) []
  (.cond (tm 16)
  (.seq (.region 5 [mv 17 5,o1 4 (sg 17)] 0 none) []
   (.ret (rl 0 4 (rl 5 14 []))))
  .skip)))) (4 :: 5 :: (rl 10 8 []))
 A47v1)
def A47v3 : AC := (.seq (.region 2 [o1 9 (bt .lss 3 8 7)] 0 none) []
 (.seq (.cond (tm 9)
 .skip
 (.exit 0 (rl 0 19 []))) []
 A47v2))
def A47v4 : AC := (.seq (.region 7 [o1 4 (sk (-1))] 0 none) []
 (.ret (rl 0 4 (rl 5 14 []))))
def A47 : AF := ⟨19,[.tmp 4],
 (.seq (.region 0 [o1 3 (bx 0 51 1),o1 4 (sk 0)] 1 none) []
 (.seq (.seq (.region 1 [mv 6 0,o1 7 (.len 33 false (tm 6)),o1 8 (.move (ic 0))] 0 none) []
 (.block 0
 (.loop [] (1 :: 2 :: 4 :: 5 :: 6 :: (rl 9 10 []))
  A47v3))) (rl 4 15 [])
 A47v4))⟩
def B119v1 (C : Oracle) (u : Nat) : St → (Ex → St → Option ρ) → Option ρ := fun st k => evalC C u A47v3 st k
def N119v1 : St → Option St := fun s => s.norm (1 :: 2 :: 4 :: 5 :: 6 :: (rl 9 10 [])) 1
def s119v0 (x0 : Nat) (x1 : FF) (x2 x3 : Int) (x4 : ByteArray) (x5 x6 x7 : Int) : St := ⟨(.x (.c (ro (.pr .str kV) x0 x1)) :: .u :: .u :: .x (.ptr 0 0) :: (us 3 (vxi x2 :: vxi x3 :: (us 10 [])))),[.box [(vcs x4),(vci x5),(vci x6),(vci x7)]]⟩
def s119v1 (x0 : Int) (x1 : ByteArray) (x2 x3 x4 : Int) : St := ⟨(us 4 (vxi x0 :: (us 14 []))),[.box [(vcs x1),(vci x2),(vci x3),(vci x4)]]⟩
def s119v2 (x0 : ByteArray) (x1 x2 x3 : Int) : St := ⟨(us 19 []),[.box [(vcs x0),(vci x1),(vci x2),(vci x3)]]⟩
def L119v1 {ρ : Type} (u : Nat) (x0 : Nat) (x1 : FF) (x2 : Int) (x3 : ByteArray) (x4 x5 x6 : Int) : Nat → Int → (Int → Option ρ) → (Option ρ) → Option ρ
 | 0,_,_,_ => none
 | m + 1,x7,k0,k1 =>
  (bif (decide (x7 < x2)) then (bif (inb x7 x0) then (bif ((ByteArray.toList x3 == ByteArray.toList (x1 x7.toNat 0).str) && ((x4 == (x1 x7.toNat 1).int) && ((x5 == (x1 x7.toNat 2).int) && ((x6 == (x1 x7.toNat 3).int) && true)))) then (k0 x7) else (L119v1 u x0 x1 x2 x3 x4 x5 x6 m (w64 (x7 + 1)) k0 k1)) else none) else k1)
theorem nl119v1 {ρ σ : Type} (u : Nat) (x0 : Nat) (x1 : FF) (x2 : Int) (x3 : ByteArray) (x4 x5 x6 : Int) (g : ρ → Option σ) : ∀ (m : Nat) (x7 : Int) (k0 : Int → Option ρ) (k1 : Option ρ),ob (L119v1 u x0 x1 x2 x3 x4 x5 x6 m x7 k0 k1) g = L119v1 u x0 x1 x2 x3 x4 x5 x6 m x7 (fun x8 => ob (k0 x8) g) (ob k1 g)
 | 0,_,_,_ => rfl
 | m + 1,x7,k0,k1 => by
  simp only [L119v1,ob_bif,ob_ob,ob_none,nl119v1 u x0 x1 x2 x3 x4 x5 x6 g m]
theorem r119v1 (m : Nat) (k : Ex → St → Option ρ) (x0 : Nat) (x1 : FF) (x2 : Int) (x3 : ByteArray) (x4 x5 x6 x7 : Int) :
  loopH (B119v1 (C48 u) u) N119v1 (m + 1) (s119v0 x0 x1 x2 x7 x3 x4 x5 x6) k =
  (bif (decide (x7 < x2)) then (bif (inb x7 x0) then (bif ((ByteArray.toList x3 == ByteArray.toList (x1 x7.toNat 0).str) && ((x4 == (x1 x7.toNat 1).int) && ((x5 == (x1 x7.toNat 2).int) && ((x6 == (x1 x7.toNat 3).int) && true)))) then (k .ret (s119v1 x7 x3 x4 x5 x6)) else (loopH (B119v1 (C48 u) u) N119v1 m (s119v0 x0 x1 x2 (w64 (x7 + 1)) x3 x4 x5 x6) k)) else none) else (k (.exit 0) (s119v2 x3 x4 x5 x6))) := by kernel_rfl
theorem q119v1 (u : Nat) (x0 : Nat) (x1 : FF) (x2 : Int) (x3 : ByteArray) (x4 x5 x6 : Int) {ρ : Type} (k : Ex → St → Option ρ) : ∀ (m : Nat) (x7 : Int),
  loopH (B119v1 (C48 u) u) N119v1 m (s119v0 x0 x1 x2 x7 x3 x4 x5 x6) k = L119v1 u x0 x1 x2 x3 x4 x5 x6 m x7 (fun x8 => k .ret (s119v1 x8 x3 x4 x5 x6)) (k (.exit 0) (s119v2 x3 x4 x5 x6))
 | 0,_ => rfl
 | m + 1,x7 => by
  rw [r119v1]
  simp only [L119v1,q119v1 u x0 x1 x2 x3 x4 x5 x6 k m]
def D119 (x0 : Nat) (x1 : FF) (x2 : ByteArray) (x3 x4 x5 : Int) (k : Int → Option ρ) : Option ρ :=
 (L119v1 u x0 x1 (Int.ofNat x0) x2 x3 x4 x5 u 0
  (fun x6 => (k x6))
  (k (-1)))
def F119 (x0 : Nat) (x1 : FF) (x2 : ByteArray) (x3 x4 x5 : Int) : Option (Int) := D119 u x0 x1 x2 x3 x4 x5 some
theorem f119 (x0 : Nat) (x1 : FF) (x2 : ByteArray) (x3 x4 x5 : Int) (k : (Int) → Option ρ) : D119 u x0 x1 x2 x3 x4 x5 k = ob (F119 u x0 x1 x2 x3 x4 x5) k := by
 simp only [F119,D119,ob_bif,ob_ob,ob_none,ob_some,nl119v1]
def s119v3 (x0 : Nat) (x1 : FF) (x2 : ByteArray) (x3 x4 x5 : Int) : St := ⟨[.x (.c (ro (.pr .str kV) x0 x1)),.agg [(vcs x2),(vci x3),(vci x4),(vci x5)],uu,.x (.ptr 0 0),vxi 0,uu,.x (.c (ro (.pr .str kV) x0 x1)),vxi (Int.ofNat x0),vxi 0,uu,uu,uu,uu,uu,uu,uu,uu,uu,uu],[.box [(vcs x2),(vci x3),(vci x4),(vci x5)]]⟩
theorem t119v1 (k : Ex → St → Option ρ) (x0 : Nat) (x1 : FF) (x2 : ByteArray) (x3 x4 x5 : Int) :
  loopN (B119v1 (C48 u) u) N119v1 u (s119v3 x0 x1 x2 x3 x4 x5) k =
  L119v1 u x0 x1 (Int.ofNat x0) x2 x3 x4 x5 u 0 (fun x6 => k .ret (s119v1 x6 x2 x3 x4 x5)) (k (.exit 0) (s119v2 x2 x3 x4 x5)) :=
 (loopN_at (st' := (s119v0 x0 x1 (Int.ofNat x0) 0 x2 x3 x4 x5)) (by kernel_rfl)).trans (q119v1 u x0 x1 (Int.ofNat x0) x2 x3 x4 x5 k u 0)
theorem g119v2 (x0 : Int) (x1 : ByteArray) (x2 x3 x4 : Int) :
  (kBlk 0 (kSeq (C48 u) u (rl 4 15 []) A47v4 (finish A47))) .ret (s119v1 x0 x1 x2 x3 x4) =
  (some [.v (vi x0)]) := by kernel_rfl
theorem g119v3 (x0 : ByteArray) (x1 x2 x3 : Int) :
  (kBlk 0 (kSeq (C48 u) u (rl 4 15 []) A47v4 (finish A47))) (.exit 0) (s119v2 x0 x1 x2 x3) =
  (some [.v (vi (-1))]) := by kernel_rfl
theorem e119 (x0 : Nat) (x1 : FF) (x2 : ByteArray) (x3 x4 x5 : Int) : evalF (C48 u) u A47 [.v (ro (.pr .str kV) x0 x1),.agg [(.s x2),(vi x3),(vi x4),(vi x5)]] = ob (F119 u x0 x1 x2 x3 x4 x5) fun t => some [.v (vi t)] := Eq.trans (b := (loopN (B119v1 (C48 u) u) N119v1 u (s119v3 x0 x1 x2 x3 x4 x5) (kBlk 0 (kSeq (C48 u) u (rl 4 15 []) A47v4 (finish A47))))) (by kernel_rfl) (by
 rw [← f119]
 simp only [D119,t119v1,g119v2,g119v3])
def O119 : Ora where
 o := fun args {ρ} K =>
  wcL (.pr .str kV) args fun y4 y5 l2 =>
  wc l2 fun a6 l7 =>
  wagg a6 fun l8 =>
  wdS l8 fun y12 l10 =>
  wdI .i64 l10 fun y16 l14 =>
  wdI .i64 l14 fun y20 l18 =>
  wdI .i64 l18 fun y24 l22 =>
  wn l22 <|
  wn l7 <|
  (ob (F119 u y4 y5 y12 y16 y20 y24) fun t => K [.v (vi t)])
 nat := fun args {ρ} K => by
  simp only [bind_wagg,bind_wc,bind_wcL,bind_wdI,bind_wdS,bind_wn,bind_ob,Option.bind_some]
theorem d119 : DO (O119 u) (C48 u) 47 A47 := by
 intro P hmix hC hF args res h
 obtain ⟨a1,y4,y5,l2,rfl,h3,z0⟩ := inv_wcL h
 obtain ⟨a6,l7,rfl,z1⟩ := inv_wc z0
 obtain ⟨l8,rfl,z2⟩ := inv_wagg z1
 obtain ⟨a9,y12,l10,rfl,h11,z3⟩ := inv_wdS z2
 obtain ⟨a13,y16,l14,rfl,h15,z4⟩ := inv_wdI z3
 obtain ⟨a17,y20,l18,rfl,h19,z5⟩ := inv_wdI z4
 obtain ⟨a21,y24,l22,rfl,h23,z6⟩ := inv_wdI z5
 obtain ⟨hn,z7⟩ := inv_wn z6
 cases hn
 obtain ⟨hn,z8⟩ := inv_wn z7
 cases hn
 exact Den.weaken (.cons h3 (.cons (WkA.agg (.cons h11 (.cons h15 (.cons h19 (.cons h23 .nil))))) .nil)) (evalF_sound hmix hC hF ((e119 u y4 y5 y12 y16 y20 y24).trans z8))
def C49 : Oracle := (C48 u).add 47 (fun _ => true) (O119 100)
def A24 : AF := ⟨9,[.tmp 4],
 (.seq (.region 0 [o1 3 (bx 0 51 1),o1 4 (sb false)] 1 none) []
 (.seq (.region 1 [mv 5 0,o1 6 (ln 51 4 3),o1 7 (cs 47 [5,6] [33,51]),o1 8 (bk .geq 3 7 0),o1 4 (sg 8)] 0 none) []
 (.ret (rl 0 4 (rl 5 4 [])))))⟩
def D120 (u : Nat) (x0 : Nat) (x1 : FF) (x2 : ByteArray) (x3 x4 x5 : Int) (k : Bool → Option ρ) : Option ρ :=
 (ob (F119 100 x0 x1 x2 x3 x4 x5) fun x6 => (k (decide (x6 ≥ 0))))
def F120 (x0 : Nat) (x1 : FF) (x2 : ByteArray) (x3 x4 x5 : Int) : Option (Bool) := D120 u x0 x1 x2 x3 x4 x5 some
theorem f120 (x0 : Nat) (x1 : FF) (x2 : ByteArray) (x3 x4 x5 : Int) (k : (Bool) → Option ρ) : D120 u x0 x1 x2 x3 x4 x5 k = ob (F120 u x0 x1 x2 x3 x4 x5) k := by
 simp only [F120,D120,ob_bif,ob_ob,ob_none,ob_some]
theorem e120 (x0 : Nat) (x1 : FF) (x2 : ByteArray) (x3 x4 x5 : Int) : evalF (C49 u) u A24 [.v (ro (.pr .str kV) x0 x1),.agg [(.s x2),(vi x3),(vi x4),(vi x5)]] = ob (F120 u x0 x1 x2 x3 x4 x5) fun t => some [.v (.b t)] := Eq.trans (b := (ob (F119 100 x0 x1 x2 x3 x4 x5) fun x6 => (some [.v (.b (decide (x6 ≥ 0)))]))) (by kernel_rfl) (by
 rw [← f120]
 simp only [D120])
def O120 : Ora where
 o := fun args {ρ} K =>
  wcL (.pr .str kV) args fun y4 y5 l2 =>
  wc l2 fun a6 l7 =>
  wagg a6 fun l8 =>
  wdS l8 fun y12 l10 =>
  wdI .i64 l10 fun y16 l14 =>
  wdI .i64 l14 fun y20 l18 =>
  wdI .i64 l18 fun y24 l22 =>
  wn l22 <|
  wn l7 <|
  (ob (F120 u y4 y5 y12 y16 y20 y24) fun t => K [.v (.b t)])
 nat := fun args {ρ} K => by
  simp only [bind_wagg,bind_wc,bind_wcL,bind_wdI,bind_wdS,bind_wn,bind_ob,Option.bind_some]
theorem d120 : DO (O120 u) (C49 u) 24 A24 := by
 intro P hmix hC hF args res h
 obtain ⟨a1,y4,y5,l2,rfl,h3,z0⟩ := inv_wcL h
 obtain ⟨a6,l7,rfl,z1⟩ := inv_wc z0
 obtain ⟨l8,rfl,z2⟩ := inv_wagg z1
 obtain ⟨a9,y12,l10,rfl,h11,z3⟩ := inv_wdS z2
 obtain ⟨a13,y16,l14,rfl,h15,z4⟩ := inv_wdI z3
 obtain ⟨a17,y20,l18,rfl,h19,z5⟩ := inv_wdI z4
 obtain ⟨a21,y24,l22,rfl,h23,z6⟩ := inv_wdI z5
 obtain ⟨hn,z7⟩ := inv_wn z6
 cases hn
 obtain ⟨hn,z8⟩ := inv_wn z7
 cases hn
 exact Den.weaken (.cons h3 (.cons (WkA.agg (.cons h11 (.cons h15 (.cons h19 (.cons h23 .nil))))) .nil)) (evalF_sound hmix hC hF ((e120 u y4 y5 y12 y16 y20 y24).trans z8))
def C50 : Oracle := (C49 u).add 24 (fun _ => true) (O120 100)
def A13v1 : AC := (.seq (.region 10 [o1 67 (fa 46 3 0 0),o1 68 (lo 9 67),o1 69 (fa 42 10 0 0),o1 70 (lo 3 69),o1 71 (fa 42 10 1 1),o1 72 (lo 3 71),o1 73 (.build 49 [vci 0,vci 0] [(0,1),(1,1)] 0 [(0,(tm 70)),(1,(tm 72))]),mv 74 2,o1 75 (.build 51 [vcs ByteArray.empty,vci 0,vci 0,vci 0] [(0,1),(1,2),(3,1)] 0 [(0,(tm 68)),(1,(tm 73)),(2,(tm 74))]),o1 12 (.alloc 0 51 [vcs ByteArray.empty,vci 0,vci 0,vci 0]),o0 (.store 51 4 (tm 12) (tm 75))] 1 none) []
 (.seq (.region 11 [o1 76 (ln 46 18 3),o1 77 (cf 23 [76] [46]),o1 78 (fa 51 12 1 1),o1 79 (ln 49 2 78),o1 80 (cs 22 [77,79] [40,49]),o1 81 (bk .geq 3 80 0),mv 82 81,og 83 (.move (tm 6)) 82 true,og 84 (ln 51 4 12) 82 true,og 85 (cs 24 [83,84] [33,51]) 82 true,og 86 (.unOp .not 4 (tm 85)) 82 true,o1 87 (po 82 86)] 0 (some [[],[0],[],[2],(rl 0 4 []),(rl 0 5 []),(rl 0 6 []),(rl 0 7 []),(rl 0 7 []),(rl 0 9 []),(rl 0 10 []),(rl 0 11 [])])) []
 (.cond (tm 87)
 (.region 12 [mv 88 6,o1 89 (ln 51 4 12),o1 90 (.buildSlice 0 33 51 (.pr .str kV) 1 [vcs ByteArray.empty,vci 0,vci 0,vci 0] [(0,(tm 89))]),o1 91 (.append 1 33 51 (.pr .str kV) 40 (tm 88) (tm 90)),o1 6 (sg 91)] 2 none)
 .skip)))
def A13v2 : AC := (.region 7 [mv 30 9,o1 31 (bk .add 3 30 1),o1 9 (sg 31)] 0 none)
def A13v3 : AC := (.seq (.block 1
 (.seq (.region 8 [mv 32 8,mv 33 9,o1 34 (bk .sub 3 33 1),o1 35 (.callv (tm 32) [(tm 34)] [3] .snap),mv 36 8,mv 37 9,o1 38 (.callv (tm 36) [(tm 37)] [3] .snap),o1 10 (.alloc 0 42 [vci 0,vci 0,vci 0]),o1 11 (.alloc 1 42 [vci 0,vci 0,vci 0]),o0 (.store 42 3 (tm 10) (tm 35)),o0 (.store 42 3 (tm 11) (tm 38))] 2 none) []
  (.seq (.seq (.region 9 [o1 39 (fa 42 10 0 0),o1 40 (lo 3 39),o1 41 (fa 42 11 0 0),o1 42 (lo 3 41),o1 43 (bt .neq 3 40 42),mv 44 43,og 45 (fa 42 10 1 1) 44 false,og 46 (lo 3 45) 44 false,og 47 (fa 42 11 1 1) 44 false,og 48 (lo 3 47) 44 false,og 49 (bt .neq 3 46 48) 44 false,o1 50 (pa 44 49),mv 51 50,og 52 (fa 42 10 2 2) 51 false,og 53 (lo 3 52) 51 false,og 54 (fa 42 11 2 2) 51 false,og 55 (lo 3 54) 51 false,og 56 (.mm false [(tm 53),(tm 55)] [3,3]) 51 false,og 57 (bk .gtr 3 56 0) 51 false,o1 58 (pa 51 57),mv 59 58,og 60 (fa 42 10 2 2) 59 false,og 61 (lo 3 60) 59 false,og 62 (fa 42 11 2 2) 59 false,og 63 (lo 3 62) 59 false,og 64 (.mm true [(tm 61),(tm 63)] [3,3]) 59 false,og 65 (bk .lss 3 64 0) 59 false,o1 66 (pa 59 65)] 0 none) []
  (.cond (tm 66)
  (.exit 1 (0 :: 1 :: 5 :: 7 :: (rl 10 83 [])))
  .skip)) (rl 39 28 [])
  A13v1))) (10 :: 11 :: 12 :: (rl 32 60 []))
 A13v2)
def A13v4 : AC := (.seq (.seq (.region 6 [mv 26 9,o1 27 (lo 29 4),o1 28 (.len 29 false (tm 27)),o1 29 (bt .lss 3 26 28)] 0 none) []
 (.cond (tm 29)
 .skip
 (.exit 0 (rl 0 6 (rl 7 86 []))))) (rl 26 4 [])
 A13v3)
def A13v5 : AC := (.seq (.region 13 [mv 92 6,o1 6 (sg 92)] 0 none) []
 (.ret (rl 0 6 (rl 7 86 []))))
def A13v6 : AC := (.seq (.region 3 [o1 22 (fa 46 3 11 14),o1 23 (ln 44 4 22),o1 24 (cs 19 [23] [44]),o1 7 (.alloc 0 44 [vci 0,vci 0,vci 0,vci 0]),o0 (.store 44 4 (tm 7) (tm 24))] 1 none) []
 (.seq (.region 4 [o1 25 (.mkfn 20 [(tm 7),(tm 4)]),o1 8 (sg 25)] 0 none) []
 (.seq (.seq (.region 5 [o1 9 (sk 1)] 0 none) []
 (.block 0
 (.loop [.slot 6 (.pr .str kV)] (0 :: 1 :: 5 :: 7 :: (rl 10 83 []))
  A13v4))) (rl 9 4 (rl 26 66 []))
 A13v5)))
def A13 : AF := ⟨93,[.tmp 6],
 (.seq (.region 0 [o1 3 (bx 0 46 0),o1 4 (bx 1 29 1),o1 6 (.assign (.const (.slice none 0 0)))] 2 none) []
 (.seq (.seq (.region 1 [o1 13 (lo 29 4),mv 14 2,o1 15 (cs 17 [13,14] [29,3]),o1 16 (.unOp .not 4 (tm 15)),mv 17 16,og 18 (ln 46 18 3) 17 false,og 19 (cs 18 [18] [46]) 17 false,og 20 (.unOp .not 4 (tm 19)) 17 false,o1 21 (pa 17 20)] 0 none) []
 (.cond (tm 21)
 (.seq (.region 2 [o1 6 (.assign (.const (.slice none 0 0)))] 0 none) []
  (.ret (rl 0 6 (rl 7 86 []))))
 .skip)) (rl 13 9 [])
 A13v6))⟩
def B121v1 (C : Oracle) (u : Nat) : St → (Ex → St → Option ρ) → Option ρ := fun st k => evalC C u A13v4 st k
def N121v1 : St → Option St := fun s => s.norm (0 :: 1 :: 5 :: 7 :: (rl 10 83 [])) 4
def s121v0 (x0 : Int) (x1 : Nat) (x2 : Int) (x3 : Nat → CV) (x4 : Nat) (x5 : FF) (x6 x7 x8 x9 : Int) (xA : FF) : St := ⟨(.u :: .u :: vxi x0 :: .x (.ptr 0 0) :: .x (.ptr 1 0) :: .u :: .x (.own 3 0 x1) :: .u :: .x (.fn 20 [.ptr 2 0,.ptr 1 0]) :: vxi x2 :: (us 83 [])),[.box (pjc kR0 x3),.box [(.c (ro kV x4 x5))],.box [(vci x6),(vci x7),(vci x8),(vci x9)],.arr (.pr .str kV) x1 xA]⟩
def s121v1 (x0 : Nat) (x1 : Nat → CV) (x2 : Nat) (x3 : FF) (x4 x5 x6 x7 : Int) (x8 : FF) : St := ⟨(us 6 (.x (.own 3 0 x0) :: (us 86 []))),[.box (pjc kR0 x1),.box [(.c (ro kV x2 x3))],.box [(vci x4),(vci x5),(vci x6),(vci x7)],.arr (.pr .str kV) x0 x8]⟩
def L121v1 {ρ : Type} (u : Nat) (x0 : Int) (x1 : Nat → CV) (x2 : Nat) (x3 : FF) (x4 x5 x6 x7 : Int) : Nat → Nat → Int → FF → (Nat → FF → Option ρ) → Option ρ
 | 0,_,_,_,_ => none
 | m + 1,x8,x9,xA,k0 =>
  (bif (decide (x9 < (Int.ofNat x2))) then (ob (F118 100 (w64 (x9 - 1)) (listF [(.i .i64 x4),(.i .i64 x5),(.i .i64 x6),(.i .i64 x7)]) (listF [(.ro false (.pr (.int .i64) (.pr (.int .i64) (.pr (.int .i64) .nil))) x2 x3)])) fun xB => (ob (F118 100 x9 (listF [(.i .i64 x4),(.i .i64 x5),(.i .i64 x6),(.i .i64 x7)]) (listF [(.ro false (.pr (.int .i64) (.pr (.int .i64) (.pr (.int .i64) .nil))) x2 x3)])) fun xC => (bif ((xB.1 != xC.1) == false) then (bif ((xB.2.1 != xC.2.1) == false) then (bif ((decide ((if xC.2.2 < xB.2.2 then xC.2.2 else xB.2.2) > 0)) == false) then (bif (decide ((if xC.2.2 > xB.2.2 then xC.2.2 else xB.2.2) < 0)) then (L121v1 u x0 x1 x2 x3 x4 x5 x6 x7 m x8 (w64 (x9 + 1)) xA k0) else (ob (F112 100 (listF (pj kR0 x1))) fun xD => (ob (F22 100 xD.1 xD.2.1 xD.2.2.1 xD.2.2.2 xB.1 xB.2.1) fun xE => (bif ((decide (xE ≥ 0)) == true) then (ob (F120 100 x8 xA (x1 0).str xB.1 xB.2.1 x0) fun xF => (bif (!xF) then (bif (Nat.ble (x8 + 1) 1073741824) then (L121v1 u x0 x1 x2 x3 x4 x5 x6 x7 m (x8 + 1) (w64 (x9 + 1)) (joinF x8 xA (rowsF 4 [(.s (x1 0).str),(.i .i64 xB.1),(.i .i64 xB.2.1),(.i .i64 x0)])) k0) else none) else (L121v1 u x0 x1 x2 x3 x4 x5 x6 x7 m x8 (w64 (x9 + 1)) xA k0))) else (L121v1 u x0 x1 x2 x3 x4 x5 x6 x7 m x8 (w64 (x9 + 1)) xA k0))))) else (L121v1 u x0 x1 x2 x3 x4 x5 x6 x7 m x8 (w64 (x9 + 1)) xA k0)) else (L121v1 u x0 x1 x2 x3 x4 x5 x6 x7 m x8 (w64 (x9 + 1)) xA k0)) else (L121v1 u x0 x1 x2 x3 x4 x5 x6 x7 m x8 (w64 (x9 + 1)) xA k0)))) else (k0 x8 xA))
theorem nl121v1 {ρ σ : Type} (u : Nat) (x0 : Int) (x1 : Nat → CV) (x2 : Nat) (x3 : FF) (x4 x5 x6 x7 : Int) (g : ρ → Option σ) : ∀ (m : Nat) (x8 : Nat) (x9 : Int) (xA : FF) (k0 : Nat → FF → Option ρ),ob (L121v1 u x0 x1 x2 x3 x4 x5 x6 x7 m x8 x9 xA k0) g = L121v1 u x0 x1 x2 x3 x4 x5 x6 x7 m x8 x9 xA (fun xB xC => ob (k0 xB xC) g)
 | 0,_,_,_,_ => rfl
 | m + 1,x8,x9,xA,k0 => by
  simp only [L121v1,ob_bif,ob_ob,ob_none,nl121v1 u x0 x1 x2 x3 x4 x5 x6 x7 g m]
theorem r121v1 (m : Nat) (k : Ex → St → Option ρ) (x0 : Int) (x1 : Nat → CV) (x2 : Nat) (x3 : FF) (x4 x5 x6 x7 : Int) (x8 : Nat) (x9 : Int) (xA : FF) :
  loopH (B121v1 (C50 u) u) N121v1 (m + 1) (s121v0 x0 x8 x9 x1 x2 x3 x4 x5 x6 x7 xA) k =
  (bif (decide (x9 < (Int.ofNat x2))) then (ob (F118 100 (w64 (x9 - 1)) (listF [(vi x4),(vi x5),(vi x6),(vi x7)]) (listF [(ro kV x2 x3)])) fun xB => (ob (F118 100 x9 (listF [(vi x4),(vi x5),(vi x6),(vi x7)]) (listF [(ro kV x2 x3)])) fun xC => (bif ((xB.1 != xC.1) == false) then (bif ((xB.2.1 != xC.2.1) == false) then (bif ((decide ((if xC.2.2 < xB.2.2 then xC.2.2 else xB.2.2) > 0)) == false) then (bif (decide ((if xC.2.2 > xB.2.2 then xC.2.2 else xB.2.2) < 0)) then (loopH (B121v1 (C50 u) u) N121v1 m (s121v0 x0 x8 (w64 (x9 + 1)) x1 x2 x3 x4 x5 x6 x7 xA) k) else (ob (F112 100 (listF (pj kR0 x1))) fun xD => (ob (F22 100 xD.1 xD.2.1 xD.2.2.1 xD.2.2.2 xB.1 xB.2.1) fun xE => (bif ((decide (xE ≥ 0)) == true) then (ob (F120 100 x8 xA (x1 0).str xB.1 xB.2.1 x0) fun xF => (bif (!xF) then (bif (Nat.ble (x8 + 1) 1073741824) then (loopH (B121v1 (C50 u) u) N121v1 m (s121v0 x0 (x8 + 1) (w64 (x9 + 1)) x1 x2 x3 x4 x5 x6 x7 (joinF x8 xA (rowsF 4 [(.s (x1 0).str),(vi xB.1),(vi xB.2.1),(vi x0)]))) k) else none) else (loopH (B121v1 (C50 u) u) N121v1 m (s121v0 x0 x8 (w64 (x9 + 1)) x1 x2 x3 x4 x5 x6 x7 xA) k))) else (loopH (B121v1 (C50 u) u) N121v1 m (s121v0 x0 x8 (w64 (x9 + 1)) x1 x2 x3 x4 x5 x6 x7 xA) k))))) else (loopH (B121v1 (C50 u) u) N121v1 m (s121v0 x0 x8 (w64 (x9 + 1)) x1 x2 x3 x4 x5 x6 x7 xA) k)) else (loopH (B121v1 (C50 u) u) N121v1 m (s121v0 x0 x8 (w64 (x9 + 1)) x1 x2 x3 x4 x5 x6 x7 xA) k)) else (loopH (B121v1 (C50 u) u) N121v1 m (s121v0 x0 x8 (w64 (x9 + 1)) x1 x2 x3 x4 x5 x6 x7 xA) k)))) else (k (.exit 0) (s121v1 x8 x1 x2 x3 x4 x5 x6 x7 xA))) := by kernel_rfl
theorem q121v1 (u : Nat) (x0 : Int) (x1 : Nat → CV) (x2 : Nat) (x3 : FF) (x4 x5 x6 x7 : Int) {ρ : Type} (k : Ex → St → Option ρ) : ∀ (m : Nat) (x8 : Nat) (x9 : Int) (xA : FF),
  loopH (B121v1 (C50 u) u) N121v1 m (s121v0 x0 x8 x9 x1 x2 x3 x4 x5 x6 x7 xA) k = L121v1 u x0 x1 x2 x3 x4 x5 x6 x7 m x8 x9 xA (fun xB xC => k (.exit 0) (s121v1 xB x1 x2 x3 x4 x5 x6 x7 xC))
 | 0,_,_,_ => rfl
 | m + 1,x8,x9,xA => by
  rw [r121v1]
  simp only [L121v1,q121v1 u x0 x1 x2 x3 x4 x5 x6 x7 k m]
def D121 (x0 : Nat → CV) (x1 : Nat) (x2 : FF) (x3 : Int) (k : (Bool × Nat × FF) → Option ρ) : Option ρ :=
 (ob (F109 100 x1 x2 x3) fun x4 => (bif ((!x4) == false) then (ob (F113 100 (listF (pj kR0 x0))) fun x5 => (bif (!x5) then (k (true,0,(fun _ _ => .any))) else (ob (F116 100 (x0 14).int (x0 15).int (x0 16).int (x0 17).int) fun x6 => (L121v1 u x3 x0 x1 x2 x6.1 x6.2.1 x6.2.2.1 x6.2.2.2 u 0 1 (fun _ _ => .any)
  (fun x7 x8 => (k (false,x7,x8))))))) else (k (true,0,(fun _ _ => .any)))))
def FT121 (x0 : Nat → CV) (x1 : Nat) (x2 : FF) (x3 : Int) : Option (Bool × Nat × FF) := D121 u x0 x1 x2 x3 some
theorem f121 (x0 : Nat → CV) (x1 : Nat) (x2 : FF) (x3 : Int) (k : (Bool × Nat × FF) → Option ρ) : D121 u x0 x1 x2 x3 k = ob (FT121 u x0 x1 x2 x3) k := by
 simp only [FT121,D121,ob_bif,ob_ob,ob_none,ob_some,nl121v1]
def s121v2 (x0 : Nat → CV) (x1 : Nat) (x2 : FF) (x3 : Int) (x4 : Int × Int × Int × Int) : St := ⟨(.agg (pjc kR0 x0) :: .x (.c (ro kV x1 x2)) :: vxi x3 :: .x (.ptr 0 0) :: .x (.ptr 1 0) :: uu :: .x (.own 3 0 0) :: .x (.ptr 2 0) :: .x (.fn 20 [.ptr 2 0,.ptr 1 0]) :: vxi 1 :: uu :: uu :: uu :: (us 9 [.x (.ptr 0 14),.agg [(vci (x0 14).int),(vci (x0 15).int),(vci (x0 16).int),(vci (x0 17).int)],.agg [(vci x4.1),(vci x4.2.1),(vci x4.2.2.1),(vci x4.2.2.2)],.x (.fn 20 [.ptr 2 0,.ptr 1 0]),uu,uu,uu,uu,uu,uu,uu,uu,uu,uu,uu,uu,uu,uu,uu,uu,uu,uu,uu,uu,uu,uu,uu,uu,uu,uu,uu,uu,uu,uu,uu,uu,uu,uu,uu,uu,uu,uu,uu,uu,uu,uu,uu,uu,uu,uu,uu,uu,uu,uu,uu,uu,uu,uu,uu,uu,uu,uu,uu,uu,uu,uu,uu,uu,uu,uu,uu])),[.box (pjc kR0 x0),.box [(.c (ro kV x1 x2))],.box [(vci x4.1),(vci x4.2.1),(vci x4.2.2.1),(vci x4.2.2.2)],.arr (.pr .str kV) 0 nilF]⟩
theorem t121v1 (k : Ex → St → Option ρ) (x0 : Nat → CV) (x1 : Nat) (x2 : FF) (x3 : Int) (x4 : Int × Int × Int × Int) :
  loopN (B121v1 (C50 u) u) N121v1 u (s121v2 x0 x1 x2 x3 x4) k =
  L121v1 u x3 x0 x1 x2 x4.1 x4.2.1 x4.2.2.1 x4.2.2.2 u 0 1 nilF (fun x5 x6 => k (.exit 0) (s121v1 x5 x0 x1 x2 x4.1 x4.2.1 x4.2.2.1 x4.2.2.2 x6)) :=
 (loopN_at (st' := (s121v0 x3 0 1 x0 x1 x2 x4.1 x4.2.1 x4.2.2.1 x4.2.2.2 nilF)) (by kernel_rfl)).trans (q121v1 u x3 x0 x1 x2 x4.1 x4.2.1 x4.2.2.1 x4.2.2.2 k u 0 1 nilF)
theorem g121v2 (x0 : Nat) (x1 : Nat → CV) (x2 : Nat) (x3 : FF) (x4 : Int × Int × Int × Int) (x5 : FF) :
  (kBlk 0 (kSeq (C50 u) u (rl 9 4 (rl 26 66 [])) A13v5 (finish A13))) (.exit 0) (s121v1 x0 x1 x2 x3 x4.1 x4.2.1 x4.2.2.1 x4.2.2.2 x5) =
  (some [.v (ro (.pr .str kV) x0 x5)]) := by kernel_rfl
theorem e121 (x0 : Nat → CV) (x1 : Nat) (x2 : FF) (x3 : Int) : evalF (C50 u) u A13 [.agg (pj kR0 x0),.v (ro kV x1 x2),.v (vi x3)] = ob (FT121 u x0 x1 x2 x3) fun t => some (bif t.1 then [.v (.ro true .nil 0 nilF)] else [.v (ro (.pr .str kV) t.2.1 t.2.2)]) := Eq.trans (b := (ob (F109 100 x1 x2 x3) fun x4 => (bif ((!x4) == false) then (ob (F113 100 (listF (pj kR0 x0))) fun x5 => (bif (!x5) then (some [.v (.ro true .nil 0 nilF)]) else (ob (F116 100 (x0 14).int (x0 15).int (x0 16).int (x0 17).int) fun x6 => (loopN (B121v1 (C50 u) u) N121v1 u (s121v2 x0 x1 x2 x3 x6) (kBlk 0 (kSeq (C50 u) u (rl 9 4 (rl 26 66 [])) A13v5 (finish A13))))))) else (some [.v (.ro true .nil 0 nilF)])))) (by kernel_rfl) (by
 rw [← f121]
 simp only [D121,t121v1,g121v2,cond_true,cond_false])
def F121 (x0 : Nat → CV) (x1 : Nat) (x2 : FF) (x3 : Int) : Option (Nat × FF) := ob (FT121 u x0 x1 x2 x3) fun t => some (bif t.1 then (0,(fun _ _ => .any)) else (t.2.1,t.2.2))
def O121 : Ora where
 o := fun args {ρ} K =>
  wc args fun a1 l2 =>
  wrow kR0 a1 fun y3 =>
  wcL kV l2 fun y8 y9 l6 =>
  wcI .i64 l6 fun y13 l11 =>
  wn l11 <|
  (ob (F121 u y3 y8 y9 y13) fun t => K [.v (ro (.pr .str kV) t.1 t.2)])
 nat := fun args {ρ} K => by
  simp only [bind_wc,bind_wcI,bind_wcL,bind_wn,bind_wrow,bind_ob,Option.bind_some]
theorem d121 (fuel : Nat) : DO (O121 fuel) (C50 fuel) 13 A13 := by
 intro P hmix hC hF args res h
 obtain ⟨a1,l2,rfl,z0⟩ := inv_wc h
 obtain ⟨y3,h4,z1⟩ := inv_wrow z0
 obtain ⟨a5,y8,y9,l6,rfl,h7,z2⟩ := inv_wcL z1
 obtain ⟨a10,y13,l11,rfl,h12,z3⟩ := inv_wcI z2
 obtain ⟨hn,z4⟩ := inv_wn z3
 cases hn
 obtain ⟨u,hu,hr⟩ := ob_inv z4
 cases hr
 obtain ⟨t,ht,hv⟩ := ob_inv (show ob (FT121 fuel y3 y8 y9 y13) _ = some u from hu)
 cases hv
 refine Den.results ?_ (Den.weaken (.cons h4 (.cons h7 (.cons h12 .nil))) (evalF_sound hmix hC hF ((e121 fuel y3 y8 y9 y13).trans (by rw [ht]; rfl))))
 obtain ⟨b,t⟩ := t
 cases b with
 | true => exact (.cons (WkA.v (Wk.ro (by rfl))) .nil)
 | false =>
  exact (.cons (WkA.v (Wk.refl _)) .nil)
def C51 : Oracle := (C50 u).add 13 (fun _ => true) (O121 100)
def A7v1 : AC := (.seq (.block 1
 (.seq (.region 3 [o1 14 (.indexAddr 23 46 18 (tm 10) (tm 12)),o1 15 (ln 46 18 14),o1 8 (.alloc 0 46 [vcs ByteArray.empty,vci 0,vci 0,vcs ByteArray.empty,vcs ByteArray.empty,vci 0,vcn,vcn,vcs ByteArray.empty,vci 0,vci 0,vci 0,vci 0,vci 0,vci 0,vci 0,vci 0,vci 0]),o0 (.store 46 18 (tm 8) (tm 15))] 1 none) []
  (.region 4 [mv 16 6,o1 17 (ln 46 18 8),mv 18 1,mv 19 2,o1 20 (cf 13 [17,18,19] [46,29,3]),o1 21 (.append 0 33 51 (.pr .str kV) 40 (tm 16) (tm 20)),o1 6 (sg 21)] 1 none))) []
 (.region 5 [o1 22 (bk .add 3 12 1),mv 12 22] 0 none))
def A7v2 : AC := (.seq (.region 2 [o1 13 (bt .lss 3 12 11)] 0 none) []
 (.seq (.cond (tm 13)
 .skip
 (.exit 0 (rl 0 6 (rl 7 17 [])))) []
 A7v1))
def A7v3 : AC := (.seq (.region 6 [mv 23 6,o1 6 (sg 23)] 0 none) []
 (.ret (rl 0 6 (rl 7 17 []))))
def A7 : AF := ⟨24,[.tmp 6],
 (.seq (.region 0 [o1 3 (bx 0 28 0),o1 6 (.assign (.const (.slice none 0 0)))] 1 none) []
 (.seq (.seq (.region 1 [o1 9 (fa 28 3 2 2),o1 10 (lo 23 9),o1 11 (.len 23 false (tm 10)),o1 12 (.move (ic 0))] 0 none) []
 (.block 0
 (.loop [.slot 6 (.pr .str kV)] (0 :: 3 :: 4 :: 5 :: 7 :: 8 :: 9 :: (rl 13 11 []))
  A7v2))) (rl 8 15 [])
 A7v3))⟩
def B122v1 (C : Oracle) (u : Nat) : St → (Ex → St → Option ρ) → Option ρ := fun st k => evalC C u A7v2 st k
def N122v1 : St → Option St := fun s => s.norm (0 :: 3 :: 4 :: 5 :: 7 :: 8 :: 9 :: (rl 13 11 [])) 2
def s122v0 (x0 : Nat) (x1 : FF) (x2 : Int) (x3 x4 : Nat) (x5 : FF) (x6 x7 : Int) (x8 : ByteArray) (x9 : Nat) (xA : FF) (xB : Nat) (xC : FF) (xD : Nat) (xE : FF) (xF : Nat) (xG xH : FF) : St := ⟨(.u :: .x (.c (ro kV x0 x1)) :: vxi x2 :: (us 3 (.x (.own 1 0 x3) :: (us 3 (.x (.c (ro kA x4 x5)) :: vxi x6 :: vxi x7 :: (us 11 [])))))),[.box [(vcs x8),(.c (ro kC x9 xA)),(.c (ro kA x4 x5)),(.c (ro kF xB xC)),(.c (ro kB xD xE)),(.c (ro kD xF xG))],.arr (.pr .str kV) x3 xH]⟩
def s122v1 (x0 : Nat) (x1 : ByteArray) (x2 : Nat) (x3 : FF) (x4 : Nat) (x5 : FF) (x6 : Nat) (x7 : FF) (x8 : Nat) (x9 : FF) (xA : Nat) (xB xC : FF) : St := ⟨(us 6 (.x (.own 1 0 x0) :: (us 17 []))),[.box [(vcs x1),(.c (ro kC x2 x3)),(.c (ro kA x4 x5)),(.c (ro kF x6 x7)),(.c (ro kB x8 x9)),(.c (ro kD xA xB))],.arr (.pr .str kV) x0 xC]⟩
def L122v1 {ρ : Type} (u : Nat) (x0 : Nat) (x1 : FF) (x2 : Int) (x3 : Nat) (x4 : FF) (x5 : Int) (x6 : ByteArray) (x7 : Nat) (x8 : FF) (x9 : Nat) (xA : FF) (xB : Nat) (xC : FF) (xD : Nat) (xE : FF) : Nat → Nat → Int → FF → (Nat → FF → Option ρ) → Option ρ
 | 0,_,_,_,_ => none
 | m + 1,xF,xG,xH,k0 =>
  (bif (decide (xG < x5)) then (bif (inb xG x3) then (ob (F121 100 (listF (pj kR0 (x4 xG.toNat))) x0 x1 x2) fun xI => (bif (Nat.ble (xF + xI.1) 1073741824) then (L122v1 u x0 x1 x2 x3 x4 x5 x6 x7 x8 x9 xA xB xC xD xE m (xF + xI.1) (w64 (xG + 1)) (joinF xF xH xI.2) k0) else none)) else none) else (k0 xF xH))
theorem nl122v1 {ρ σ : Type} (u : Nat) (x0 : Nat) (x1 : FF) (x2 : Int) (x3 : Nat) (x4 : FF) (x5 : Int) (x6 : ByteArray) (x7 : Nat) (x8 : FF) (x9 : Nat) (xA : FF) (xB : Nat) (xC : FF) (xD : Nat) (xE : FF) (g : ρ → Option σ) : ∀ (m : Nat) (xF : Nat) (xG : Int) (xH : FF) (k0 : Nat → FF → Option ρ),ob (L122v1 u x0 x1 x2 x3 x4 x5 x6 x7 x8 x9 xA xB xC xD xE m xF xG xH k0) g = L122v1 u x0 x1 x2 x3 x4 x5 x6 x7 x8 x9 xA xB xC xD xE m xF xG xH (fun xI xJ => ob (k0 xI xJ) g)
 | 0,_,_,_,_ => rfl
 | m + 1,xF,xG,xH,k0 => by
  simp only [L122v1,ob_bif,ob_ob,ob_none,nl122v1 u x0 x1 x2 x3 x4 x5 x6 x7 x8 x9 xA xB xC xD xE g m]
theorem r122v1 (m : Nat) (k : Ex → St → Option ρ) (x0 : Nat) (x1 : FF) (x2 : Int) (x3 : Nat) (x4 : FF) (x5 : Int) (x6 : ByteArray) (x7 : Nat) (x8 : FF) (x9 : Nat) (xA : FF) (xB : Nat) (xC : FF) (xD : Nat) (xE : FF) (xF : Nat) (xG : Int) (xH : FF) :
  loopH (B122v1 (C51 u) u) N122v1 (m + 1) (s122v0 x0 x1 x2 xF x3 x4 x5 xG x6 x7 x8 x9 xA xB xC xD xE xH) k =
  (bif (decide (xG < x5)) then (bif (inb xG x3) then (ob (F121 100 (listF (pj kR0 (x4 xG.toNat))) x0 x1 x2) fun xI => (bif (Nat.ble (xF + xI.1) 1073741824) then (loopH (B122v1 (C51 u) u) N122v1 m (s122v0 x0 x1 x2 (xF + xI.1) x3 x4 x5 (w64 (xG + 1)) x6 x7 x8 x9 xA xB xC xD xE (joinF xF xH xI.2)) k) else none)) else none) else (k (.exit 0) (s122v1 xF x6 x7 x8 x3 x4 x9 xA xB xC xD xE xH))) := by kernel_rfl
theorem q122v1 (u : Nat) (x0 : Nat) (x1 : FF) (x2 : Int) (x3 : Nat) (x4 : FF) (x5 : Int) (x6 : ByteArray) (x7 : Nat) (x8 : FF) (x9 : Nat) (xA : FF) (xB : Nat) (xC : FF) (xD : Nat) (xE : FF) {ρ : Type} (k : Ex → St → Option ρ) : ∀ (m : Nat) (xF : Nat) (xG : Int) (xH : FF),
  loopH (B122v1 (C51 u) u) N122v1 m (s122v0 x0 x1 x2 xF x3 x4 x5 xG x6 x7 x8 x9 xA xB xC xD xE xH) k = L122v1 u x0 x1 x2 x3 x4 x5 x6 x7 x8 x9 xA xB xC xD xE m xF xG xH (fun xI xJ => k (.exit 0) (s122v1 xI x6 x7 x8 x3 x4 x9 xA xB xC xD xE xJ))
 | 0,_,_,_ => rfl
 | m + 1,xF,xG,xH => by
  rw [r122v1]
  simp only [L122v1,q122v1 u x0 x1 x2 x3 x4 x5 x6 x7 x8 x9 xA xB xC xD xE k m]
def D122 (x0 : ByteArray) (x1 : Nat) (x2 : FF) (x3 : Nat) (x4 : FF) (x5 : Nat) (x6 : FF) (x7 : Nat) (x8 : FF) (x9 : Nat) (xA : FF) (xB : Nat) (xC : FF) (xD : Int) (k : (Nat × FF) → Option ρ) : Option ρ :=
 (L122v1 u xB xC xD x3 x4 (Int.ofNat x3) x0 x1 x2 x5 x6 x7 x8 x9 xA u 0 0 (fun _ _ => .any)
  (fun xE xF => (k (xE,xF))))
def F122 (x0 : ByteArray) (x1 : Nat) (x2 : FF) (x3 : Nat) (x4 : FF) (x5 : Nat) (x6 : FF) (x7 : Nat) (x8 : FF) (x9 : Nat) (xA : FF) (xB : Nat) (xC : FF) (xD : Int) : Option (Nat × FF) := D122 u x0 x1 x2 x3 x4 x5 x6 x7 x8 x9 xA xB xC xD some
theorem f122 (x0 : ByteArray) (x1 : Nat) (x2 : FF) (x3 : Nat) (x4 : FF) (x5 : Nat) (x6 : FF) (x7 : Nat) (x8 : FF) (x9 : Nat) (xA : FF) (xB : Nat) (xC : FF) (xD : Int) (k : (Nat × FF) → Option ρ) : D122 u x0 x1 x2 x3 x4 x5 x6 x7 x8 x9 xA xB xC xD k = ob (F122 u x0 x1 x2 x3 x4 x5 x6 x7 x8 x9 xA xB xC xD) k := by
 simp only [F122,D122,ob_bif,ob_ob,ob_none,ob_some,nl122v1]
def s122v2 (x0 : ByteArray) (x1 : Nat) (x2 : FF) (x3 : Nat) (x4 : FF) (x5 : Nat) (x6 : FF) (x7 : Nat) (x8 : FF) (x9 : Nat) (xA : FF) (xB : Nat) (xC : FF) (xD : Int) : St := ⟨[.agg [(vcs x0),(.c (ro kC x1 x2)),(.c (ro kA x3 x4)),(.c (ro kF x5 x6)),(.c (ro kB x7 x8)),(.c (ro kD x9 xA))],.x (.c (ro kV xB xC)),vxi xD,.x (.ptr 0 0),uu,uu,.x (.own 1 0 0),uu,uu,.x (.ptr 0 2),.x (.c (ro kA x3 x4)),vxi (Int.ofNat x3),vxi 0,uu,uu,uu,uu,uu,uu,uu,uu,uu,uu,uu],[.box [(vcs x0),(.c (ro kC x1 x2)),(.c (ro kA x3 x4)),(.c (ro kF x5 x6)),(.c (ro kB x7 x8)),(.c (ro kD x9 xA))],.arr (.pr .str kV) 0 nilF]⟩
theorem t122v1 (k : Ex → St → Option ρ) (x0 : ByteArray) (x1 : Nat) (x2 : FF) (x3 : Nat) (x4 : FF) (x5 : Nat) (x6 : FF) (x7 : Nat) (x8 : FF) (x9 : Nat) (xA : FF) (xB : Nat) (xC : FF) (xD : Int) :
  loopN (B122v1 (C51 u) u) N122v1 u (s122v2 x0 x1 x2 x3 x4 x5 x6 x7 x8 x9 xA xB xC xD) k =
  L122v1 u xB xC xD x3 x4 (Int.ofNat x3) x0 x1 x2 x5 x6 x7 x8 x9 xA u 0 0 nilF (fun xE xF => k (.exit 0) (s122v1 xE x0 x1 x2 x3 x4 x5 x6 x7 x8 x9 xA xF)) :=
 (loopN_at (st' := (s122v0 xB xC xD 0 x3 x4 (Int.ofNat x3) 0 x0 x1 x2 x5 x6 x7 x8 x9 xA nilF)) (by kernel_rfl)).trans (q122v1 u xB xC xD x3 x4 (Int.ofNat x3) x0 x1 x2 x5 x6 x7 x8 x9 xA k u 0 0 nilF)
theorem g122v2 (x0 : Nat) (x1 : ByteArray) (x2 : Nat) (x3 : FF) (x4 : Nat) (x5 : FF) (x6 : Nat) (x7 : FF) (x8 : Nat) (x9 : FF) (xA : Nat) (xB xC : FF) :
  (kBlk 0 (kSeq (C51 u) u (rl 8 15 []) A7v3 (finish A7))) (.exit 0) (s122v1 x0 x1 x2 x3 x4 x5 x6 x7 x8 x9 xA xB xC) =
  (some [.v (ro (.pr .str kV) x0 xC)]) := by kernel_rfl
theorem e122 (x0 : ByteArray) (x1 : Nat) (x2 : FF) (x3 : Nat) (x4 : FF) (x5 : Nat) (x6 : FF) (x7 : Nat) (x8 : FF) (x9 : Nat) (xA : FF) (xB : Nat) (xC : FF) (xD : Int) : evalF (C51 u) u A7 [.agg [(.s x0),(ro kC x1 x2),(ro kA x3 x4),(ro kF x5 x6),(ro kB x7 x8),(ro kD x9 xA)],.v (ro kV xB xC),.v (vi xD)] = ob (F122 u x0 x1 x2 x3 x4 x5 x6 x7 x8 x9 xA xB xC xD) fun t => some [.v (ro (.pr .str kV) t.1 t.2)] := Eq.trans (b := (loopN (B122v1 (C51 u) u) N122v1 u (s122v2 x0 x1 x2 x3 x4 x5 x6 x7 x8 x9 xA xB xC xD) (kBlk 0 (kSeq (C51 u) u (rl 8 15 []) A7v3 (finish A7))))) (by kernel_rfl) (by
 rw [← f122]
 simp only [D122,t122v1,g122v2])
def O122 : Ora where
 o := fun args {ρ} K =>
  wc args fun a1 l2 =>
  wagg a1 fun l3 =>
  wdS l3 fun y7 l5 =>
  wdL kC l5 fun y11 y12 l9 =>
  wdL kA l9 fun y16 y17 l14 =>
  wdL kF l14 fun y21 y22 l19 =>
  wdL kB l19 fun y26 y27 l24 =>
  wdL kD l24 fun y31 y32 l29 =>
  wn l29 <|
  wcL kV l2 fun y36 y37 l34 =>
  wcI .i64 l34 fun y41 l39 =>
  wn l39 <|
  (ob (F122 u y7 y11 y12 y16 y17 y21 y22 y26 y27 y31 y32 y36 y37 y41) fun t => K [.v (ro (.pr .str kV) t.1 t.2)])
 nat := fun args {ρ} K => by
  simp only [bind_wagg,bind_wc,bind_wcI,bind_wcL,bind_wdL,bind_wdS,bind_wn,bind_ob,Option.bind_some]
theorem d122 : DO (O122 u) (C51 u) 7 A7 := by
 intro P hmix hC hF args res h
 obtain ⟨a1,l2,rfl,z0⟩ := inv_wc h
 obtain ⟨l3,rfl,z1⟩ := inv_wagg z0
 obtain ⟨a4,y7,l5,rfl,h6,z2⟩ := inv_wdS z1
 obtain ⟨a8,y11,y12,l9,rfl,h10,z3⟩ := inv_wdL z2
 obtain ⟨a13,y16,y17,l14,rfl,h15,z4⟩ := inv_wdL z3
 obtain ⟨a18,y21,y22,l19,rfl,h20,z5⟩ := inv_wdL z4
 obtain ⟨a23,y26,y27,l24,rfl,h25,z6⟩ := inv_wdL z5
 obtain ⟨a28,y31,y32,l29,rfl,h30,z7⟩ := inv_wdL z6
 obtain ⟨hn,z8⟩ := inv_wn z7
 cases hn
 obtain ⟨a33,y36,y37,l34,rfl,h35,z9⟩ := inv_wcL z8
 obtain ⟨a38,y41,l39,rfl,h40,z10⟩ := inv_wcI z9
 obtain ⟨hn,z11⟩ := inv_wn z10
 cases hn
 exact Den.weaken (.cons (WkA.agg (.cons h6 (.cons h10 (.cons h15 (.cons h20 (.cons h25 (.cons h30 .nil))))))) (.cons h35 (.cons h40 .nil))) (evalF_sound hmix hC hF ((e122 u y7 y11 y12 y16 y17 y21 y22 y26 y27 y31 y32 y36 y37 y41).trans z11))
def C52 : Oracle := (C51 u).add 7 (fun _ => true) (O122 100)
def A51 : AF := ⟨22,[.cell 2 83 (some 8)],
 (.seq (.region 0 [o1 1 (bx 0 62 0),o1 2 (.alloc 1 83 [vci 0,vci 0,vci 0,vci 0,vci 0,vci 0,vci 0,vci 0])] 2 none) []
 (.seq (.region 1 [o1 3 (fa 62 1 0 0),o1 4 (ln 49 2 3),o1 5 (fa 62 1 1 2),o1 6 (fa 49 5 0 0),o1 7 (lo 3 6),o1 8 (fa 62 1 0 0),o1 9 (fa 49 8 1 1),o1 10 (lo 3 9),o1 11 (.build 49 [vci 0,vci 0] [(0,1),(1,1)] 0 [(0,(tm 7)),(1,(tm 10))]),o1 12 (fa 62 1 1 2),o1 13 (ln 49 2 12),o1 14 (fa 62 1 0 0),o1 15 (fa 49 14 0 0),o1 16 (lo 3 15),o1 17 (fa 62 1 1 2),o1 18 (fa 49 17 1 1),o1 19 (lo 3 18),o1 20 (.build 49 [vci 0,vci 0] [(0,1),(1,1)] 0 [(0,(tm 16)),(1,(tm 19))]),o1 21 (.build 83 [vci 0,vci 0,vci 0,vci 0,vci 0,vci 0,vci 0,vci 0] [] 2 [(0,(tm 4)),(1,(tm 11)),(2,(tm 13)),(3,(tm 20))]),o0 (.store 83 8 (tm 2) (tm 21))] 0 none) []
 (.ret (0 :: 1 :: (rl 3 19 [])))))⟩
def D123 (u : Nat) (x0 x1 x2 x3 : Int) (k : (Int × Int × Int × Int × Int × Int × Int × Int) → Option ρ) : Option ρ :=
 (k (x0,x1,x2,x1,x2,x3,x0,x3))
def F123 (x0 x1 x2 x3 : Int) : Option (Int × Int × Int × Int × Int × Int × Int × Int) := D123 u x0 x1 x2 x3 some
theorem f123 (x0 x1 x2 x3 : Int) (k : (Int × Int × Int × Int × Int × Int × Int × Int) → Option ρ) : D123 u x0 x1 x2 x3 k = ob (F123 u x0 x1 x2 x3) k := by
 simp only [F123,D123,ob_bif,ob_ob,ob_none,ob_some]
theorem e123 (x0 x1 x2 x3 : Int) : evalF (C52 u) u A51 [.agg [(vi x0),(vi x1),(vi x2),(vi x3)]] = ob (F123 u x0 x1 x2 x3) fun t => some [.agg [(vi t.1),(vi t.2.1),(vi t.2.2.1),(vi t.2.2.2.1),(vi t.2.2.2.2.1),(vi t.2.2.2.2.2.1),(vi t.2.2.2.2.2.2.1),(vi t.2.2.2.2.2.2.2)]] := Eq.trans (b := (some [.agg [(vi x0),(vi x1),(vi x2),(vi x1),(vi x2),(vi x3),(vi x0),(vi x3)]])) (by kernel_rfl) (by
 rw [← f123]
 simp only [D123])
def O123 : Ora where
 o := fun args {ρ} K =>
  wc args fun a1 l2 =>
  wagg a1 fun l3 =>
  wdI .i64 l3 fun y7 l5 =>
  wdI .i64 l5 fun y11 l9 =>
  wdI .i64 l9 fun y15 l13 =>
  wdI .i64 l13 fun y19 l17 =>
  wn l17 <|
  wn l2 <|
  (ob (F123 u y7 y11 y15 y19) fun t => K [.agg [(vi t.1),(vi t.2.1),(vi t.2.2.1),(vi t.2.2.2.1),(vi t.2.2.2.2.1),(vi t.2.2.2.2.2.1),(vi t.2.2.2.2.2.2.1),(vi t.2.2.2.2.2.2.2)]])
 nat := fun args {ρ} K => by
  simp only [bind_wagg,bind_wc,bind_wdI,bind_wn,bind_ob,Option.bind_some]
theorem d123 : DO (O123 u) (C52 u) 51 A51 := by
 intro P hmix hC hF args res h
 obtain ⟨a1,l2,rfl,z0⟩ := inv_wc h
 obtain ⟨l3,rfl,z1⟩ := inv_wagg z0
 obtain ⟨a4,y7,l5,rfl,h6,z2⟩ := inv_wdI z1
 obtain ⟨a8,y11,l9,rfl,h10,z3⟩ := inv_wdI z2
 obtain ⟨a12,y15,l13,rfl,h14,z4⟩ := inv_wdI z3
 obtain ⟨a16,y19,l17,rfl,h18,z5⟩ := inv_wdI z4
 obtain ⟨hn,z6⟩ := inv_wn z5
 cases hn
 obtain ⟨hn,z7⟩ := inv_wn z6
 cases hn
 exact Den.weaken (.cons (WkA.agg (.cons h6 (.cons h10 (.cons h14 (.cons h18 .nil))))) .nil) (evalF_sound hmix hC hF ((e123 u y7 y11 y15 y19).trans z7))
def C53 : Oracle := (C52 u).add 51 (fun _ => true) (O123 100)
def A52v1 : AC := (.seq (.block 1
 (.seq (.region 6 [o1 58 (.index 83 49 4 2 (some 2) (tm 55) (tm 56)),o1 10 (.alloc 0 49 [vci 0,vci 0]),o0 (.store 49 2 (tm 10) (tm 58))] 1 none) []
  (.seq (.region 7 [o1 59 (fa 49 5 0 0),o1 60 (lo 3 59),o1 61 (fa 49 4 0 0),o1 62 (lo 3 61),o1 63 (bt .sub 3 60 62),o1 64 (fa 49 10 1 1),o1 65 (lo 3 64),o1 66 (fa 49 4 1 1),o1 67 (lo 3 66),o1 68 (bt .sub 3 65 67),o1 69 (bt .mul 3 63 68),o1 70 (fa 49 5 1 1),o1 71 (lo 3 70),o1 72 (fa 49 4 1 1),o1 73 (lo 3 72),o1 74 (bt .sub 3 71 73),o1 75 (fa 49 10 0 0),o1 76 (lo 3 75),o1 77 (fa 49 4 0 0),o1 78 (lo 3 77),o1 79 (bt .sub 3 76 78),o1 80 (bt .mul 3 74 79),o1 81 (bt .sub 3 69 80),o1 11 (sg 81)] 0 none) []
  (.region 8 [mv 82 7,mv 83 82,og 84 (.move (tm 11)) 83 false,og 85 (bk .gtr 3 84 0) 83 false,o1 86 (pa 83 85),mv 87 8,mv 88 87,og 89 (.move (tm 11)) 88 false,og 90 (bk .lss 3 89 0) 88 false,o1 91 (pa 88 90),o1 7 (sg 86),o1 8 (sg 91)] 0 none)))) []
 (.region 9 [o1 92 (bk .add 3 56 1),mv 56 92] 0 none))
def A52v2 : AC := (.seq (.region 5 [o1 57 (bk .lss 3 56 4)] 0 none) []
 (.seq (.cond (tm 57)
 .skip
 (.exit 0 (rl 0 7 (rl 9 88 [])))) []
 A52v1))
def A52v3 : AC := (.seq (.region 10 [mv 93 7,mv 94 93,og 95 (.move (tm 8)) 94 true,o1 96 (po 94 95),o1 6 (sg 96)] 0 none) []
 (.ret (rl 0 6 (rl 7 90 []))))
def A52v4 : AC := (.seq (.region 3 [o1 7 (sb false),o1 8 (sb false)] 0 none) []
 (.seq (.seq (.region 4 [o1 54 (ln 62 4 3),o1 55 (cs 51 [54] [62]),o1 56 (.move (ic 0))] 0 none) []
 (.block 0
 (.loop [] (rl 0 4 (6 :: (rl 9 46 (rl 57 40 []))))
  A52v2))) (10 :: 11 :: (rl 54 39 []))
 A52v3))
def A52 : AF := ⟨97,[.tmp 6],
 (.seq (.region 0 [o1 3 (bx 0 62 0),o1 4 (bx 1 49 1),o1 5 (bx 2 49 2),o1 6 (sb false)] 3 none) []
 (.seq (.seq (.region 1 [o1 12 (fa 49 4 0 0),o1 13 (lo 3 12),o1 14 (fa 49 5 0 0),o1 15 (lo 3 14),o1 16 (.mm true [(tm 13),(tm 15)] [3,3]),o1 17 (fa 62 3 0 0),o1 18 (fa 49 17 0 0),o1 19 (lo 3 18),o1 20 (bt .leq 3 16 19),mv 21 20,og 22 (fa 49 4 0 0) 21 false,og 23 (lo 3 22) 21 false,og 24 (fa 49 5 0 0) 21 false,og 25 (lo 3 24) 21 false,og 26 (.mm false [(tm 23),(tm 25)] [3,3]) 21 false,og 27 (fa 62 3 1 2) 21 false,og 28 (fa 49 27 0 0) 21 false,og 29 (lo 3 28) 21 false,og 30 (bt .geq 3 26 29) 21 false,o1 31 (pa 21 30),mv 32 31,og 33 (fa 49 4 1 1) 32 false,og 34 (lo 3 33) 32 false,og 35 (fa 49 5 1 1) 32 false,og 36 (lo 3 35) 32 false,og 37 (.mm true [(tm 34),(tm 36)] [3,3]) 32 false,og 38 (fa 62 3 0 0) 32 false,og 39 (fa 49 38 1 1) 32 false,og 40 (lo 3 39) 32 false,og 41 (bt .leq 3 37 40) 32 false,o1 42 (pa 32 41),mv 43 42,og 44 (fa 49 4 1 1) 43 false,og 45 (lo 3 44) 43 false,og 46 (fa 49 5 1 1) 43 false,og 47 (lo 3 46) 43 false,og 48 (.mm false [(tm 45),(tm 47)] [3,3]) 43 false,og 49 (fa 62 3 1 2) 43 false,og 50 (fa 49 49 1 1) 43 false,og 51 (lo 3 50) 43 false,og 52 (bt .geq 3 48 51) 43 false,o1 53 (pa 43 52)] 0 none) []
 (.cond (tm 53)
 (.seq (.region 2 [o1 6 (sb false)] 0 none) []
  (.ret (rl 0 6 (rl 7 90 []))))
 .skip)) (6 :: (rl 12 42 []))
 A52v4))⟩
def B124v1 (C : Oracle) (u : Nat) : St → (Ex → St → Option ρ) → Option ρ := fun st k => evalC C u A52v2 st k
def N124v1 : St → Option St := fun s => s.norm (rl 0 4 (6 :: (rl 9 46 (rl 57 40 [])))) 3
def s124v0 (x0 x1 : Bool) (x2 x3 x4 x5 x6 x7 x8 x9 xA xB xC xD xE xF xG xH xI : Int) : St := ⟨(us 4 (.x (.ptr 1 0) :: .x (.ptr 2 0) :: .u :: vxb x0 :: vxb x1 :: (us 46 (.agg [(vci x2),(vci x3),(vci x4),(vci x5),(vci x6),(vci x7),(vci x8),(vci x9)] :: vxi xA :: (us 40 []))))),[.box [(vci xB),(vci xC),(vci xD),(vci xE)],.box [(vci xF),(vci xG)],.box [(vci xH),(vci xI)]]⟩
def s124v1 (x0 x1 : Bool) (x2 x3 x4 x5 x6 x7 x8 x9 : Int) : St := ⟨(us 7 (vxb x0 :: vxb x1 :: (us 88 []))),[.box [(vci x2),(vci x3),(vci x4),(vci x5)],.box [(vci x6),(vci x7)],.box [(vci x8),(vci x9)]]⟩
def L124v1 {ρ : Type} (u : Nat) (x0 x1 x2 x3 x4 x5 x6 x7 x8 x9 xA xB xC xD xE xF : Int) : Nat → Bool → Bool → Int → (Bool → Bool → Option ρ) → Option ρ
 | 0,_,_,_,_ => none
 | m + 1,xG,xH,xI,k0 =>
  (bif (decide (xI < 4)) then (bif (xI == 0) then (bif (xG == false) then (bif (xH == false) then (L124v1 u x0 x1 x2 x3 x4 x5 x6 x7 x8 x9 xA xB xC xD xE xF m (decide ((w64 ((w64 ((w64 (xE - xC)) * (w64 (x1 - xD)))) - (w64 ((w64 (xF - xD)) * (w64 (x0 - xC)))))) > 0)) (decide ((w64 ((w64 ((w64 (xE - xC)) * (w64 (x1 - xD)))) - (w64 ((w64 (xF - xD)) * (w64 (x0 - xC)))))) < 0)) (w64 (xI + 1)) k0) else (L124v1 u x0 x1 x2 x3 x4 x5 x6 x7 x8 x9 xA xB xC xD xE xF m (decide ((w64 ((w64 ((w64 (xE - xC)) * (w64 (x1 - xD)))) - (w64 ((w64 (xF - xD)) * (w64 (x0 - xC)))))) > 0)) true (w64 (xI + 1)) k0)) else (bif (xH == false) then (L124v1 u x0 x1 x2 x3 x4 x5 x6 x7 x8 x9 xA xB xC xD xE xF m true (decide ((w64 ((w64 ((w64 (xE - xC)) * (w64 (x1 - xD)))) - (w64 ((w64 (xF - xD)) * (w64 (x0 - xC)))))) < 0)) (w64 (xI + 1)) k0) else (L124v1 u x0 x1 x2 x3 x4 x5 x6 x7 x8 x9 xA xB xC xD xE xF m true true (w64 (xI + 1)) k0))) else (bif (xI == 1) then (bif (xG == false) then (bif (xH == false) then (L124v1 u x0 x1 x2 x3 x4 x5 x6 x7 x8 x9 xA xB xC xD xE xF m (decide ((w64 ((w64 ((w64 (xE - xC)) * (w64 (x3 - xD)))) - (w64 ((w64 (xF - xD)) * (w64 (x2 - xC)))))) > 0)) (decide ((w64 ((w64 ((w64 (xE - xC)) * (w64 (x3 - xD)))) - (w64 ((w64 (xF - xD)) * (w64 (x2 - xC)))))) < 0)) (w64 (xI + 1)) k0) else (L124v1 u x0 x1 x2 x3 x4 x5 x6 x7 x8 x9 xA xB xC xD xE xF m (decide ((w64 ((w64 ((w64 (xE - xC)) * (w64 (x3 - xD)))) - (w64 ((w64 (xF - xD)) * (w64 (x2 - xC)))))) > 0)) true (w64 (xI + 1)) k0)) else (bif (xH == false) then (L124v1 u x0 x1 x2 x3 x4 x5 x6 x7 x8 x9 xA xB xC xD xE xF m true (decide ((w64 ((w64 ((w64 (xE - xC)) * (w64 (x3 - xD)))) - (w64 ((w64 (xF - xD)) * (w64 (x2 - xC)))))) < 0)) (w64 (xI + 1)) k0) else (L124v1 u x0 x1 x2 x3 x4 x5 x6 x7 x8 x9 xA xB xC xD xE xF m true true (w64 (xI + 1)) k0))) else (bif (xI == 2) then (bif (xG == false) then (bif (xH == false) then (L124v1 u x0 x1 x2 x3 x4 x5 x6 x7 x8 x9 xA xB xC xD xE xF m (decide ((w64 ((w64 ((w64 (xE - xC)) * (w64 (x5 - xD)))) - (w64 ((w64 (xF - xD)) * (w64 (x4 - xC)))))) > 0)) (decide ((w64 ((w64 ((w64 (xE - xC)) * (w64 (x5 - xD)))) - (w64 ((w64 (xF - xD)) * (w64 (x4 - xC)))))) < 0)) (w64 (xI + 1)) k0) else (L124v1 u x0 x1 x2 x3 x4 x5 x6 x7 x8 x9 xA xB xC xD xE xF m (decide ((w64 ((w64 ((w64 (xE - xC)) * (w64 (x5 - xD)))) - (w64 ((w64 (xF - xD)) * (w64 (x4 - xC)))))) > 0)) true (w64 (xI + 1)) k0)) else (bif (xH == false) then (L124v1 u x0 x1 x2 x3 x4 x5 x6 x7 x8 x9 xA xB xC xD xE xF m true (decide ((w64 ((w64 ((w64 (xE - xC)) * (w64 (x5 - xD)))) - (w64 ((w64 (xF - xD)) * (w64 (x4 - xC)))))) < 0)) (w64 (xI + 1)) k0) else (L124v1 u x0 x1 x2 x3 x4 x5 x6 x7 x8 x9 xA xB xC xD xE xF m true true (w64 (xI + 1)) k0))) else (bif (xI == 3) then (bif (xG == false) then (bif (xH == false) then (L124v1 u x0 x1 x2 x3 x4 x5 x6 x7 x8 x9 xA xB xC xD xE xF m (decide ((w64 ((w64 ((w64 (xE - xC)) * (w64 (x7 - xD)))) - (w64 ((w64 (xF - xD)) * (w64 (x6 - xC)))))) > 0)) (decide ((w64 ((w64 ((w64 (xE - xC)) * (w64 (x7 - xD)))) - (w64 ((w64 (xF - xD)) * (w64 (x6 - xC)))))) < 0)) (w64 (xI + 1)) k0) else (L124v1 u x0 x1 x2 x3 x4 x5 x6 x7 x8 x9 xA xB xC xD xE xF m (decide ((w64 ((w64 ((w64 (xE - xC)) * (w64 (x7 - xD)))) - (w64 ((w64 (xF - xD)) * (w64 (x6 - xC)))))) > 0)) true (w64 (xI + 1)) k0)) else (bif (xH == false) then (L124v1 u x0 x1 x2 x3 x4 x5 x6 x7 x8 x9 xA xB xC xD xE xF m true (decide ((w64 ((w64 ((w64 (xE - xC)) * (w64 (x7 - xD)))) - (w64 ((w64 (xF - xD)) * (w64 (x6 - xC)))))) < 0)) (w64 (xI + 1)) k0) else (L124v1 u x0 x1 x2 x3 x4 x5 x6 x7 x8 x9 xA xB xC xD xE xF m true true (w64 (xI + 1)) k0))) else none)))) else (k0 xG xH))
theorem nl124v1 {ρ σ : Type} (u : Nat) (x0 x1 x2 x3 x4 x5 x6 x7 x8 x9 xA xB xC xD xE xF : Int) (g : ρ → Option σ) : ∀ (m : Nat) (xG xH : Bool) (xI : Int) (k0 : Bool → Bool → Option ρ),ob (L124v1 u x0 x1 x2 x3 x4 x5 x6 x7 x8 x9 xA xB xC xD xE xF m xG xH xI k0) g = L124v1 u x0 x1 x2 x3 x4 x5 x6 x7 x8 x9 xA xB xC xD xE xF m xG xH xI (fun xJ xK => ob (k0 xJ xK) g)
 | 0,_,_,_,_ => rfl
 | m + 1,xG,xH,xI,k0 => by
  simp only [L124v1,ob_bif,ob_ob,ob_none,nl124v1 u x0 x1 x2 x3 x4 x5 x6 x7 x8 x9 xA xB xC xD xE xF g m]
theorem r124v1 (m : Nat) (k : Ex → St → Option ρ) (x0 x1 x2 x3 x4 x5 x6 x7 x8 x9 xA xB xC xD xE xF : Int) (xG xH : Bool) (xI : Int) :
  loopH (B124v1 (C53 u) u) N124v1 (m + 1) (s124v0 xG xH x0 x1 x2 x3 x4 x5 x6 x7 xI x8 x9 xA xB xC xD xE xF) k =
  (bif (decide (xI < 4)) then (bif (xI == 0) then (bif (xG == false) then (bif (xH == false) then (loopH (B124v1 (C53 u) u) N124v1 m (s124v0 (decide ((w64 ((w64 ((w64 (xE - xC)) * (w64 (x1 - xD)))) - (w64 ((w64 (xF - xD)) * (w64 (x0 - xC)))))) > 0)) (decide ((w64 ((w64 ((w64 (xE - xC)) * (w64 (x1 - xD)))) - (w64 ((w64 (xF - xD)) * (w64 (x0 - xC)))))) < 0)) x0 x1 x2 x3 x4 x5 x6 x7 (w64 (xI + 1)) x8 x9 xA xB xC xD xE xF) k) else (loopH (B124v1 (C53 u) u) N124v1 m (s124v0 (decide ((w64 ((w64 ((w64 (xE - xC)) * (w64 (x1 - xD)))) - (w64 ((w64 (xF - xD)) * (w64 (x0 - xC)))))) > 0)) true x0 x1 x2 x3 x4 x5 x6 x7 (w64 (xI + 1)) x8 x9 xA xB xC xD xE xF) k)) else (bif (xH == false) then (loopH (B124v1 (C53 u) u) N124v1 m (s124v0 true (decide ((w64 ((w64 ((w64 (xE - xC)) * (w64 (x1 - xD)))) - (w64 ((w64 (xF - xD)) * (w64 (x0 - xC)))))) < 0)) x0 x1 x2 x3 x4 x5 x6 x7 (w64 (xI + 1)) x8 x9 xA xB xC xD xE xF) k) else (loopH (B124v1 (C53 u) u) N124v1 m (s124v0 true true x0 x1 x2 x3 x4 x5 x6 x7 (w64 (xI + 1)) x8 x9 xA xB xC xD xE xF) k))) else (bif (xI == 1) then (bif (xG == false) then (bif (xH == false) then (loopH (B124v1 (C53 u) u) N124v1 m (s124v0 (decide ((w64 ((w64 ((w64 (xE - xC)) * (w64 (x3 - xD)))) - (w64 ((w64 (xF - xD)) * (w64 (x2 - xC)))))) > 0)) (decide ((w64 ((w64 ((w64 (xE - xC)) * (w64 (x3 - xD)))) - (w64 ((w64 (xF - xD)) * (w64 (x2 - xC)))))) < 0)) x0 x1 x2 x3 x4 x5 x6 x7 (w64 (xI + 1)) x8 x9 xA xB xC xD xE xF) k) else (loopH (B124v1 (C53 u) u) N124v1 m (s124v0 (decide ((w64 ((w64 ((w64 (xE - xC)) * (w64 (x3 - xD)))) - (w64 ((w64 (xF - xD)) * (w64 (x2 - xC)))))) > 0)) true x0 x1 x2 x3 x4 x5 x6 x7 (w64 (xI + 1)) x8 x9 xA xB xC xD xE xF) k)) else (bif (xH == false) then (loopH (B124v1 (C53 u) u) N124v1 m (s124v0 true (decide ((w64 ((w64 ((w64 (xE - xC)) * (w64 (x3 - xD)))) - (w64 ((w64 (xF - xD)) * (w64 (x2 - xC)))))) < 0)) x0 x1 x2 x3 x4 x5 x6 x7 (w64 (xI + 1)) x8 x9 xA xB xC xD xE xF) k) else (loopH (B124v1 (C53 u) u) N124v1 m (s124v0 true true x0 x1 x2 x3 x4 x5 x6 x7 (w64 (xI + 1)) x8 x9 xA xB xC xD xE xF) k))) else (bif (xI == 2) then (bif (xG == false) then (bif (xH == false) then (loopH (B124v1 (C53 u) u) N124v1 m (s124v0 (decide ((w64 ((w64 ((w64 (xE - xC)) * (w64 (x5 - xD)))) - (w64 ((w64 (xF - xD)) * (w64 (x4 - xC)))))) > 0)) (decide ((w64 ((w64 ((w64 (xE - xC)) * (w64 (x5 - xD)))) - (w64 ((w64 (xF - xD)) * (w64 (x4 - xC)))))) < 0)) x0 x1 x2 x3 x4 x5 x6 x7 (w64 (xI + 1)) x8 x9 xA xB xC xD xE xF) k) else (loopH (B124v1 (C53 u) u) N124v1 m (s124v0 (decide ((w64 ((w64 ((w64 (xE - xC)) * (w64 (x5 - xD)))) - (w64 ((w64 (xF - xD)) * (w64 (x4 - xC)))))) > 0)) true x0 x1 x2 x3 x4 x5 x6 x7 (w64 (xI + 1)) x8 x9 xA xB xC xD xE xF) k)) else (bif (xH == false) then (loopH (B124v1 (C53 u) u) N124v1 m (s124v0 true (decide ((w64 ((w64 ((w64 (xE - xC)) * (w64 (x5 - xD)))) - (w64 ((w64 (xF - xD)) * (w64 (x4 - xC)))))) < 0)) x0 x1 x2 x3 x4 x5 x6 x7 (w64 (xI + 1)) x8 x9 xA xB xC xD xE xF) k) else (loopH (B124v1 (C53 u) u) N124v1 m (s124v0 true true x0 x1 x2 x3 x4 x5 x6 x7 (w64 (xI + 1)) x8 x9 xA xB xC xD xE xF) k))) else (bif (xI == 3) then (bif (xG == false) then (bif (xH == false) then (loopH (B124v1 (C53 u) u) N124v1 m (s124v0 (decide ((w64 ((w64 ((w64 (xE - xC)) * (w64 (x7 - xD)))) - (w64 ((w64 (xF - xD)) * (w64 (x6 - xC)))))) > 0)) (decide ((w64 ((w64 ((w64 (xE - xC)) * (w64 (x7 - xD)))) - (w64 ((w64 (xF - xD)) * (w64 (x6 - xC)))))) < 0)) x0 x1 x2 x3 x4 x5 x6 x7 (w64 (xI + 1)) x8 x9 xA xB xC xD xE xF) k) else (loopH (B124v1 (C53 u) u) N124v1 m (s124v0 (decide ((w64 ((w64 ((w64 (xE - xC)) * (w64 (x7 - xD)))) - (w64 ((w64 (xF - xD)) * (w64 (x6 - xC)))))) > 0)) true x0 x1 x2 x3 x4 x5 x6 x7 (w64 (xI + 1)) x8 x9 xA xB xC xD xE xF) k)) else (bif (xH == false) then (loopH (B124v1 (C53 u) u) N124v1 m (s124v0 true (decide ((w64 ((w64 ((w64 (xE - xC)) * (w64 (x7 - xD)))) - (w64 ((w64 (xF - xD)) * (w64 (x6 - xC)))))) < 0)) x0 x1 x2 x3 x4 x5 x6 x7 (w64 (xI + 1)) x8 x9 xA xB xC xD xE xF) k) else (loopH (B124v1 (C53 u) u) N124v1 m (s124v0 true true x0 x1 x2 x3 x4 x5 x6 x7 (w64 (xI + 1)) x8 x9 xA xB xC xD xE xF) k))) else none)))) else (k (.exit 0) (s124v1 xG xH x8 x9 xA xB xC xD xE xF))) := by kernel_rfl
theorem q124v1 (u : Nat) (x0 x1 x2 x3 x4 x5 x6 x7 x8 x9 xA xB xC xD xE xF : Int) {ρ : Type} (k : Ex → St → Option ρ) : ∀ (m : Nat) (xG xH : Bool) (xI : Int),
  loopH (B124v1 (C53 u) u) N124v1 m (s124v0 xG xH x0 x1 x2 x3 x4 x5 x6 x7 xI x8 x9 xA xB xC xD xE xF) k = L124v1 u x0 x1 x2 x3 x4 x5 x6 x7 x8 x9 xA xB xC xD xE xF m xG xH xI (fun xJ xK => k (.exit 0) (s124v1 xJ xK x8 x9 xA xB xC xD xE xF))
 | 0,_,_,_ => rfl
 | m + 1,xG,xH,xI => by
  rw [r124v1]
  simp only [L124v1,q124v1 u x0 x1 x2 x3 x4 x5 x6 x7 x8 x9 xA xB xC xD xE xF k m]
def D124 (x0 x1 x2 x3 x4 x5 x6 x7 : Int) (k : Bool → Option ρ) : Option ρ :=
 (bif ((decide ((if x6 > x4 then x6 else x4) ≤ x0)) == false) then (bif ((decide ((if x6 < x4 then x6 else x4) ≥ x2)) == false) then (bif ((decide ((if x7 > x5 then x7 else x5) ≤ x1)) == false) then (bif (decide ((if x7 < x5 then x7 else x5) ≥ x3)) then (k false) else (ob (F123 100 x0 x1 x2 x3) fun x8 => (L124v1 u x8.1 x8.2.1 x8.2.2.1 x8.2.2.2.1 x8.2.2.2.2.1 x8.2.2.2.2.2.1 x8.2.2.2.2.2.2.1 x8.2.2.2.2.2.2.2 x0 x1 x2 x3 x4 x5 x6 x7 u false false 0
  (fun x9 xA => (bif (x9 == true) then (k xA) else (k false)))))) else (k false)) else (k false)) else (k false))
def F124 (x0 x1 x2 x3 x4 x5 x6 x7 : Int) : Option (Bool) := D124 u x0 x1 x2 x3 x4 x5 x6 x7 some
theorem f124 (x0 x1 x2 x3 x4 x5 x6 x7 : Int) (k : (Bool) → Option ρ) : D124 u x0 x1 x2 x3 x4 x5 x6 x7 k = ob (F124 u x0 x1 x2 x3 x4 x5 x6 x7) k := by
 simp only [F124,D124,ob_bif,ob_ob,ob_none,ob_some,nl124v1]
def s124v2 (x0 x1 x2 x3 x4 x5 x6 x7 : Int) (x8 : Int × Int × Int × Int × Int × Int × Int × Int) : St := ⟨(.agg [(vci x0),(vci x1),(vci x2),(vci x3)] :: .agg [(vci x4),(vci x5)] :: .agg [(vci x6),(vci x7)] :: .x (.ptr 0 0) :: .x (.ptr 1 0) :: .x (.ptr 2 0) :: .u :: vxb false :: vxb false :: uu :: uu :: uu :: (us 42 [.agg [(vci x0),(vci x1),(vci x2),(vci x3)],.agg [(vci x8.1),(vci x8.2.1),(vci x8.2.2.1),(vci x8.2.2.2.1),(vci x8.2.2.2.2.1),(vci x8.2.2.2.2.2.1),(vci x8.2.2.2.2.2.2.1),(vci x8.2.2.2.2.2.2.2)],vxi 0,uu,uu,uu,uu,uu,uu,uu,uu,uu,uu,uu,uu,uu,uu,uu,uu,uu,uu,uu,uu,uu,uu,uu,uu,uu,uu,uu,uu,uu,uu,uu,uu,uu,uu,uu,uu,uu,uu,uu,uu])),[.box [(vci x0),(vci x1),(vci x2),(vci x3)],.box [(vci x4),(vci x5)],.box [(vci x6),(vci x7)]]⟩
theorem t124v1 (k : Ex → St → Option ρ) (x0 x1 x2 x3 x4 x5 x6 x7 : Int) (x8 : Int × Int × Int × Int × Int × Int × Int × Int) :
  loopN (B124v1 (C53 u) u) N124v1 u (s124v2 x0 x1 x2 x3 x4 x5 x6 x7 x8) k =
  L124v1 u x8.1 x8.2.1 x8.2.2.1 x8.2.2.2.1 x8.2.2.2.2.1 x8.2.2.2.2.2.1 x8.2.2.2.2.2.2.1 x8.2.2.2.2.2.2.2 x0 x1 x2 x3 x4 x5 x6 x7 u false false 0 (fun x9 xA => k (.exit 0) (s124v1 x9 xA x0 x1 x2 x3 x4 x5 x6 x7)) :=
 (loopN_at (st' := (s124v0 false false x8.1 x8.2.1 x8.2.2.1 x8.2.2.2.1 x8.2.2.2.2.1 x8.2.2.2.2.2.1 x8.2.2.2.2.2.2.1 x8.2.2.2.2.2.2.2 0 x0 x1 x2 x3 x4 x5 x6 x7)) (by kernel_rfl)).trans (q124v1 u x8.1 x8.2.1 x8.2.2.1 x8.2.2.2.1 x8.2.2.2.2.1 x8.2.2.2.2.2.1 x8.2.2.2.2.2.2.1 x8.2.2.2.2.2.2.2 x0 x1 x2 x3 x4 x5 x6 x7 k u false false 0)
theorem g124v2 (x0 x1 : Bool) (x2 x3 x4 x5 x6 x7 x8 x9 : Int) :
  (kBlk 0 (kSeq (C53 u) u (10 :: 11 :: (rl 54 39 [])) A52v3 (finish A52))) (.exit 0) (s124v1 x0 x1 x2 x3 x4 x5 x6 x7 x8 x9) =
  (bif (x0 == true) then (some [.v (.b x1)]) else (some [.v (.b false)])) := by kernel_rfl
theorem e124 (x0 x1 x2 x3 x4 x5 x6 x7 : Int) : evalF (C53 u) u A52 [.agg [(vi x0),(vi x1),(vi x2),(vi x3)],.agg [(vi x4),(vi x5)],.agg [(vi x6),(vi x7)]] = ob (F124 u x0 x1 x2 x3 x4 x5 x6 x7) fun t => some [.v (.b t)] := Eq.trans (b := (bif ((decide ((if x6 > x4 then x6 else x4) ≤ x0)) == false) then (bif ((decide ((if x6 < x4 then x6 else x4) ≥ x2)) == false) then (bif ((decide ((if x7 > x5 then x7 else x5) ≤ x1)) == false) then (bif (decide ((if x7 < x5 then x7 else x5) ≥ x3)) then (some [.v (.b false)]) else (ob (F123 100 x0 x1 x2 x3) fun x8 => (loopN (B124v1 (C53 u) u) N124v1 u (s124v2 x0 x1 x2 x3 x4 x5 x6 x7 x8) (kBlk 0 (kSeq (C53 u) u (10 :: 11 :: (rl 54 39 [])) A52v3 (finish A52)))))) else (some [.v (.b false)])) else (some [.v (.b false)])) else (some [.v (.b false)]))) (by kernel_rfl) (by
 rw [← f124]
 simp only [D124,t124v1,g124v2])
def O124 : Ora where
 o := fun args {ρ} K =>
  wc args fun a1 l2 =>
  wagg a1 fun l3 =>
  wdI .i64 l3 fun y7 l5 =>
  wdI .i64 l5 fun y11 l9 =>
  wdI .i64 l9 fun y15 l13 =>
  wdI .i64 l13 fun y19 l17 =>
  wn l17 <|
  wc l2 fun a20 l21 =>
  wagg a20 fun l22 =>
  wdI .i64 l22 fun y26 l24 =>
  wdI .i64 l24 fun y30 l28 =>
  wn l28 <|
  wc l21 fun a31 l32 =>
  wagg a31 fun l33 =>
  wdI .i64 l33 fun y37 l35 =>
  wdI .i64 l35 fun y41 l39 =>
  wn l39 <|
  wn l32 <|
  (ob (F124 u y7 y11 y15 y19 y26 y30 y37 y41) fun t => K [.v (.b t)])
 nat := fun args {ρ} K => by
  simp only [bind_wagg,bind_wc,bind_wdI,bind_wn,bind_ob,Option.bind_some]
theorem d124 : DO (O124 u) (C53 u) 52 A52 := by
 intro P hmix hC hF args res h
 obtain ⟨a1,l2,rfl,z0⟩ := inv_wc h
 obtain ⟨l3,rfl,z1⟩ := inv_wagg z0
 obtain ⟨a4,y7,l5,rfl,h6,z2⟩ := inv_wdI z1
 obtain ⟨a8,y11,l9,rfl,h10,z3⟩ := inv_wdI z2
 obtain ⟨a12,y15,l13,rfl,h14,z4⟩ := inv_wdI z3
 obtain ⟨a16,y19,l17,rfl,h18,z5⟩ := inv_wdI z4
 obtain ⟨hn,z6⟩ := inv_wn z5
 cases hn
 obtain ⟨a20,l21,rfl,z7⟩ := inv_wc z6
 obtain ⟨l22,rfl,z8⟩ := inv_wagg z7
 obtain ⟨a23,y26,l24,rfl,h25,z9⟩ := inv_wdI z8
 obtain ⟨a27,y30,l28,rfl,h29,z10⟩ := inv_wdI z9
 obtain ⟨hn,z11⟩ := inv_wn z10
 cases hn
 obtain ⟨a31,l32,rfl,z12⟩ := inv_wc z11
 obtain ⟨l33,rfl,z13⟩ := inv_wagg z12
 obtain ⟨a34,y37,l35,rfl,h36,z14⟩ := inv_wdI z13
 obtain ⟨a38,y41,l39,rfl,h40,z15⟩ := inv_wdI z14
 obtain ⟨hn,z16⟩ := inv_wn z15
 cases hn
 obtain ⟨hn,z17⟩ := inv_wn z16
 cases hn
 exact Den.weaken (.cons (WkA.agg (.cons h6 (.cons h10 (.cons h14 (.cons h18 .nil))))) (.cons (WkA.agg (.cons h25 (.cons h29 .nil))) (.cons (WkA.agg (.cons h36 (.cons h40 .nil))) .nil))) (evalF_sound hmix hC hF ((e124 u y7 y11 y15 y19 y26 y30 y37 y41).trans z17))
def C54 : Oracle := (C53 u).add 52 (fun _ => true) (O124 100)
def A27v1 : AC := (.region 13 [o1 49 (bk .add 3 42 1),mv 42 49] 0 none)
def A27v2 : AC := (.seq (.block 1
 (.seq (.region 10 [o1 44 (.index 83 49 4 2 (some 2) (tm 41) (tm 42)),o1 8 (.alloc 0 49 [vci 0,vci 0]),o0 (.store 49 2 (tm 8) (tm 44))] 1 none) []
  (.seq (.region 11 [o1 45 (ln 40 2 6),o1 46 (ln 49 2 8),o1 47 (cs 22 [45,46] [40,49]),o1 48 (bk .lss 3 47 0)] 0 none) []
  (.cond (tm 48)
  (.seq (.region 12 [o1 4 (sb false)] 0 none) []
   (.ret (rl 0 4 (rl 5 64 []))))
  .skip)))) (4 :: 8 :: (rl 44 5 []))
 A27v1)
def A27v3 : AC := (.seq (.region 9 [o1 43 (bk .lss 3 42 4)] 0 none) []
 (.seq (.cond (tm 43)
 .skip
 (.exit 0 (1 :: 2 :: (rl 4 65 [])))) []
 A27v2))
def A27v4 : AC := (.region 19 [o1 68 (bk .add 3 52 1),mv 52 68] 0 none)
def A27v5 : AC := (.seq (.block 3
 (.seq (.region 16 [mv 54 52,o1 55 (.indexAddr 37 49 2 (tm 50) (tm 52)),o1 56 (ln 49 2 55),o1 10 (.alloc 0 49 [vci 0,vci 0]),o1 9 (sg 54),o0 (.store 49 2 (tm 10) (tm 56))] 1 none) []
  (.seq (.region 17 [o1 57 (ln 62 4 3),o1 58 (ln 49 2 10),mv 59 0,mv 60 9,o1 61 (bk .add 3 60 1),mv 62 0,o1 63 (.len 37 false (tm 62)),o1 64 (bt .rem 3 61 63),o1 65 (.indexAddr 37 49 2 (tm 59) (tm 64)),o1 66 (ln 49 2 65),o1 67 (cs 52 [57,58,66] [62,49,49])] 0 (some [[],[],[],[],[3],[],[5],(rl 3 4 []),(rl 2 6 []),(rl 2 7 []),(rl 0 10 [])])) []
  (.cond (tm 67)
  (.seq (.region 18 [o1 4 (sb false)] 0 none) []
   (.ret (rl 0 4 (rl 5 64 []))))
  .skip)))) (4 :: 9 :: 10 :: (rl 54 14 []))
 A27v4)
def A27v6 : AC := (.seq (.region 15 [o1 53 (bt .lss 3 52 51)] 0 none) []
 (.seq (.cond (tm 53)
 .skip
 (.exit 2 (rl 0 69 []))) []
 A27v5))
def A27v7 : AC := (.seq (.region 20 [o1 4 (sb true)] 0 none) []
 (.ret (rl 0 4 (rl 5 64 []))))
def A27v8 : AC := (.seq (.seq (.region 14 [mv 50 0,o1 51 (.len 37 false (tm 50)),o1 52 (.move (ic 0))] 0 none) []
 (.block 2
 (.loop [] (1 :: 2 :: (rl 4 46 (rl 53 16 [])))
  A27v6))) (4 :: 9 :: 10 :: (rl 50 19 []))
 A27v7)
def A27v9 : AC := (.seq (.seq (.region 8 [o1 40 (ln 62 4 3),o1 41 (cs 51 [40] [62]),o1 42 (.move (ic 0))] 0 none) []
 (.block 0
 (.loop [] (1 :: 2 :: 4 :: 5 :: (rl 7 34 (rl 43 26 [])))
  A27v3))) (4 :: 8 :: (rl 40 10 []))
 A27v8)
def A27v10 : AC := (.seq (.seq (.region 6 [o1 20 (ln 40 2 6),o1 21 (fa 62 3 0 0),o1 22 (fa 49 21 0 0),o1 23 (lo 3 22),o1 24 (fa 62 3 1 2),o1 25 (fa 49 24 0 0),o1 26 (lo 3 25),o1 27 (bt .add 3 23 26),o1 28 (bk .quo 3 27 2),o1 29 (fa 62 3 0 0),o1 30 (fa 49 29 1 1),o1 31 (lo 3 30),o1 32 (fa 62 3 1 2),o1 33 (fa 49 32 1 1),o1 34 (lo 3 33),o1 35 (bt .add 3 31 34),o1 36 (bk .quo 3 35 2),o1 37 (.build 49 [vci 0,vci 0] [(0,1),(1,1)] 0 [(0,(tm 28)),(1,(tm 36))]),o1 38 (cs 22 [20,37] [40,49]),o1 39 (bk .lss 3 38 1)] 0 none) []
 (.cond (tm 39)
 (.seq (.region 7 [o1 4 (sb false)] 0 none) []
  (.ret (rl 0 4 (rl 5 64 []))))
 .skip)) (4 :: (rl 20 20 []))
 A27v9)
def A27 : AF := ⟨69,[.tmp 4],
 (.seq (.region 0 [o1 3 (bx 0 62 1),o1 4 (sb false)] 1 none) []
 (.seq (.region 1 [mv 11 0,o1 12 (.callo 0 49 [(tm 11)] [37] kP),o1 5 (sg 12)] 1 none) []
 (.seq (.region 2 [mv 13 5,o1 14 (.turn 50 (tm 13) [] [37])] 0 none) []
 (.seq (.region 3 [mv 15 5,o1 16 (.build 40 [vcn,vcn] [(0,1),(1,1)] 0 [(0,(tm 15))]),o1 6 (.alloc 0 40 [vcn,vcn]),o0 (.store 40 2 (tm 6) (tm 16))] 1 none) []
 (.seq (.seq (.region 4 [o1 17 (ln 40 2 6),o1 18 (cs 40 [17] [40]),o1 19 (bk .neq 73 18 0)] 0 none) []
 (.cond (tm 19)
 (.seq (.region 5 [o1 4 (sb false)] 0 none) []
  (.ret (rl 0 4 (rl 5 64 []))))
 .skip)) [4,17,18,19]
 A27v10)))))⟩
def B125v1 (C : Oracle) (u : Nat) : St → (Ex → St → Option ρ) → Option ρ := fun st k => evalC C u A27v3 st k
def N125v1 : St → Option St := fun s => s.norm (1 :: 2 :: 4 :: 5 :: (rl 7 34 (rl 43 26 []))) 3
def s125v0 (x0 : Nat) (x1 : FF) (x2 x3 x4 x5 x6 x7 x8 x9 xA xB xC xD xE : Int) : St := ⟨(.x (.c (ro kP x0 x1)) :: .u :: .u :: .x (.ptr 0 0) :: .u :: .u :: .x (.ptr 2 0) :: (us 34 (.agg [(vci x2),(vci x3),(vci x4),(vci x5),(vci x6),(vci x7),(vci x8),(vci x9)] :: vxi xA :: (us 26 [])))),[.box [(vci xB),(vci xC),(vci xD),(vci xE)],.arr kP x0 x1,.box [(.own 1 0 x0),(vcn)]]⟩
def s125v1 (x0 x1 x2 x3 : Int) (x4 : Nat) (x5 : FF) (x6 x7 : Int) : St := ⟨(us 4 (vxb false :: (us 64 []))),[.box [(vci x0),(vci x1),(vci x2),(vci x3)],.arr kP x4 x5,.box [(.own 1 0 x4),(vcn)],.box [(vci x6),(vci x7)]]⟩
def s125v2 (x0 : Nat) (x1 : FF) (x2 x3 x4 x5 : Int) : St := ⟨(.x (.c (ro kP x0 x1)) :: .u :: .u :: .x (.ptr 0 0) :: (us 65 [])),[.box [(vci x2),(vci x3),(vci x4),(vci x5)],.arr kP x0 x1,.box [(.own 1 0 x0),(vcn)]]⟩
def L125v1 {ρ : Type} (u : Nat) (x0 : Nat) (x1 : FF) (x2 x3 x4 x5 x6 x7 x8 x9 xA xB xC xD : Int) : Nat → Int → (Int → Int → Option ρ) → (Option ρ) → Option ρ
 | 0,_,_,_ => none
 | m + 1,xE,k0,k1 =>
  (bif (decide (xE < 4)) then (bif (xE == 0) then (ob (F22 100 x0 x1 0 (fun _ _ => .any) x2 x3) fun xF => (bif (decide (xF < 0)) then (k0 x2 x3) else (L125v1 u x0 x1 x2 x3 x4 x5 x6 x7 x8 x9 xA xB xC xD m (w64 (xE + 1)) k0 k1))) else (bif (xE == 1) then (ob (F22 100 x0 x1 0 (fun _ _ => .any) x4 x5) fun xG => (bif (decide (xG < 0)) then (k0 x4 x5) else (L125v1 u x0 x1 x2 x3 x4 x5 x6 x7 x8 x9 xA xB xC xD m (w64 (xE + 1)) k0 k1))) else (bif (xE == 2) then (ob (F22 100 x0 x1 0 (fun _ _ => .any) x6 x7) fun xH => (bif (decide (xH < 0)) then (k0 x6 x7) else (L125v1 u x0 x1 x2 x3 x4 x5 x6 x7 x8 x9 xA xB xC xD m (w64 (xE + 1)) k0 k1))) else (bif (xE == 3) then (ob (F22 100 x0 x1 0 (fun _ _ => .any) x8 x9) fun xI => (bif (decide (xI < 0)) then (k0 x8 x9) else (L125v1 u x0 x1 x2 x3 x4 x5 x6 x7 x8 x9 xA xB xC xD m (w64 (xE + 1)) k0 k1))) else none)))) else k1)
theorem nl125v1 {ρ σ : Type} (u : Nat) (x0 : Nat) (x1 : FF) (x2 x3 x4 x5 x6 x7 x8 x9 xA xB xC xD : Int) (g : ρ → Option σ) : ∀ (m : Nat) (xE : Int) (k0 : Int → Int → Option ρ) (k1 : Option ρ),ob (L125v1 u x0 x1 x2 x3 x4 x5 x6 x7 x8 x9 xA xB xC xD m xE k0 k1) g = L125v1 u x0 x1 x2 x3 x4 x5 x6 x7 x8 x9 xA xB xC xD m xE (fun xF xG => ob (k0 xF xG) g) (ob k1 g)
 | 0,_,_,_ => rfl
 | m + 1,xE,k0,k1 => by
  simp only [L125v1,ob_bif,ob_ob,ob_none,nl125v1 u x0 x1 x2 x3 x4 x5 x6 x7 x8 x9 xA xB xC xD g m]
theorem r125v1 (m : Nat) (k : Ex → St → Option ρ) (x0 : Nat) (x1 : FF) (x2 x3 x4 x5 x6 x7 x8 x9 xA xB xC xD xE : Int) :
  loopH (B125v1 (C54 u) u) N125v1 (m + 1) (s125v0 x0 x1 x2 x3 x4 x5 x6 x7 x8 x9 xE xA xB xC xD) k =
  (bif (decide (xE < 4)) then (bif (xE == 0) then (ob (F22 100 x0 x1 0 nilF x2 x3) fun xF => (bif (decide (xF < 0)) then (k .ret (s125v1 xA xB xC xD x0 x1 x2 x3)) else (loopH (B125v1 (C54 u) u) N125v1 m (s125v0 x0 x1 x2 x3 x4 x5 x6 x7 x8 x9 (w64 (xE + 1)) xA xB xC xD) k))) else (bif (xE == 1) then (ob (F22 100 x0 x1 0 nilF x4 x5) fun xG => (bif (decide (xG < 0)) then (k .ret (s125v1 xA xB xC xD x0 x1 x4 x5)) else (loopH (B125v1 (C54 u) u) N125v1 m (s125v0 x0 x1 x2 x3 x4 x5 x6 x7 x8 x9 (w64 (xE + 1)) xA xB xC xD) k))) else (bif (xE == 2) then (ob (F22 100 x0 x1 0 nilF x6 x7) fun xH => (bif (decide (xH < 0)) then (k .ret (s125v1 xA xB xC xD x0 x1 x6 x7)) else (loopH (B125v1 (C54 u) u) N125v1 m (s125v0 x0 x1 x2 x3 x4 x5 x6 x7 x8 x9 (w64 (xE + 1)) xA xB xC xD) k))) else (bif (xE == 3) then (ob (F22 100 x0 x1 0 nilF x8 x9) fun xI => (bif (decide (xI < 0)) then (k .ret (s125v1 xA xB xC xD x0 x1 x8 x9)) else (loopH (B125v1 (C54 u) u) N125v1 m (s125v0 x0 x1 x2 x3 x4 x5 x6 x7 x8 x9 (w64 (xE + 1)) xA xB xC xD) k))) else none)))) else (k (.exit 0) (s125v2 x0 x1 xA xB xC xD))) := by kernel_rfl
theorem q125v1 (u : Nat) (x0 : Nat) (x1 : FF) (x2 x3 x4 x5 x6 x7 x8 x9 xA xB xC xD : Int) {ρ : Type} (k : Ex → St → Option ρ) : ∀ (m : Nat) (xE : Int),
  loopH (B125v1 (C54 u) u) N125v1 m (s125v0 x0 x1 x2 x3 x4 x5 x6 x7 x8 x9 xE xA xB xC xD) k = L125v1 u x0 x1 x2 x3 x4 x5 x6 x7 x8 x9 xA xB xC xD m xE (fun xF xG => k .ret (s125v1 xA xB xC xD x0 x1 xF xG)) (k (.exit 0) (s125v2 x0 x1 xA xB xC xD))
 | 0,_ => rfl
 | m + 1,xE => by
  rw [r125v1]
  simp only [L125v1,q125v1 u x0 x1 x2 x3 x4 x5 x6 x7 x8 x9 xA xB xC xD k m]
def B125v2 (C : Oracle) (u : Nat) : St → (Ex → St → Option ρ) → Option ρ := fun st k => evalC C u A27v6 st k
def N125v2 : St → Option St := fun s => s.norm (1 :: 2 :: (rl 4 46 (rl 53 16 []))) 3
def s125v3 (x0 : Nat) (x1 : FF) (x2 x3 x4 x5 x6 x7 : Int) : St := ⟨(.x (.c (ro kP x0 x1)) :: .u :: .u :: .x (.ptr 0 0) :: (us 46 (.x (.c (ro kP x0 x1)) :: vxi x2 :: vxi x3 :: (us 16 [])))),[.box [(vci x4),(vci x5),(vci x6),(vci x7)],.arr kP x0 x1,.box [(.own 1 0 x0),(vcn)]]⟩
def s125v4 (x0 x1 x2 x3 : Int) (x4 : Nat) (x5 : FF) (x6 x7 : Int) : St := ⟨(us 4 (vxb false :: (us 64 []))),[.box [(vci x0),(vci x1),(vci x2),(vci x3)],.arr kP x4 x5,.box [(.own 1 0 x4),(vcn)],.box [(vci x6),(vci x7)]]⟩
def s125v5 (x0 x1 x2 x3 : Int) (x4 : Nat) (x5 : FF) : St := ⟨(us 69 []),[.box [(vci x0),(vci x1),(vci x2),(vci x3)],.arr kP x4 x5,.box [(.own 1 0 x4),(vcn)]]⟩
def L125v2 {ρ : Type} (u : Nat) (x0 : Nat) (x1 : FF) (x2 x3 x4 x5 x6 : Int) : Nat → Int → (Int → Int → Option ρ) → (Option ρ) → Option ρ
 | 0,_,_,_ => none
 | m + 1,x7,k0,k1 =>
  (bif (decide (x7 < x2)) then (bif (inb x7 x0) then (bif ((Int.ofNat x0) == 0) then none else (bif (inb (Int.tmod (w64 (x7 + 1)) (Int.ofNat x0)) x0) then (ob (F124 100 x3 x4 x5 x6 (x1 x7.toNat 0).int (x1 x7.toNat 1).int (CV.int (x1 (Int.toNat (Int.tmod (w64 (x7 + 1)) (Int.ofNat x0))) 0)) (CV.int (x1 (Int.toNat (Int.tmod (w64 (x7 + 1)) (Int.ofNat x0))) 1))) fun x8 => (bif x8 then (k0 (x1 x7.toNat 0).int (x1 x7.toNat 1).int) else (L125v2 u x0 x1 x2 x3 x4 x5 x6 m (w64 (x7 + 1)) k0 k1))) else none)) else none) else k1)
theorem nl125v2 {ρ σ : Type} (u : Nat) (x0 : Nat) (x1 : FF) (x2 x3 x4 x5 x6 : Int) (g : ρ → Option σ) : ∀ (m : Nat) (x7 : Int) (k0 : Int → Int → Option ρ) (k1 : Option ρ),ob (L125v2 u x0 x1 x2 x3 x4 x5 x6 m x7 k0 k1) g = L125v2 u x0 x1 x2 x3 x4 x5 x6 m x7 (fun x8 x9 => ob (k0 x8 x9) g) (ob k1 g)
 | 0,_,_,_ => rfl
 | m + 1,x7,k0,k1 => by
  simp only [L125v2,ob_bif,ob_ob,ob_none,nl125v2 u x0 x1 x2 x3 x4 x5 x6 g m]
theorem r125v2 (m : Nat) (k : Ex → St → Option ρ) (x0 : Nat) (x1 : FF) (x2 x3 x4 x5 x6 x7 : Int) :
  loopH (B125v2 (C54 u) u) N125v2 (m + 1) (s125v3 x0 x1 x2 x7 x3 x4 x5 x6) k =
  (bif (decide (x7 < x2)) then (bif (inb x7 x0) then (bif ((Int.ofNat x0) == 0) then none else (bif (inb (Int.tmod (w64 (x7 + 1)) (Int.ofNat x0)) x0) then (ob (F124 100 x3 x4 x5 x6 (x1 x7.toNat 0).int (x1 x7.toNat 1).int (CV.int (x1 (Int.toNat (Int.tmod (w64 (x7 + 1)) (Int.ofNat x0))) 0)) (CV.int (x1 (Int.toNat (Int.tmod (w64 (x7 + 1)) (Int.ofNat x0))) 1))) fun x8 => (bif x8 then (k .ret (s125v4 x3 x4 x5 x6 x0 x1 (x1 x7.toNat 0).int (x1 x7.toNat 1).int)) else (loopH (B125v2 (C54 u) u) N125v2 m (s125v3 x0 x1 x2 (w64 (x7 + 1)) x3 x4 x5 x6) k))) else none)) else none) else (k (.exit 2) (s125v5 x3 x4 x5 x6 x0 x1))) := by kernel_rfl
theorem q125v2 (u : Nat) (x0 : Nat) (x1 : FF) (x2 x3 x4 x5 x6 : Int) {ρ : Type} (k : Ex → St → Option ρ) : ∀ (m : Nat) (x7 : Int),
  loopH (B125v2 (C54 u) u) N125v2 m (s125v3 x0 x1 x2 x7 x3 x4 x5 x6) k = L125v2 u x0 x1 x2 x3 x4 x5 x6 m x7 (fun x8 x9 => k .ret (s125v4 x3 x4 x5 x6 x0 x1 x8 x9)) (k (.exit 2) (s125v5 x3 x4 x5 x6 x0 x1))
 | 0,_ => rfl
 | m + 1,x7 => by
  rw [r125v2]
  simp only [L125v2,q125v2 u x0 x1 x2 x3 x4 x5 x6 k m]
def B125v3 (C : Oracle) (u : Nat) : St → (Ex → St → Option ρ) → Option ρ := fun st k => evalC C u A27v3 st k
def N125v3 : St → Option St := fun s => s.norm (1 :: 2 :: 4 :: 5 :: (rl 7 34 (rl 43 26 []))) 3
def s125v6 (x0 : Nat) (x1 : FF) (x2 x3 x4 x5 x6 x7 x8 x9 xA xB xC xD xE : Int) (xF : FF) : St := ⟨(.x (.c (ro kP x0 x1)) :: .u :: .u :: .x (.ptr 0 0) :: .u :: .u :: .x (.ptr 2 0) :: (us 34 (.agg [(vci x2),(vci x3),(vci x4),(vci x5),(vci x6),(vci x7),(vci x8),(vci x9)] :: vxi xA :: (us 26 [])))),[.box [(vci xB),(vci xC),(vci xD),(vci xE)],.arr kP x0 xF,.box [(.own 1 0 x0),(vcn)]]⟩
def s125v7 (x0 x1 x2 x3 : Int) (x4 : Nat) (x5 : FF) (x6 x7 : Int) : St := ⟨(us 4 (vxb false :: (us 64 []))),[.box [(vci x0),(vci x1),(vci x2),(vci x3)],.arr kP x4 x5,.box [(.own 1 0 x4),(vcn)],.box [(vci x6),(vci x7)]]⟩
def s125v8 (x0 : Nat) (x1 : FF) (x2 x3 x4 x5 : Int) (x6 : FF) : St := ⟨(.x (.c (ro kP x0 x1)) :: .u :: .u :: .x (.ptr 0 0) :: (us 65 [])),[.box [(vci x2),(vci x3),(vci x4),(vci x5)],.arr kP x0 x6,.box [(.own 1 0 x0),(vcn)]]⟩
def L125v3 {ρ : Type} (u : Nat) (x0 : Nat) (x1 : FF) (x2 x3 x4 x5 x6 x7 x8 x9 xA xB xC xD : Int) (xE : FF) : Nat → Int → (Int → Int → Option ρ) → (Option ρ) → Option ρ
 | 0,_,_,_ => none
 | m + 1,xF,k0,k1 =>
  (bif (decide (xF < 4)) then (bif (xF == 0) then (ob (F22 100 x0 xE 0 (fun _ _ => .any) x2 x3) fun xG => (bif (decide (xG < 0)) then (k0 x2 x3) else (L125v3 u x0 x1 x2 x3 x4 x5 x6 x7 x8 x9 xA xB xC xD xE m (w64 (xF + 1)) k0 k1))) else (bif (xF == 1) then (ob (F22 100 x0 xE 0 (fun _ _ => .any) x4 x5) fun xH => (bif (decide (xH < 0)) then (k0 x4 x5) else (L125v3 u x0 x1 x2 x3 x4 x5 x6 x7 x8 x9 xA xB xC xD xE m (w64 (xF + 1)) k0 k1))) else (bif (xF == 2) then (ob (F22 100 x0 xE 0 (fun _ _ => .any) x6 x7) fun xI => (bif (decide (xI < 0)) then (k0 x6 x7) else (L125v3 u x0 x1 x2 x3 x4 x5 x6 x7 x8 x9 xA xB xC xD xE m (w64 (xF + 1)) k0 k1))) else (bif (xF == 3) then (ob (F22 100 x0 xE 0 (fun _ _ => .any) x8 x9) fun xJ => (bif (decide (xJ < 0)) then (k0 x8 x9) else (L125v3 u x0 x1 x2 x3 x4 x5 x6 x7 x8 x9 xA xB xC xD xE m (w64 (xF + 1)) k0 k1))) else none)))) else k1)
theorem nl125v3 {ρ σ : Type} (u : Nat) (x0 : Nat) (x1 : FF) (x2 x3 x4 x5 x6 x7 x8 x9 xA xB xC xD : Int) (xE : FF) (g : ρ → Option σ) : ∀ (m : Nat) (xF : Int) (k0 : Int → Int → Option ρ) (k1 : Option ρ),ob (L125v3 u x0 x1 x2 x3 x4 x5 x6 x7 x8 x9 xA xB xC xD xE m xF k0 k1) g = L125v3 u x0 x1 x2 x3 x4 x5 x6 x7 x8 x9 xA xB xC xD xE m xF (fun xG xH => ob (k0 xG xH) g) (ob k1 g)
 | 0,_,_,_ => rfl
 | m + 1,xF,k0,k1 => by
  simp only [L125v3,ob_bif,ob_ob,ob_none,nl125v3 u x0 x1 x2 x3 x4 x5 x6 x7 x8 x9 xA xB xC xD xE g m]
theorem r125v3 (m : Nat) (k : Ex → St → Option ρ) (x0 : Nat) (x1 : FF) (x2 x3 x4 x5 x6 x7 x8 x9 xA xB xC xD : Int) (xE : FF) (xF : Int) :
  loopH (B125v3 (C54 u) u) N125v3 (m + 1) (s125v6 x0 x1 x2 x3 x4 x5 x6 x7 x8 x9 xF xA xB xC xD xE) k =
  (bif (decide (xF < 4)) then (bif (xF == 0) then (ob (F22 100 x0 xE 0 nilF x2 x3) fun xG => (bif (decide (xG < 0)) then (k .ret (s125v7 xA xB xC xD x0 xE x2 x3)) else (loopH (B125v3 (C54 u) u) N125v3 m (s125v6 x0 x1 x2 x3 x4 x5 x6 x7 x8 x9 (w64 (xF + 1)) xA xB xC xD xE) k))) else (bif (xF == 1) then (ob (F22 100 x0 xE 0 nilF x4 x5) fun xH => (bif (decide (xH < 0)) then (k .ret (s125v7 xA xB xC xD x0 xE x4 x5)) else (loopH (B125v3 (C54 u) u) N125v3 m (s125v6 x0 x1 x2 x3 x4 x5 x6 x7 x8 x9 (w64 (xF + 1)) xA xB xC xD xE) k))) else (bif (xF == 2) then (ob (F22 100 x0 xE 0 nilF x6 x7) fun xI => (bif (decide (xI < 0)) then (k .ret (s125v7 xA xB xC xD x0 xE x6 x7)) else (loopH (B125v3 (C54 u) u) N125v3 m (s125v6 x0 x1 x2 x3 x4 x5 x6 x7 x8 x9 (w64 (xF + 1)) xA xB xC xD xE) k))) else (bif (xF == 3) then (ob (F22 100 x0 xE 0 nilF x8 x9) fun xJ => (bif (decide (xJ < 0)) then (k .ret (s125v7 xA xB xC xD x0 xE x8 x9)) else (loopH (B125v3 (C54 u) u) N125v3 m (s125v6 x0 x1 x2 x3 x4 x5 x6 x7 x8 x9 (w64 (xF + 1)) xA xB xC xD xE) k))) else none)))) else (k (.exit 0) (s125v8 x0 x1 xA xB xC xD xE))) := by kernel_rfl
theorem q125v3 (u : Nat) (x0 : Nat) (x1 : FF) (x2 x3 x4 x5 x6 x7 x8 x9 xA xB xC xD : Int) (xE : FF) {ρ : Type} (k : Ex → St → Option ρ) : ∀ (m : Nat) (xF : Int),
  loopH (B125v3 (C54 u) u) N125v3 m (s125v6 x0 x1 x2 x3 x4 x5 x6 x7 x8 x9 xF xA xB xC xD xE) k = L125v3 u x0 x1 x2 x3 x4 x5 x6 x7 x8 x9 xA xB xC xD xE m xF (fun xG xH => k .ret (s125v7 xA xB xC xD x0 xE xG xH)) (k (.exit 0) (s125v8 x0 x1 xA xB xC xD xE))
 | 0,_ => rfl
 | m + 1,xF => by
  rw [r125v3]
  simp only [L125v3,q125v3 u x0 x1 x2 x3 x4 x5 x6 x7 x8 x9 xA xB xC xD xE k m]
def B125v4 (C : Oracle) (u : Nat) : St → (Ex → St → Option ρ) → Option ρ := fun st k => evalC C u A27v6 st k
def N125v4 : St → Option St := fun s => s.norm (1 :: 2 :: (rl 4 46 (rl 53 16 []))) 3
def s125v9 (x0 : Nat) (x1 : FF) (x2 x3 x4 x5 x6 x7 : Int) (x8 : FF) : St := ⟨(.x (.c (ro kP x0 x1)) :: .u :: .u :: .x (.ptr 0 0) :: (us 46 (.x (.c (ro kP x0 x1)) :: vxi x2 :: vxi x3 :: (us 16 [])))),[.box [(vci x4),(vci x5),(vci x6),(vci x7)],.arr kP x0 x8,.box [(.own 1 0 x0),(vcn)]]⟩
def s125v10 (x0 x1 x2 x3 : Int) (x4 : Nat) (x5 : FF) (x6 x7 : Int) : St := ⟨(us 4 (vxb false :: (us 64 []))),[.box [(vci x0),(vci x1),(vci x2),(vci x3)],.arr kP x4 x5,.box [(.own 1 0 x4),(vcn)],.box [(vci x6),(vci x7)]]⟩
def s125v11 (x0 x1 x2 x3 : Int) (x4 : Nat) (x5 : FF) : St := ⟨(us 69 []),[.box [(vci x0),(vci x1),(vci x2),(vci x3)],.arr kP x4 x5,.box [(.own 1 0 x4),(vcn)]]⟩
def L125v4 {ρ : Type} (u : Nat) (x0 : Nat) (x1 : FF) (x2 x3 x4 x5 x6 : Int) (x7 : FF) : Nat → Int → (Int → Int → Option ρ) → (Option ρ) → Option ρ
 | 0,_,_,_ => none
 | m + 1,x8,k0,k1 =>
  (bif (decide (x8 < x2)) then (bif (inb x8 x0) then (bif ((Int.ofNat x0) == 0) then none else (bif (inb (Int.tmod (w64 (x8 + 1)) (Int.ofNat x0)) x0) then (ob (F124 100 x3 x4 x5 x6 (x1 x8.toNat 0).int (x1 x8.toNat 1).int (CV.int (x1 (Int.toNat (Int.tmod (w64 (x8 + 1)) (Int.ofNat x0))) 0)) (CV.int (x1 (Int.toNat (Int.tmod (w64 (x8 + 1)) (Int.ofNat x0))) 1))) fun x9 => (bif x9 then (k0 (x1 x8.toNat 0).int (x1 x8.toNat 1).int) else (L125v4 u x0 x1 x2 x3 x4 x5 x6 x7 m (w64 (x8 + 1)) k0 k1))) else none)) else none) else k1)
theorem nl125v4 {ρ σ : Type} (u : Nat) (x0 : Nat) (x1 : FF) (x2 x3 x4 x5 x6 : Int) (x7 : FF) (g : ρ → Option σ) : ∀ (m : Nat) (x8 : Int) (k0 : Int → Int → Option ρ) (k1 : Option ρ),ob (L125v4 u x0 x1 x2 x3 x4 x5 x6 x7 m x8 k0 k1) g = L125v4 u x0 x1 x2 x3 x4 x5 x6 x7 m x8 (fun x9 xA => ob (k0 x9 xA) g) (ob k1 g)
 | 0,_,_,_ => rfl
 | m + 1,x8,k0,k1 => by
  simp only [L125v4,ob_bif,ob_ob,ob_none,nl125v4 u x0 x1 x2 x3 x4 x5 x6 x7 g m]
theorem r125v4 (m : Nat) (k : Ex → St → Option ρ) (x0 : Nat) (x1 : FF) (x2 x3 x4 x5 x6 : Int) (x7 : FF) (x8 : Int) :
  loopH (B125v4 (C54 u) u) N125v4 (m + 1) (s125v9 x0 x1 x2 x8 x3 x4 x5 x6 x7) k =
  (bif (decide (x8 < x2)) then (bif (inb x8 x0) then (bif ((Int.ofNat x0) == 0) then none else (bif (inb (Int.tmod (w64 (x8 + 1)) (Int.ofNat x0)) x0) then (ob (F124 100 x3 x4 x5 x6 (x1 x8.toNat 0).int (x1 x8.toNat 1).int (CV.int (x1 (Int.toNat (Int.tmod (w64 (x8 + 1)) (Int.ofNat x0))) 0)) (CV.int (x1 (Int.toNat (Int.tmod (w64 (x8 + 1)) (Int.ofNat x0))) 1))) fun x9 => (bif x9 then (k .ret (s125v10 x3 x4 x5 x6 x0 x7 (x1 x8.toNat 0).int (x1 x8.toNat 1).int)) else (loopH (B125v4 (C54 u) u) N125v4 m (s125v9 x0 x1 x2 (w64 (x8 + 1)) x3 x4 x5 x6 x7) k))) else none)) else none) else (k (.exit 2) (s125v11 x3 x4 x5 x6 x0 x7))) := by kernel_rfl
theorem q125v4 (u : Nat) (x0 : Nat) (x1 : FF) (x2 x3 x4 x5 x6 : Int) (x7 : FF) {ρ : Type} (k : Ex → St → Option ρ) : ∀ (m : Nat) (x8 : Int),
  loopH (B125v4 (C54 u) u) N125v4 m (s125v9 x0 x1 x2 x8 x3 x4 x5 x6 x7) k = L125v4 u x0 x1 x2 x3 x4 x5 x6 x7 m x8 (fun x9 xA => k .ret (s125v10 x3 x4 x5 x6 x0 x7 x9 xA)) (k (.exit 2) (s125v11 x3 x4 x5 x6 x0 x7))
 | 0,_ => rfl
 | m + 1,x8 => by
  rw [r125v4]
  simp only [L125v4,q125v4 u x0 x1 x2 x3 x4 x5 x6 x7 k m]
def D125 (x0 : Nat) (x1 : FF) (x2 x3 x4 x5 : Int) (k : Bool → Option ρ) : Option ρ :=
 (bif (Nat.ble x0 1073741824) then (bif (Nat.beq x0 x0) then (bif (Nat.beq x0 0) then (ob (F13 100 x0 x1 0 (fun _ _ => .any)) fun x6 => (bif (x6 != 0) then (k false) else (ob (F22 100 x0 x1 0 (fun _ _ => .any) (w64 (Int.tdiv (w64 (x2 + x4)) 2)) (w64 (Int.tdiv (w64 (x3 + x5)) 2))) fun x7 => (bif (decide (x7 < 1)) then (k false) else (ob (F123 100 x2 x3 x4 x5) fun x8 => (L125v1 u x0 x1 x8.1 x8.2.1 x8.2.2.1 x8.2.2.2.1 x8.2.2.2.2.1 x8.2.2.2.2.2.1 x8.2.2.2.2.2.2.1 x8.2.2.2.2.2.2.2 x2 x3 x4 x5 u 0
  (fun x9 xA => (k false))
  (L125v2 u x0 x1 (Int.ofNat x0) x2 x3 x4 x5 u 0
  (fun xB xC => (k false))
  (k true)))))))) else (ob (F13 100 x0 (revF x0 x1) 0 (fun _ _ => .any)) fun xD => (bif (xD != 0) then (k false) else (ob (F22 100 x0 (revF x0 x1) 0 (fun _ _ => .any) (w64 (Int.tdiv (w64 (x2 + x4)) 2)) (w64 (Int.tdiv (w64 (x3 + x5)) 2))) fun xE => (bif (decide (xE < 1)) then (k false) else (ob (F123 100 x2 x3 x4 x5) fun xF => (L125v3 u x0 x1 xF.1 xF.2.1 xF.2.2.1 xF.2.2.2.1 xF.2.2.2.2.1 xF.2.2.2.2.2.1 xF.2.2.2.2.2.2.1 xF.2.2.2.2.2.2.2 x2 x3 x4 x5 (revF x0 x1) u 0
  (fun xG xH => (k false))
  (L125v4 u x0 x1 (Int.ofNat x0) x2 x3 x4 x5 (revF x0 x1) u 0
  (fun xI xJ => (k false))
  (k true))))))))) else none) else none)
def F125 (x0 : Nat) (x1 : FF) (x2 x3 x4 x5 : Int) : Option (Bool) := D125 u x0 x1 x2 x3 x4 x5 some
theorem f125 (x0 : Nat) (x1 : FF) (x2 x3 x4 x5 : Int) (k : (Bool) → Option ρ) : D125 u x0 x1 x2 x3 x4 x5 k = ob (F125 u x0 x1 x2 x3 x4 x5) k := by
 simp only [F125,D125,ob_bif,ob_ob,ob_none,ob_some,nl125v1,nl125v2,nl125v3,nl125v4]
def s125v12 (x0 : Nat) (x1 : FF) (x2 x3 x4 x5 : Int) (x6 : Int × Int × Int × Int × Int × Int × Int × Int) : St := ⟨(.x (.c (ro kP x0 x1)) :: .agg [(vci x2),(vci x3),(vci x4),(vci x5)] :: uu :: .x (.ptr 0 0) :: .u :: .x (.own 1 0 x0) :: .x (.ptr 2 0) :: uu :: uu :: uu :: uu :: .x (.c (ro kP x0 x1)) :: .x (.own 1 0 x0) :: .x (.own 1 0 x0) :: .u :: .x (.own 1 0 x0) :: .agg [(.own 1 0 x0),(vcn)] :: (us 23 [.agg [(vci x2),(vci x3),(vci x4),(vci x5)],.agg [(vci x6.1),(vci x6.2.1),(vci x6.2.2.1),(vci x6.2.2.2.1),(vci x6.2.2.2.2.1),(vci x6.2.2.2.2.2.1),(vci x6.2.2.2.2.2.2.1),(vci x6.2.2.2.2.2.2.2)],vxi 0,uu,uu,uu,uu,uu,uu,uu,uu,uu,uu,uu,uu,uu,uu,uu,uu,uu,uu,uu,uu,uu,uu,uu,uu,uu,uu])),[.box [(vci x2),(vci x3),(vci x4),(vci x5)],.arr kP x0 x1,.box [(.own 1 0 x0),(vcn)]]⟩
def s125v13 (x0 : Nat) (x1 : FF) (x2 x3 x4 x5 : Int) (x6 : Int × Int × Int × Int × Int × Int × Int × Int) : St := ⟨(.x (.c (ro kP x0 x1)) :: .agg [(vci x2),(vci x3),(vci x4),(vci x5)] :: uu :: .x (.ptr 0 0) :: .u :: .x (.own 1 0 x0) :: .x (.ptr 2 0) :: uu :: uu :: uu :: uu :: .x (.c (ro kP x0 x1)) :: .x (.own 1 0 x0) :: .x (.own 1 0 x0) :: .u :: .x (.own 1 0 x0) :: .agg [(.own 1 0 x0),(vcn)] :: (us 23 [.agg [(vci x2),(vci x3),(vci x4),(vci x5)],.agg [(vci x6.1),(vci x6.2.1),(vci x6.2.2.1),(vci x6.2.2.2.1),(vci x6.2.2.2.2.1),(vci x6.2.2.2.2.2.1),(vci x6.2.2.2.2.2.2.1),(vci x6.2.2.2.2.2.2.2)],vxi 0,uu,uu,uu,uu,uu,uu,uu,uu,uu,uu,uu,uu,uu,uu,uu,uu,uu,uu,uu,uu,uu,uu,uu,uu,uu,uu])),[.box [(vci x2),(vci x3),(vci x4),(vci x5)],.arr kP x0 (revF x0 x1),.box [(.own 1 0 x0),(vcn)]]⟩
theorem t125v1 (k : Ex → St → Option ρ) (x0 : Nat) (x1 : FF) (x2 x3 x4 x5 : Int) (x6 : Int × Int × Int × Int × Int × Int × Int × Int) :
  loopN (B125v1 (C54 u) u) N125v1 u (s125v12 x0 x1 x2 x3 x4 x5 x6) k =
  L125v1 u x0 x1 x6.1 x6.2.1 x6.2.2.1 x6.2.2.2.1 x6.2.2.2.2.1 x6.2.2.2.2.2.1 x6.2.2.2.2.2.2.1 x6.2.2.2.2.2.2.2 x2 x3 x4 x5 u 0 (fun x7 x8 => k .ret (s125v1 x2 x3 x4 x5 x0 x1 x7 x8)) (k (.exit 0) (s125v2 x0 x1 x2 x3 x4 x5)) :=
 (loopN_at (st' := (s125v0 x0 x1 x6.1 x6.2.1 x6.2.2.1 x6.2.2.2.1 x6.2.2.2.2.1 x6.2.2.2.2.2.1 x6.2.2.2.2.2.2.1 x6.2.2.2.2.2.2.2 0 x2 x3 x4 x5)) (by kernel_rfl)).trans (q125v1 u x0 x1 x6.1 x6.2.1 x6.2.2.1 x6.2.2.2.1 x6.2.2.2.2.1 x6.2.2.2.2.2.1 x6.2.2.2.2.2.2.1 x6.2.2.2.2.2.2.2 x2 x3 x4 x5 k u 0)
theorem g125v2 (x0 x1 x2 x3 : Int) (x4 : Nat) (x5 : FF) (x6 x7 : Int) :
  (kBlk 0 (kSeq (C54 u) u (4 :: 8 :: (rl 40 10 [])) A27v8 (finish A27))) .ret (s125v1 x0 x1 x2 x3 x4 x5 x6 x7) =
  (some [.v (.b false)]) := by kernel_rfl
def s125v14 (x0 : Nat) (x1 : FF) (x2 x3 x4 x5 : Int) : St := ⟨(.x (.c (ro kP x0 x1)) :: .u :: .u :: .x (.ptr 0 0) :: (us 46 (.x (.c (ro kP x0 x1)) :: vxi (Int.ofNat x0) :: vxi 0 :: (us 16 [])))),[.box [(vci x2),(vci x3),(vci x4),(vci x5)],.arr kP x0 x1,.box [(.own 1 0 x0),(vcn)]]⟩
theorem g125v3 (x0 : Nat) (x1 : FF) (x2 x3 x4 x5 : Int) :
  (kBlk 0 (kSeq (C54 u) u (4 :: 8 :: (rl 40 10 [])) A27v8 (finish A27))) (.exit 0) (s125v2 x0 x1 x2 x3 x4 x5) =
  (loopN (B125v2 (C54 u) u) N125v2 u (s125v14 x0 x1 x2 x3 x4 x5) (kBlk 2 (kSeq (C54 u) u (4 :: 9 :: 10 :: (rl 50 19 [])) A27v7 (finish A27)))) := by kernel_rfl
theorem t125v4 (k : Ex → St → Option ρ) (x0 : Nat) (x1 : FF) (x2 x3 x4 x5 : Int) :
  loopN (B125v2 (C54 u) u) N125v2 u (s125v14 x0 x1 x2 x3 x4 x5) k =
  L125v2 u x0 x1 (Int.ofNat x0) x2 x3 x4 x5 u 0 (fun x6 x7 => k .ret (s125v4 x2 x3 x4 x5 x0 x1 x6 x7)) (k (.exit 2) (s125v5 x2 x3 x4 x5 x0 x1)) :=
 (loopN_at (st' := (s125v3 x0 x1 (Int.ofNat x0) 0 x2 x3 x4 x5)) (by kernel_rfl)).trans (q125v2 u x0 x1 (Int.ofNat x0) x2 x3 x4 x5 k u 0)
theorem g125v5 (x0 x1 x2 x3 : Int) (x4 : Nat) (x5 : FF) (x6 x7 : Int) :
  (kBlk 2 (kSeq (C54 u) u (4 :: 9 :: 10 :: (rl 50 19 [])) A27v7 (finish A27))) .ret (s125v4 x0 x1 x2 x3 x4 x5 x6 x7) =
  (some [.v (.b false)]) := by kernel_rfl
theorem g125v6 (x0 x1 x2 x3 : Int) (x4 : Nat) (x5 : FF) :
  (kBlk 2 (kSeq (C54 u) u (4 :: 9 :: 10 :: (rl 50 19 [])) A27v7 (finish A27))) (.exit 2) (s125v5 x0 x1 x2 x3 x4 x5) =
  (some [.v (.b true)]) := by kernel_rfl
theorem t125v7 (k : Ex → St → Option ρ) (x0 : Nat) (x1 : FF) (x2 x3 x4 x5 : Int) (x6 : Int × Int × Int × Int × Int × Int × Int × Int) :
  loopN (B125v3 (C54 u) u) N125v3 u (s125v13 x0 x1 x2 x3 x4 x5 x6) k =
  L125v3 u x0 x1 x6.1 x6.2.1 x6.2.2.1 x6.2.2.2.1 x6.2.2.2.2.1 x6.2.2.2.2.2.1 x6.2.2.2.2.2.2.1 x6.2.2.2.2.2.2.2 x2 x3 x4 x5 (revF x0 x1) u 0 (fun x7 x8 => k .ret (s125v7 x2 x3 x4 x5 x0 (revF x0 x1) x7 x8)) (k (.exit 0) (s125v8 x0 x1 x2 x3 x4 x5 (revF x0 x1))) :=
 (loopN_at (st' := (s125v6 x0 x1 x6.1 x6.2.1 x6.2.2.1 x6.2.2.2.1 x6.2.2.2.2.1 x6.2.2.2.2.2.1 x6.2.2.2.2.2.2.1 x6.2.2.2.2.2.2.2 0 x2 x3 x4 x5 (revF x0 x1))) (by kernel_rfl)).trans (q125v3 u x0 x1 x6.1 x6.2.1 x6.2.2.1 x6.2.2.2.1 x6.2.2.2.2.1 x6.2.2.2.2.2.1 x6.2.2.2.2.2.2.1 x6.2.2.2.2.2.2.2 x2 x3 x4 x5 (revF x0 x1) k u 0)
theorem g125v8 (x0 x1 x2 x3 : Int) (x4 : Nat) (x5 : FF) (x6 x7 : Int) :
  (kBlk 0 (kSeq (C54 u) u (4 :: 8 :: (rl 40 10 [])) A27v8 (finish A27))) .ret (s125v7 x0 x1 x2 x3 x4 (revF x4 x5) x6 x7) =
  (some [.v (.b false)]) := by kernel_rfl
def s125v15 (x0 : Nat) (x1 : FF) (x2 x3 x4 x5 : Int) : St := ⟨(.x (.c (ro kP x0 x1)) :: .u :: .u :: .x (.ptr 0 0) :: (us 46 (.x (.c (ro kP x0 x1)) :: vxi (Int.ofNat x0) :: vxi 0 :: (us 16 [])))),[.box [(vci x2),(vci x3),(vci x4),(vci x5)],.arr kP x0 (revF x0 x1),.box [(.own 1 0 x0),(vcn)]]⟩
theorem g125v9 (x0 : Nat) (x1 : FF) (x2 x3 x4 x5 : Int) :
  (kBlk 0 (kSeq (C54 u) u (4 :: 8 :: (rl 40 10 [])) A27v8 (finish A27))) (.exit 0) (s125v8 x0 x1 x2 x3 x4 x5 (revF x0 x1)) =
  (loopN (B125v4 (C54 u) u) N125v4 u (s125v15 x0 x1 x2 x3 x4 x5) (kBlk 2 (kSeq (C54 u) u (4 :: 9 :: 10 :: (rl 50 19 [])) A27v7 (finish A27)))) := by kernel_rfl
theorem t125v10 (k : Ex → St → Option ρ) (x0 : Nat) (x1 : FF) (x2 x3 x4 x5 : Int) :
  loopN (B125v4 (C54 u) u) N125v4 u (s125v15 x0 x1 x2 x3 x4 x5) k =
  L125v4 u x0 x1 (Int.ofNat x0) x2 x3 x4 x5 (revF x0 x1) u 0 (fun x6 x7 => k .ret (s125v10 x2 x3 x4 x5 x0 (revF x0 x1) x6 x7)) (k (.exit 2) (s125v11 x2 x3 x4 x5 x0 (revF x0 x1))) :=
 (loopN_at (st' := (s125v9 x0 x1 (Int.ofNat x0) 0 x2 x3 x4 x5 (revF x0 x1))) (by kernel_rfl)).trans (q125v4 u x0 x1 (Int.ofNat x0) x2 x3 x4 x5 (revF x0 x1) k u 0)
theorem g125v11 (x0 x1 x2 x3 : Int) (x4 : Nat) (x5 : FF) (x6 x7 : Int) :
  (kBlk 2 (kSeq (C54 u) u (4 :: 9 :: 10 :: (rl 50 19 [])) A27v7 (finish A27))) .ret (s125v10 x0 x1 x2 x3 x4 (revF x4 x5) x6 x7) =
  (some [.v (.b false)]) := by kernel_rfl
theorem g125v12 (x0 x1 x2 x3 : Int) (x4 : Nat) (x5 : FF) :
  (kBlk 2 (kSeq (C54 u) u (4 :: 9 :: 10 :: (rl 50 19 [])) A27v7 (finish A27))) (.exit 2) (s125v11 x0 x1 x2 x3 x4 (revF x4 x5)) =
  (some [.v (.b true)]) := by kernel_rfl
theorem e125 (x0 : Nat) (x1 : FF) (x2 x3 x4 x5 : Int) : evalF (C54 u) u A27 [.v (ro kP x0 x1),.agg [(vi x2),(vi x3),(vi x4),(vi x5)]] = ob (F125 u x0 x1 x2 x3 x4 x5) fun t => some [.v (.b t)] := Eq.trans (b := (bif (Nat.ble x0 1073741824) then (bif (Nat.beq x0 x0) then (bif (Nat.beq x0 0) then (ob (F13 100 x0 x1 0 nilF) fun x6 => (bif (x6 != 0) then (some [.v (.b false)]) else (ob (F22 100 x0 x1 0 nilF (w64 (Int.tdiv (w64 (x2 + x4)) 2)) (w64 (Int.tdiv (w64 (x3 + x5)) 2))) fun x7 => (bif (decide (x7 < 1)) then (some [.v (.b false)]) else (ob (F123 100 x2 x3 x4 x5) fun x8 => (loopN (B125v1 (C54 u) u) N125v1 u (s125v12 x0 x1 x2 x3 x4 x5 x8) (kBlk 0 (kSeq (C54 u) u (4 :: 8 :: (rl 40 10 [])) A27v8 (finish A27))))))))) else (ob (F13 100 x0 (revF x0 x1) 0 nilF) fun x9 => (bif (x9 != 0) then (some [.v (.b false)]) else (ob (F22 100 x0 (revF x0 x1) 0 nilF (w64 (Int.tdiv (w64 (x2 + x4)) 2)) (w64 (Int.tdiv (w64 (x3 + x5)) 2))) fun xA => (bif (decide (xA < 1)) then (some [.v (.b false)]) else (ob (F123 100 x2 x3 x4 x5) fun xB => (loopN (B125v3 (C54 u) u) N125v3 u (s125v13 x0 x1 x2 x3 x4 x5 xB) (kBlk 0 (kSeq (C54 u) u (4 :: 8 :: (rl 40 10 [])) A27v8 (finish A27)))))))))) else none) else none)) (by kernel_rfl) (by
 rw [← f125]
 simp only [D125,t125v1,g125v2,g125v3,t125v4,g125v5,g125v6,t125v7,g125v8,g125v9,t125v10,g125v11,g125v12])
def O125 : Ora where
 o := fun args {ρ} K =>
  wcL kP args fun y4 y5 l2 =>
  wc l2 fun a6 l7 =>
  wagg a6 fun l8 =>
  wdI .i64 l8 fun y12 l10 =>
  wdI .i64 l10 fun y16 l14 =>
  wdI .i64 l14 fun y20 l18 =>
  wdI .i64 l18 fun y24 l22 =>
  wn l22 <|
  wn l7 <|
  (ob (F125 u y4 y5 y12 y16 y20 y24) fun t => K [.v (.b t)])
 nat := fun args {ρ} K => by
  simp only [bind_wagg,bind_wc,bind_wcL,bind_wdI,bind_wn,bind_ob,Option.bind_some]
theorem d125 : DO (O125 u) (C54 u) 27 A27 := by
 intro P hmix hC hF args res h
 obtain ⟨a1,y4,y5,l2,rfl,h3,z0⟩ := inv_wcL h
 obtain ⟨a6,l7,rfl,z1⟩ := inv_wc z0
 obtain ⟨l8,rfl,z2⟩ := inv_wagg z1
 obtain ⟨a9,y12,l10,rfl,h11,z3⟩ := inv_wdI z2
 obtain ⟨a13,y16,l14,rfl,h15,z4⟩ := inv_wdI z3
 obtain ⟨a17,y20,l18,rfl,h19,z5⟩ := inv_wdI z4
 obtain ⟨a21,y24,l22,rfl,h23,z6⟩ := inv_wdI z5
 obtain ⟨hn,z7⟩ := inv_wn z6
 cases hn
 obtain ⟨hn,z8⟩ := inv_wn z7
 cases hn
 exact Den.weaken (.cons h3 (.cons (WkA.agg (.cons h11 (.cons h15 (.cons h19 (.cons h23 .nil))))) .nil)) (evalF_sound hmix hC hF ((e125 u y4 y5 y12 y16 y20 y24).trans z8))
def C55 : Oracle := (C54 u).add 27 (fun _ => true) (O125 100)
def A26 : AF := ⟨7,[.tmp 3],
 (.seq (.region 0 [o1 3 (sb false)] 0 none) []
 (.seq (.region 1 [mv 4 0,o1 5 (ln 62 4 1),o1 6 (cs 27 [4,5] [37,62]),o1 3 (sg 6)] 0 none) []
 (.ret [0,1,2,4,5,6])))⟩
def D126 (u : Nat) (x0 : Nat) (x1 : FF) (x2 : Nat → CV) (k : Bool → Option ρ) : Option ρ :=
 (ob (F125 100 x0 x1 (x2 0).int (x2 1).int (x2 2).int (x2 3).int) fun x3 => (k x3))
def F126 (x0 : Nat) (x1 : FF) (x2 : Nat → CV) : Option (Bool) := D126 u x0 x1 x2 some
theorem f126 (x0 : Nat) (x1 : FF) (x2 : Nat → CV) (k : (Bool) → Option ρ) : D126 u x0 x1 x2 k = ob (F126 u x0 x1 x2) k := by
 simp only [F126,D126,ob_bif,ob_ob,ob_none,ob_some]
theorem e126 (x0 : Nat) (x1 : FF) (x2 : Nat → CV) : evalF (C55 u) u A26 [.v (ro kP x0 x1),.v (.rp (.pr (.int .i64) kV) x2)] = ob (F126 u x0 x1 x2) fun t => some [.v (.b t)] := Eq.trans (b := (ob (F125 100 x0 x1 (x2 0).int (x2 1).int (x2 2).int (x2 3).int) fun x3 => (some [.v (.b x3)]))) (by kernel_rfl) (by
 rw [← f126]
 simp only [D126])
def O126 : Ora where
 o := fun args {ρ} K =>
  wcL kP args fun y4 y5 l2 =>
  wc l2 fun a6 l7 =>
  wv a6 fun c8 =>
  wP (.pr (.int .i64) kV) c8 fun y9 =>
  wn l7 <|
  (ob (F126 u y4 y5 y9) fun t => K [.v (.b t)])
 nat := fun args {ρ} K => by
  simp only [bind_wP,bind_wc,bind_wcL,bind_wn,bind_wv,bind_ob,Option.bind_some]
theorem d126 : DO (O126 u) (C55 u) 26 A26 := by
 intro P hmix hC hF args res h
 obtain ⟨a1,y4,y5,l2,rfl,h3,z0⟩ := inv_wcL h
 obtain ⟨a6,l7,rfl,z1⟩ := inv_wc z0
 obtain ⟨c8,rfl,z2⟩ := inv_wv z1
 obtain ⟨y9,h10,z3⟩ := inv_wP z2
 obtain ⟨hn,z4⟩ := inv_wn z3
 cases hn
 exact Den.weaken (.cons h3 (.cons (WkA.v (wk_rp h10)) .nil)) (evalF_sound hmix hC hF ((e126 u y4 y5 y9).trans z4))
def C56 : Oracle := (C55 u).add 26 (fun _ => true) (O126 100)
def A48v1 : AC := (.region 6 [o1 18 (bk .add 3 8 1),mv 8 18] 0 none)
def A48v2 : AC := (.seq (.block 1
 (.seq (.region 3 [mv 10 8,o1 5 (sg 10)] 0 none) []
  (.seq (.region 4 [mv 11 1,mv 12 0,mv 13 5,o1 14 (.indexAddr 38 37 1 (tm 12) (tm 13)),o1 15 (lo 37 14),o1 16 (.callv (tm 11) [(tm 15)] [37] .snap)] 0 none) []
  (.cond (tm 16)
  (.seq (.region 5 [mv 17 5,o1 4 (sg 17)] 0 none) []
   (.ret (rl 0 4 (rl 5 14 []))))
  .skip)))) (4 :: 5 :: (rl 10 8 []))
 A48v1)
def A48v3 : AC := (.seq (.region 2 [o1 9 (bt .lss 3 8 7)] 0 none) []
 (.seq (.cond (tm 9)
 .skip
 (.exit 0 (rl 0 19 []))) []
 A48v2))
def A48v4 : AC := (.seq (.region 7 [o1 4 (sk (-1))] 0 none) []
 (.ret (rl 0 4 (rl 5 14 []))))
def A48 : AF := ⟨19,[.tmp 4],
 (.seq (.region 0 [o1 4 (sk 0)] 0 none) []
 (.seq (.seq (.region 1 [mv 6 0,o1 7 (.len 38 false (tm 6)),o1 8 (.move (ic 0))] 0 none) []
 (.block 0
 (.loop [] (rl 2 5 (rl 9 10 []))
  A48v3))) (rl 4 15 [])
 A48v4))⟩
def B127v1 (C : Oracle) (u : Nat) : St → (Ex → St → Option ρ) → Option ρ := fun st k => evalC C u A48v3 st k
def N127v1 : St → Option St := fun s => s.norm (rl 2 5 (rl 9 10 [])) 0
def s127v0 (x0 : Nat) (x1 : FF) (x2 : Nat → CV) (x3 x4 : Int) : St := ⟨(.x (.c (ro (.pr (.sl kP) .nil) x0 x1)) :: .x (.c (.fn 26 1 (listF [(.rp (.pr (.int .i64) kV) x2)]))) :: (us 5 (vxi x3 :: vxi x4 :: (us 10 [])))),[]⟩
def s127v1 (x0 : Int) : St := ⟨(us 4 (vxi x0 :: (us 14 []))),[]⟩
def s127v2 : St := ⟨(us 19 []),[]⟩
def L127v1 {ρ : Type} (u : Nat) (x0 : Nat) (x1 : FF) (x2 : Nat → CV) (x3 : Int) : Nat → Int → (Int → Option ρ) → (Option ρ) → Option ρ
 | 0,_,_,_ => none
 | m + 1,x4,k0,k1 =>
  (bif (decide (x4 < x3)) then (bif (inb x4 x0) then (ob (F126 100 (x1 x4.toNat 0).len (x1 x4.toNat 0).el x2) fun x5 => (bif x5 then (k0 x4) else (L127v1 u x0 x1 x2 x3 m (w64 (x4 + 1)) k0 k1))) else none) else k1)
theorem nl127v1 {ρ σ : Type} (u : Nat) (x0 : Nat) (x1 : FF) (x2 : Nat → CV) (x3 : Int) (g : ρ → Option σ) : ∀ (m : Nat) (x4 : Int) (k0 : Int → Option ρ) (k1 : Option ρ),ob (L127v1 u x0 x1 x2 x3 m x4 k0 k1) g = L127v1 u x0 x1 x2 x3 m x4 (fun x5 => ob (k0 x5) g) (ob k1 g)
 | 0,_,_,_ => rfl
 | m + 1,x4,k0,k1 => by
  simp only [L127v1,ob_bif,ob_ob,ob_none,nl127v1 u x0 x1 x2 x3 g m]
theorem r127v1 (m : Nat) (k : Ex → St → Option ρ) (x0 : Nat) (x1 : FF) (x2 : Nat → CV) (x3 x4 : Int) :
  loopH (B127v1 (C56 u) u) N127v1 (m + 1) (s127v0 x0 x1 x2 x3 x4) k =
  (bif (decide (x4 < x3)) then (bif (inb x4 x0) then (ob (F126 100 (x1 x4.toNat 0).len (x1 x4.toNat 0).el x2) fun x5 => (bif x5 then (k .ret (s127v1 x4)) else (loopH (B127v1 (C56 u) u) N127v1 m (s127v0 x0 x1 x2 x3 (w64 (x4 + 1))) k))) else none) else (k (.exit 0) s127v2)) := by kernel_rfl
theorem q127v1 (u : Nat) (x0 : Nat) (x1 : FF) (x2 : Nat → CV) (x3 : Int) {ρ : Type} (k : Ex → St → Option ρ) : ∀ (m : Nat) (x4 : Int),
  loopH (B127v1 (C56 u) u) N127v1 m (s127v0 x0 x1 x2 x3 x4) k = L127v1 u x0 x1 x2 x3 m x4 (fun x5 => k .ret (s127v1 x5)) (k (.exit 0) s127v2)
 | 0,_ => rfl
 | m + 1,x4 => by
  rw [r127v1]
  simp only [L127v1,q127v1 u x0 x1 x2 x3 k m]
def D127 (x0 : Nat) (x1 : FF) (x2 : Nat → CV) (k : Int → Option ρ) : Option ρ :=
 (L127v1 u x0 x1 x2 (Int.ofNat x0) u 0
  (fun x3 => (k x3))
  (k (-1)))
def F127 (x0 : Nat) (x1 : FF) (x2 : Nat → CV) : Option (Int) := D127 u x0 x1 x2 some
theorem f127 (x0 : Nat) (x1 : FF) (x2 : Nat → CV) (k : (Int) → Option ρ) : D127 u x0 x1 x2 k = ob (F127 u x0 x1 x2) k := by
 simp only [F127,D127,ob_bif,ob_ob,ob_none,ob_some,nl127v1]
def s127v3 (x0 : Nat) (x1 : FF) (x2 : Nat → CV) : St := ⟨[.x (.c (ro (.pr (.sl kP) .nil) x0 x1)),.x (.c (.fn 26 1 (listF [(.rp (.pr (.int .i64) kV) x2)]))),uu,uu,vxi 0,uu,.x (.c (ro (.pr (.sl kP) .nil) x0 x1)),vxi (Int.ofNat x0),vxi 0,uu,uu,uu,uu,uu,uu,uu,uu,uu,uu],[]⟩
theorem t127v1 (k : Ex → St → Option ρ) (x0 : Nat) (x1 : FF) (x2 : Nat → CV) :
  loopN (B127v1 (C56 u) u) N127v1 u (s127v3 x0 x1 x2) k =
  L127v1 u x0 x1 x2 (Int.ofNat x0) u 0 (fun x3 => k .ret (s127v1 x3)) (k (.exit 0) s127v2) :=
 (loopN_at (st' := (s127v0 x0 x1 x2 (Int.ofNat x0) 0)) (by kernel_rfl)).trans (q127v1 u x0 x1 x2 (Int.ofNat x0) k u 0)
theorem g127v2 (x0 : Int) :
  (kBlk 0 (kSeq (C56 u) u (rl 4 15 []) A48v4 (finish A48))) .ret (s127v1 x0) =
  (some [.v (vi x0)]) := by kernel_rfl
theorem g127v3 :
  (kBlk 0 (kSeq (C56 u) u (rl 4 15 []) A48v4 (finish A48))) (.exit 0) s127v2 =
  (some [.v (vi (-1))]) := by kernel_rfl
theorem e127 (x0 : Nat) (x1 : FF) (x2 : Nat → CV) : evalF (C56 u) u A48 [.v (ro (.pr (.sl kP) .nil) x0 x1),.v (.fn 26 1 (listF [(.rp (.pr (.int .i64) kV) x2)]))] = ob (F127 u x0 x1 x2) fun t => some [.v (vi t)] := Eq.trans (b := (loopN (B127v1 (C56 u) u) N127v1 u (s127v3 x0 x1 x2) (kBlk 0 (kSeq (C56 u) u (rl 4 15 []) A48v4 (finish A48))))) (by kernel_rfl) (by
 rw [← f127]
 simp only [D127,t127v1,g127v2,g127v3])
def O127 : Ora where
 o := fun args {ρ} K =>
  wcL (.pr (.sl kP) .nil) args fun y4 y5 l2 =>
  wc l2 fun a6 l7 =>
  wv a6 fun c8 =>
  wFn 26 1 c8 fun y9 =>
  wP (.pr (.int .i64) kV) (y9 0) fun y11 =>
  wn l7 <|
  (ob (F127 u y4 y5 y11) fun t => K [.v (vi t)])
 nat := fun args {ρ} K => by
  simp only [bind_wFn,bind_wP,bind_wc,bind_wcL,bind_wn,bind_wv,bind_ob,Option.bind_some]
theorem d127 : DO (O127 u) (C56 u) 48 A48 := by
 intro P hmix hC hF args res h
 obtain ⟨a1,y4,y5,l2,rfl,h3,z0⟩ := inv_wcL h
 obtain ⟨a6,l7,rfl,z1⟩ := inv_wc z0
 obtain ⟨c8,rfl,z2⟩ := inv_wv z1
 obtain ⟨y9,h10,z3⟩ := inv_wFn z2
 obtain ⟨y11,h12,z4⟩ := inv_wP z3
 obtain ⟨hn,z5⟩ := inv_wn z4
 cases hn
 exact Den.weaken (.cons h3 (.cons (WkA.v (wk_fn1 h10 (wk_rp h12))) .nil)) (evalF_sound hmix hC hF ((e127 u y4 y5 y11).trans z5))
def C57 : Oracle := (C56 u).add 48 (fun l => isFn 26 l 1) (O127 100)
def A25 : AF := ⟨9,[.tmp 4],
 (.seq (.region 0 [o1 4 (sb false)] 0 none) []
 (.seq (.region 1 [mv 5 0,mv 6 1,o1 7 (cs 48 [5,6] [38,65]),o1 8 (bk .geq 3 7 0),o1 4 (sg 8)] 0 none) []
 (.ret (rl 0 4 (rl 5 4 [])))))⟩
def D128 (u : Nat) (x0 : Nat) (x1 : FF) (x2 : Nat → CV) (k : Bool → Option ρ) : Option ρ :=
 (ob (F127 100 x0 x1 x2) fun x3 => (k (decide (x3 ≥ 0))))
def F128 (x0 : Nat) (x1 : FF) (x2 : Nat → CV) : Option (Bool) := D128 u x0 x1 x2 some
theorem f128 (x0 : Nat) (x1 : FF) (x2 : Nat → CV) (k : (Bool) → Option ρ) : D128 u x0 x1 x2 k = ob (F128 u x0 x1 x2) k := by
 simp only [F128,D128,ob_bif,ob_ob,ob_none,ob_some]
theorem e128 (x0 : Nat) (x1 : FF) (x2 : Nat → CV) : evalF (C57 u) u A25 [.v (ro (.pr (.sl kP) .nil) x0 x1),.v (.fn 26 1 (listF [(.rp (.pr (.int .i64) kV) x2)]))] = ob (F128 u x0 x1 x2) fun t => some [.v (.b t)] := Eq.trans (b := (ob (F127 100 x0 x1 x2) fun x3 => (some [.v (.b (decide (x3 ≥ 0)))]))) (by kernel_rfl) (by
 rw [← f128]
 simp only [D128])
def O128 : Ora where
 o := fun args {ρ} K =>
  wcL (.pr (.sl kP) .nil) args fun y4 y5 l2 =>
  wc l2 fun a6 l7 =>
  wv a6 fun c8 =>
  wFn 26 1 c8 fun y9 =>
  wP (.pr (.int .i64) kV) (y9 0) fun y11 =>
  wn l7 <|
  (ob (F128 u y4 y5 y11) fun t => K [.v (.b t)])
 nat := fun args {ρ} K => by
  simp only [bind_wFn,bind_wP,bind_wc,bind_wcL,bind_wn,bind_wv,bind_ob,Option.bind_some]
theorem d128 : DO (O128 u) (C57 u) 25 A25 := by
 intro P hmix hC hF args res h
 obtain ⟨a1,y4,y5,l2,rfl,h3,z0⟩ := inv_wcL h
 obtain ⟨a6,l7,rfl,z1⟩ := inv_wc z0
 obtain ⟨c8,rfl,z2⟩ := inv_wv z1
 obtain ⟨y9,h10,z3⟩ := inv_wFn z2
 obtain ⟨y11,h12,z4⟩ := inv_wP z3
 obtain ⟨hn,z5⟩ := inv_wn z4
 cases hn
 exact Den.weaken (.cons h3 (.cons (WkA.v (wk_fn1 h10 (wk_rp h12))) .nil)) (evalF_sound hmix hC hF ((e128 u y4 y5 y11).trans z5))
def C58 : Oracle := (C57 u).add 25 (fun l => isFn 26 l 1) (O128 100)
def A14v1 : AC := (.seq (.region 3 [o1 42 (fa 51 3 2 3),o1 43 (lo 3 42),o1 44 (bk .add 3 43 1),o1 45 (bk .quo 3 44 2),o1 5 (sg 45)] 0 none) []
 (.seq (.region 4 [o1 46 (fa 51 3 1 1),o1 47 (fa 49 46 0 0),o1 48 (lo 3 47),mv 49 5,o1 50 (bt .sub 3 48 49),o1 51 (fa 51 3 1 1),o1 52 (fa 49 51 1 1),o1 53 (lo 3 52),mv 54 5,o1 55 (bt .sub 3 53 54),o1 56 (.build 49 [vci 0,vci 0] [(0,1),(1,1)] 0 [(0,(tm 50)),(1,(tm 55))]),o1 57 (fa 51 3 1 1),o1 58 (fa 49 57 0 0),o1 59 (lo 3 58),mv 60 5,o1 61 (bt .add 3 59 60),o1 62 (fa 51 3 1 1),o1 63 (fa 49 62 1 1),o1 64 (lo 3 63),mv 65 5,o1 66 (bt .add 3 64 65),o1 67 (.build 49 [vci 0,vci 0] [(0,1),(1,1)] 0 [(0,(tm 61)),(1,(tm 66))]),o1 68 (.build 62 [vci 0,vci 0,vci 0,vci 0] [(0,2),(2,2)] 0 [(0,(tm 56)),(1,(tm 67))]),o1 6 (.alloc 0 62 [vci 0,vci 0,vci 0,vci 0]),o0 (.store 62 4 (tm 6) (tm 68))] 1 none) []
 (.seq (.region 5 [o1 69 (fa 46 2 6 6),o1 70 (fa 40 69 1 1),o1 71 (lo 38 70),o1 72 (.mkfn 26 [(tm 6)]),o1 73 (cs 25 [71,72] [38,65]),o1 4 (sg 73)] 0 none) []
 (.ret (rl 0 4 (rl 5 69 []))))))
def A14 : AF := ⟨74,[.tmp 4],
 (.seq (.region 0 [o1 2 (bx 0 46 0),o1 3 (bx 1 51 1),o1 4 (sb false)] 2 none) []
 (.seq (.seq (.region 1 [o1 7 (fa 51 3 0 0),o1 8 (lo 9 7),o1 9 (fa 46 2 0 0),o1 10 (lo 9 9),o1 11 (bt .neq 9 8 10),mv 12 11,og 13 (fa 51 3 2 3) 12 false,og 14 (lo 3 13) 12 false,og 15 (bk .lss 3 14 1) 12 false,o1 16 (pa 12 15),mv 17 16,og 18 (fa 51 3 2 3) 17 false,og 19 (lo 3 18) 17 false,og 20 (bk .gtr 3 19 10000) 17 false,o1 21 (pa 17 20),mv 22 21,og 23 (fa 51 3 1 1) 22 false,og 24 (fa 49 23 0 0) 22 false,og 25 (lo 3 24) 22 false,og 26 (fa 51 3 1 1) 22 false,og 27 (fa 49 26 1 1) 22 false,og 28 (lo 3 27) 22 false,og 29 (.mm true [(tm 25),(tm 28)] [3,3]) 22 false,og 30 (bk .gtr 3 29 32768) 22 false,o1 31 (pa 22 30),mv 32 31,og 33 (fa 51 3 1 1) 32 false,og 34 (fa 49 33 0 0) 32 false,og 35 (lo 3 34) 32 false,og 36 (fa 51 3 1 1) 32 false,og 37 (fa 49 36 1 1) 32 false,og 38 (lo 3 37) 32 false,og 39 (.mm false [(tm 35),(tm 38)] [3,3]) 32 false,og 40 (bk .lss 3 39 (-32768)) 32 false,o1 41 (pa 32 40)] 0 none) []
 (.cond (tm 41)
 (.seq (.region 2 [o1 4 (sb false)] 0 none) []
  (.ret (rl 0 4 (rl 5 69 []))))
 .skip)) (4 :: (rl 7 35 []))
 A14v1))⟩
def D129 (u : Nat) (x0 : Nat → CV) (x1 : ByteArray) (x2 x3 x4 : Int) (k : Bool → Option ρ) : Option ρ :=
 (bif ((!(ByteArray.toList x1 == ByteArray.toList (x0 0).str)) == false) then (bif ((decide (x4 < 1)) == false) then (bif ((decide (x4 > 10000)) == false) then (bif ((decide ((if x3 > x2 then x3 else x2) > 32768)) == false) then (bif (decide ((if x3 < x2 then x3 else x2) < (-32768))) then (k false) else (ob (F128 100 (x0 7).len (x0 7).el (listF [(.i .i64 (w64 (x2 - (w64 (Int.tdiv (w64 (x4 + 1)) 2))))),(.i .i64 (w64 (x3 - (w64 (Int.tdiv (w64 (x4 + 1)) 2))))),(.i .i64 (w64 (x2 + (w64 (Int.tdiv (w64 (x4 + 1)) 2))))),(.i .i64 (w64 (x3 + (w64 (Int.tdiv (w64 (x4 + 1)) 2)))))])) fun x5 => (k x5))) else (k false)) else (k false)) else (k false)) else (k false))
def F129 (x0 : Nat → CV) (x1 : ByteArray) (x2 x3 x4 : Int) : Option (Bool) := D129 u x0 x1 x2 x3 x4 some
theorem f129 (x0 : Nat → CV) (x1 : ByteArray) (x2 x3 x4 : Int) (k : (Bool) → Option ρ) : D129 u x0 x1 x2 x3 x4 k = ob (F129 u x0 x1 x2 x3 x4) k := by
 simp only [F129,D129,ob_bif,ob_ob,ob_none,ob_some]
theorem e129 (x0 : Nat → CV) (x1 : ByteArray) (x2 x3 x4 : Int) : evalF (C58 u) u A14 [.agg (pj kR0 x0),.agg [(.s x1),(vi x2),(vi x3),(vi x4)]] = ob (F129 u x0 x1 x2 x3 x4) fun t => some [.v (.b t)] := Eq.trans (b := (bif ((!(ByteArray.toList x1 == ByteArray.toList (x0 0).str)) == false) then (bif ((decide (x4 < 1)) == false) then (bif ((decide (x4 > 10000)) == false) then (bif ((decide ((if x3 > x2 then x3 else x2) > 32768)) == false) then (bif (decide ((if x3 < x2 then x3 else x2) < (-32768))) then (some [.v (.b false)]) else (ob (F128 100 (x0 7).len (x0 7).el (listF [(vi (w64 (x2 - (w64 (Int.tdiv (w64 (x4 + 1)) 2))))),(vi (w64 (x3 - (w64 (Int.tdiv (w64 (x4 + 1)) 2))))),(vi (w64 (x2 + (w64 (Int.tdiv (w64 (x4 + 1)) 2))))),(vi (w64 (x3 + (w64 (Int.tdiv (w64 (x4 + 1)) 2)))))])) fun x5 => (some [.v (.b x5)]))) else (some [.v (.b false)])) else (some [.v (.b false)])) else (some [.v (.b false)])) else (some [.v (.b false)]))) (by kernel_rfl) (by
 rw [← f129]
 simp only [D129])
def O129 : Ora where
 o := fun args {ρ} K =>
  wc args fun a1 l2 =>
  wrow kR0 a1 fun y3 =>
  wc l2 fun a5 l6 =>
  wagg a5 fun l7 =>
  wdS l7 fun y11 l9 =>
  wdI .i64 l9 fun y15 l13 =>
  wdI .i64 l13 fun y19 l17 =>
  wdI .i64 l17 fun y23 l21 =>
  wn l21 <|
  wn l6 <|
  (ob (F129 u y3 y11 y15 y19 y23) fun t => K [.v (.b t)])
 nat := fun args {ρ} K => by
  simp only [bind_wagg,bind_wc,bind_wdI,bind_wdS,bind_wn,bind_wrow,bind_ob,Option.bind_some]
theorem d129 : DO (O129 u) (C58 u) 14 A14 := by
 intro P hmix hC hF args res h
 obtain ⟨a1,l2,rfl,z0⟩ := inv_wc h
 obtain ⟨y3,h4,z1⟩ := inv_wrow z0
 obtain ⟨a5,l6,rfl,z2⟩ := inv_wc z1
 obtain ⟨l7,rfl,z3⟩ := inv_wagg z2
 obtain ⟨a8,y11,l9,rfl,h10,z4⟩ := inv_wdS z3
 obtain ⟨a12,y15,l13,rfl,h14,z5⟩ := inv_wdI z4
 obtain ⟨a16,y19,l17,rfl,h18,z6⟩ := inv_wdI z5
 obtain ⟨a20,y23,l21,rfl,h22,z7⟩ := inv_wdI z6
 obtain ⟨hn,z8⟩ := inv_wn z7
 cases hn
 obtain ⟨hn,z9⟩ := inv_wn z8
 cases hn
 exact Den.weaken (.cons h4 (.cons (WkA.agg (.cons h10 (.cons h14 (.cons h18 (.cons h22 .nil))))) .nil)) (evalF_sound hmix hC hF ((e129 u y3 y11 y15 y19 y23).trans z9))
def C59 : Oracle := (C58 u).add 14 (fun _ => true) (O129 100)
def A9v1 : AC := (.region 9 [o1 35 (bk .add 3 23 1),mv 23 35] 0 none)
def A9v2 : AC := (.seq (.block 3
 (.seq (.region 6 [o1 25 (.indexAddr 33 51 4 (tm 21) (tm 23)),o1 26 (ln 51 4 25),o1 10 (.alloc 0 51 [vcs ByteArray.empty,vci 0,vci 0,vci 0]),o0 (.store 51 4 (tm 10) (tm 26))] 1 none) []
  (.seq (.region 7 [o1 27 (ln 46 18 8),o1 28 (ln 51 4 10),o1 29 (cs 14 [27,28] [46,51]),o1 30 (.unOp .not 4 (tm 29))] 0 none) []
  (.cond (tm 30)
  (.region 8 [mv 31 6,o1 32 (ln 51 4 10),o1 33 (.buildSlice 0 33 51 (.pr .str kV) 1 [vcs ByteArray.empty,vci 0,vci 0,vci 0] [(0,(tm 32))]),o1 34 (.append 1 33 51 (.pr .str kV) 40 (tm 31) (tm 33)),o1 6 (sg 34)] 2 none)
  .skip)))) (10 :: (rl 25 10 []))
 A9v1)
def A9v3 : AC := (.seq (.region 5 [o1 24 (bt .lss 3 23 22)] 0 none) []
 (.seq (.cond (tm 24)
 .skip
 (.exit 2 (0 :: 3 :: 4 :: 5 :: (rl 7 5 (rl 15 23 []))))) []
 A9v2))
def A9v4 : AC := (.region 10 [o1 36 (bk .add 3 14 1),mv 14 36] 0 none)
def A9v5 : AC := (.seq (.block 1
 (.seq (.region 3 [o1 16 (.indexAddr 23 46 18 (tm 12) (tm 14)),o1 17 (ln 46 18 16),o1 8 (.alloc 0 46 [vcs ByteArray.empty,vci 0,vci 0,vcs ByteArray.empty,vcs ByteArray.empty,vci 0,vcn,vcn,vcs ByteArray.empty,vci 0,vci 0,vci 0,vci 0,vci 0,vci 0,vci 0,vci 0,vci 0]),o0 (.store 46 18 (tm 8) (tm 17))] 1 none) []
  (.seq (.region 4 [o1 18 (ln 46 18 8),mv 19 1,mv 20 2,o1 21 (cf 13 [18,19,20] [46,29,3]),o1 22 (.len 33 false (tm 21)),o1 23 (.move (ic 0))] 0 none) []
  (.block 2
  (.loop [.slot 6 (.pr .str kV)] (0 :: 3 :: 4 :: 5 :: 7 :: 9 :: 10 :: 11 :: (rl 15 6 (rl 24 14 [])))
   A9v3))))) (8 :: 10 :: (rl 16 20 []))
 A9v4)
def A9v6 : AC := (.seq (.region 2 [o1 15 (bt .lss 3 14 13)] 0 none) []
 (.seq (.cond (tm 15)
 .skip
 (.exit 0 (rl 0 6 (rl 7 31 [])))) []
 A9v5))
def A9v7 : AC := (.seq (.region 11 [mv 37 6,o1 6 (sg 37)] 0 none) []
 (.ret (rl 0 6 (rl 7 31 []))))
def A9 : AF := ⟨38,[.tmp 6],
 (.seq (.region 0 [o1 3 (bx 0 28 0),o1 6 (.assign (.const (.slice none 0 0)))] 1 none) []
 (.seq (.seq (.region 1 [o1 11 (fa 28 3 2 2),o1 12 (lo 23 11),o1 13 (.len 23 false (tm 12)),o1 14 (.move (ic 0))] 0 none) []
 (.block 0
 (.loop [.slot 6 (.pr .str kV)] (0 :: 3 :: 4 :: 5 :: (rl 7 5 (rl 15 23 [])))
  A9v6))) (8 :: (rl 10 27 []))
 A9v7))⟩
def B130v2 (C : Oracle) (u : Nat) : St → (Ex → St → Option ρ) → Option ρ := fun st k => evalC C u A9v3 st k
def N130v2 : St → Option St := fun s => s.norm (0 :: 3 :: 4 :: 5 :: 7 :: 9 :: 10 :: 11 :: (rl 15 6 (rl 24 14 []))) 3
def s130v0 (x0 : Nat) (x1 : FF) (x2 : Int) (x3 x4 : Nat) (x5 : FF) (x6 x7 : Int) (x8 : Nat) (x9 : FF) (xA xB : Int) (xC : ByteArray) (xD : Nat) (xE : FF) (xF : Nat) (xG : FF) (xH : Nat) (xI : FF) (xJ : Nat) (xK xL : FF) (xM : ByteArray) (xN xO : Int) (xP xQ : ByteArray) (xR : Int) (xS : Nat) (xT : FF) (xU : Nat) (xV : FF) (xW : ByteArray) (xX xY xZ xa xb xc xd xe xf : Int) : St := ⟨(.u :: .x (.c (ro kV x0 x1)) :: vxi x2 :: (us 3 (.x (.own 1 0 x3) :: .u :: .x (.ptr 2 0) :: (us 3 (.x (.c (ro kA x4 x5)) :: vxi x6 :: vxi x7 :: (us 6 (.x (.c (ro (.pr .str kV) x8 x9)) :: vxi xA :: vxi xB :: (us 14 [])))))))),[.box [(vcs xC),(.c (ro kC xD xE)),(.c (ro kA x4 x5)),(.c (ro kF xF xG)),(.c (ro kB xH xI)),(.c (ro kD xJ xK))],.arr (.pr .str kV) x3 xL,.box [(vcs xM),(vci xN),(vci xO),(vcs xP),(vcs xQ),(vci xR),(.c (ro kP xS xT)),(.c (ro (.pr (.sl kP) .nil) xU xV)),(vcs xW),(vci xX),(vci xY),(vci xZ),(vci xa),(vci xb),(vci xc),(vci xd),(vci xe),(vci xf)]]⟩
def s130v1 (x0 : Nat) (x1 : FF) (x2 : Int) (x3 x4 : Nat) (x5 : FF) (x6 x7 : Int) (x8 : ByteArray) (x9 : Nat) (xA : FF) (xB : Nat) (xC : FF) (xD : Nat) (xE : FF) (xF : Nat) (xG xH : FF) (xI : ByteArray) (xJ xK : Int) (xL xM : ByteArray) (xN : Int) (xO : Nat) (xP : FF) (xQ : Nat) (xR : FF) (xS : ByteArray) (xT xU xV xW xX xY xZ xa xb : Int) : St := ⟨(.u :: .x (.c (ro kV x0 x1)) :: vxi x2 :: (us 3 (.x (.own 1 0 x3) :: (us 5 (.x (.c (ro kA x4 x5)) :: vxi x6 :: vxi x7 :: (us 23 [])))))),[.box [(vcs x8),(.c (ro kC x9 xA)),(.c (ro kA x4 x5)),(.c (ro kF xB xC)),(.c (ro kB xD xE)),(.c (ro kD xF xG))],.arr (.pr .str kV) x3 xH,.box [(vcs xI),(vci xJ),(vci xK),(vcs xL),(vcs xM),(vci xN),(.c (ro kP xO xP)),(.c (ro (.pr (.sl kP) .nil) xQ xR)),(vcs xS),(vci xT),(vci xU),(vci xV),(vci xW),(vci xX),(vci xY),(vci xZ),(vci xa),(vci xb)]]⟩
def L130v2 {ρ : Type} (u : Nat) (x0 : Nat) (x1 : FF) (x2 : Int) (x3 : Nat) (x4 : FF) (x5 x6 : Int) (x7 : Nat) (x8 : FF) (x9 : Int) (xA : ByteArray) (xB : Nat) (xC : FF) (xD : Nat) (xE : FF) (xF : Nat) (xG : FF) (xH : Nat) (xI : FF) (xJ : ByteArray) (xK xL : Int) (xM xN : ByteArray) (xO : Int) (xP : Nat) (xQ : FF) (xR : Nat) (xS : FF) (xT : ByteArray) (xU xV xW xX xY xZ xa xb xc : Int) : Nat → Nat → Int → FF → (Nat → FF → Option ρ) → Option ρ
 | 0,_,_,_,_ => none
 | m + 1,xd,xe,xf,k0 =>
  (bif (decide (xe < x9)) then (bif (inb xe x7) then (ob (F129 100 (listF [(.s xJ),(.i .i64 xK),(.i .i64 xL),(.s xM),(.s xN),(.i .i64 xO),(.ro false (.pr (.int .i64) (.pr (.int .i64) .nil)) xP xQ),(.ro false (.pr (.sl (.pr (.int .i64) (.pr (.int .i64) .nil))) .nil) xR xS),(.s xT),(.i .i64 xU),(.i .i64 xV),(.i .i64 xW),(.i .i64 xX),(.i .i64 xY),(.i .i64 xZ),(.i .i64 xa),(.i .i64 xb),(.i .i64 xc)]) (x8 xe.toNat 0).str (x8 xe.toNat 1).int (x8 xe.toNat 2).int (x8 xe.toNat 3).int) fun xg => (bif (!xg) then (bif (Nat.ble (xd + 1) 1073741824) then (L130v2 u x0 x1 x2 x3 x4 x5 x6 x7 x8 x9 xA xB xC xD xE xF xG xH xI xJ xK xL xM xN xO xP xQ xR xS xT xU xV xW xX xY xZ xa xb xc m (xd + 1) (w64 (xe + 1)) (joinF xd xf (rowsF 4 [(.s (x8 xe.toNat 0).str),(.i .i64 (x8 xe.toNat 1).int),(.i .i64 (x8 xe.toNat 2).int),(.i .i64 (x8 xe.toNat 3).int)])) k0) else none) else (L130v2 u x0 x1 x2 x3 x4 x5 x6 x7 x8 x9 xA xB xC xD xE xF xG xH xI xJ xK xL xM xN xO xP xQ xR xS xT xU xV xW xX xY xZ xa xb xc m xd (w64 (xe + 1)) xf k0))) else none) else (k0 xd xf))
theorem nl130v2 {ρ σ : Type} (u : Nat) (x0 : Nat) (x1 : FF) (x2 : Int) (x3 : Nat) (x4 : FF) (x5 x6 : Int) (x7 : Nat) (x8 : FF) (x9 : Int) (xA : ByteArray) (xB : Nat) (xC : FF) (xD : Nat) (xE : FF) (xF : Nat) (xG : FF) (xH : Nat) (xI : FF) (xJ : ByteArray) (xK xL : Int) (xM xN : ByteArray) (xO : Int) (xP : Nat) (xQ : FF) (xR : Nat) (xS : FF) (xT : ByteArray) (xU xV xW xX xY xZ xa xb xc : Int) (g : ρ → Option σ) : ∀ (m : Nat) (xd : Nat) (xe : Int) (xf : FF) (k0 : Nat → FF → Option ρ),ob (L130v2 u x0 x1 x2 x3 x4 x5 x6 x7 x8 x9 xA xB xC xD xE xF xG xH xI xJ xK xL xM xN xO xP xQ xR xS xT xU xV xW xX xY xZ xa xb xc m xd xe xf k0) g = L130v2 u x0 x1 x2 x3 x4 x5 x6 x7 x8 x9 xA xB xC xD xE xF xG xH xI xJ xK xL xM xN xO xP xQ xR xS xT xU xV xW xX xY xZ xa xb xc m xd xe xf (fun xg xh => ob (k0 xg xh) g)
 | 0,_,_,_,_ => rfl
 | m + 1,xd,xe,xf,k0 => by
  simp only [L130v2,ob_bif,ob_ob,ob_none,nl130v2 u x0 x1 x2 x3 x4 x5 x6 x7 x8 x9 xA xB xC xD xE xF xG xH xI xJ xK xL xM xN xO xP xQ xR xS xT xU xV xW xX xY xZ xa xb xc g m]
theorem r130v2 (m : Nat) (k : Ex → St → Option ρ) (x0 : Nat) (x1 : FF) (x2 : Int) (x3 : Nat) (x4 : FF) (x5 x6 : Int) (x7 : Nat) (x8 : FF) (x9 : Int) (xA : ByteArray) (xB : Nat) (xC : FF) (xD : Nat) (xE : FF) (xF : Nat) (xG : FF) (xH : Nat) (xI : FF) (xJ : ByteArray) (xK xL : Int) (xM xN : ByteArray) (xO : Int) (xP : Nat) (xQ : FF) (xR : Nat) (xS : FF) (xT : ByteArray) (xU xV xW xX xY xZ xa xb xc : Int) (xd : Nat) (xe : Int) (xf : FF) :
  loopH (B130v2 (C59 u) u) N130v2 (m + 1) (s130v0 x0 x1 x2 xd x3 x4 x5 x6 x7 x8 x9 xe xA xB xC xD xE xF xG xH xI xf xJ xK xL xM xN xO xP xQ xR xS xT xU xV xW xX xY xZ xa xb xc) k =
  (bif (decide (xe < x9)) then (bif (inb xe x7) then (ob (F129 100 (listF [(.s xJ),(vi xK),(vi xL),(.s xM),(.s xN),(vi xO),(ro kP xP xQ),(ro (.pr (.sl kP) .nil) xR xS),(.s xT),(vi xU),(vi xV),(vi xW),(vi xX),(vi xY),(vi xZ),(vi xa),(vi xb),(vi xc)]) (x8 xe.toNat 0).str (x8 xe.toNat 1).int (x8 xe.toNat 2).int (x8 xe.toNat 3).int) fun xg => (bif (!xg) then (bif (Nat.ble (xd + 1) 1073741824) then (loopH (B130v2 (C59 u) u) N130v2 m (s130v0 x0 x1 x2 (xd + 1) x3 x4 x5 x6 x7 x8 x9 (w64 (xe + 1)) xA xB xC xD xE xF xG xH xI (joinF xd xf (rowsF 4 [(.s (x8 xe.toNat 0).str),(vi (x8 xe.toNat 1).int),(vi (x8 xe.toNat 2).int),(vi (x8 xe.toNat 3).int)])) xJ xK xL xM xN xO xP xQ xR xS xT xU xV xW xX xY xZ xa xb xc) k) else none) else (loopH (B130v2 (C59 u) u) N130v2 m (s130v0 x0 x1 x2 xd x3 x4 x5 x6 x7 x8 x9 (w64 (xe + 1)) xA xB xC xD xE xF xG xH xI xf xJ xK xL xM xN xO xP xQ xR xS xT xU xV xW xX xY xZ xa xb xc) k))) else none) else (k (.exit 2) (s130v1 x0 x1 x2 xd x3 x4 x5 x6 xA xB xC xD xE xF xG xH xI xf xJ xK xL xM xN xO xP xQ xR xS xT xU xV xW xX xY xZ xa xb xc))) := by kernel_rfl
theorem q130v2 (u : Nat) (x0 : Nat) (x1 : FF) (x2 : Int) (x3 : Nat) (x4 : FF) (x5 x6 : Int) (x7 : Nat) (x8 : FF) (x9 : Int) (xA : ByteArray) (xB : Nat) (xC : FF) (xD : Nat) (xE : FF) (xF : Nat) (xG : FF) (xH : Nat) (xI : FF) (xJ : ByteArray) (xK xL : Int) (xM xN : ByteArray) (xO : Int) (xP : Nat) (xQ : FF) (xR : Nat) (xS : FF) (xT : ByteArray) (xU xV xW xX xY xZ xa xb xc : Int) {ρ : Type} (k : Ex → St → Option ρ) : ∀ (m : Nat) (xd : Nat) (xe : Int) (xf : FF),
  loopH (B130v2 (C59 u) u) N130v2 m (s130v0 x0 x1 x2 xd x3 x4 x5 x6 x7 x8 x9 xe xA xB xC xD xE xF xG xH xI xf xJ xK xL xM xN xO xP xQ xR xS xT xU xV xW xX xY xZ xa xb xc) k = L130v2 u x0 x1 x2 x3 x4 x5 x6 x7 x8 x9 xA xB xC xD xE xF xG xH xI xJ xK xL xM xN xO xP xQ xR xS xT xU xV xW xX xY xZ xa xb xc m xd xe xf (fun xg xh => k (.exit 2) (s130v1 x0 x1 x2 xg x3 x4 x5 x6 xA xB xC xD xE xF xG xH xI xh xJ xK xL xM xN xO xP xQ xR xS xT xU xV xW xX xY xZ xa xb xc))
 | 0,_,_,_ => rfl
 | m + 1,xd,xe,xf => by
  rw [r130v2]
  simp only [L130v2,q130v2 u x0 x1 x2 x3 x4 x5 x6 x7 x8 x9 xA xB xC xD xE xF xG xH xI xJ xK xL xM xN xO xP xQ xR xS xT xU xV xW xX xY xZ xa xb xc k m]
def B130v3 (C : Oracle) (u : Nat) : St → (Ex → St → Option ρ) → Option ρ := fun st k => evalC C u A9v6 st k
def N130v3 : St → Option St := fun s => s.norm (0 :: 3 :: 4 :: 5 :: (rl 7 5 (rl 15 23 []))) 2
def s130v2 (x0 : Nat) (x1 : FF) (x2 : Int) (x3 x4 : Nat) (x5 : FF) (x6 x7 : Int) (x8 : ByteArray) (x9 : Nat) (xA : FF) (xB : Nat) (xC : FF) (xD : Nat) (xE : FF) (xF : Nat) (xG xH : FF) : St := ⟨(.u :: .x (.c (ro kV x0 x1)) :: vxi x2 :: (us 3 (.x (.own 1 0 x3) :: (us 5 (.x (.c (ro kA x4 x5)) :: vxi x6 :: vxi x7 :: (us 23 [])))))),[.box [(vcs x8),(.c (ro kC x9 xA)),(.c (ro kA x4 x5)),(.c (ro kF xB xC)),(.c (ro kB xD xE)),(.c (ro kD xF xG))],.arr (.pr .str kV) x3 xH]⟩
def s130v3 (x0 : Nat) (x1 : ByteArray) (x2 : Nat) (x3 : FF) (x4 : Nat) (x5 : FF) (x6 : Nat) (x7 : FF) (x8 : Nat) (x9 : FF) (xA : Nat) (xB xC : FF) : St := ⟨(us 6 (.x (.own 1 0 x0) :: (us 31 []))),[.box [(vcs x1),(.c (ro kC x2 x3)),(.c (ro kA x4 x5)),(.c (ro kF x6 x7)),(.c (ro kB x8 x9)),(.c (ro kD xA xB))],.arr (.pr .str kV) x0 xC]⟩
def L130v3 {ρ : Type} (u : Nat) (x0 : Nat) (x1 : FF) (x2 : Int) (x3 : Nat) (x4 : FF) (x5 : Int) (x6 : ByteArray) (x7 : Nat) (x8 : FF) (x9 : Nat) (xA : FF) (xB : Nat) (xC : FF) (xD : Nat) (xE : FF) : Nat → Nat → Int → FF → (Nat → FF → Option ρ) → Option ρ
 | 0,_,_,_,_ => none
 | m + 1,xF,xG,xH,k0 =>
  (bif (decide (xG < x5)) then (bif (inb xG x3) then (ob (F121 100 (listF (pj kR0 (x4 xG.toNat))) x0 x1 x2) fun xI => (L130v2 u x0 x1 x2 x3 x4 x5 xG xI.1 xI.2 (Int.ofNat xI.1) x6 x7 x8 x9 xA xB xC xD xE (x4 xG.toNat 0).str (x4 xG.toNat 1).int (x4 xG.toNat 2).int (x4 xG.toNat 3).str (x4 xG.toNat 4).str (x4 xG.toNat 5).int (x4 xG.toNat 6).len (x4 xG.toNat 6).el (x4 xG.toNat 7).len (x4 xG.toNat 7).el (x4 xG.toNat 8).str (x4 xG.toNat 9).int (x4 xG.toNat 10).int (x4 xG.toNat 11).int (x4 xG.toNat 12).int (x4 xG.toNat 13).int (x4 xG.toNat 14).int (x4 xG.toNat 15).int (x4 xG.toNat 16).int (x4 xG.toNat 17).int u xF 0 xH
  (fun xJ xK => (L130v3 u x0 x1 x2 x3 x4 x5 x6 x7 x8 x9 xA xB xC xD xE m xJ (w64 (xG + 1)) xK k0)))) else none) else (k0 xF xH))
theorem nl130v3 {ρ σ : Type} (u : Nat) (x0 : Nat) (x1 : FF) (x2 : Int) (x3 : Nat) (x4 : FF) (x5 : Int) (x6 : ByteArray) (x7 : Nat) (x8 : FF) (x9 : Nat) (xA : FF) (xB : Nat) (xC : FF) (xD : Nat) (xE : FF) (g : ρ → Option σ) : ∀ (m : Nat) (xF : Nat) (xG : Int) (xH : FF) (k0 : Nat → FF → Option ρ),ob (L130v3 u x0 x1 x2 x3 x4 x5 x6 x7 x8 x9 xA xB xC xD xE m xF xG xH k0) g = L130v3 u x0 x1 x2 x3 x4 x5 x6 x7 x8 x9 xA xB xC xD xE m xF xG xH (fun xI xJ => ob (k0 xI xJ) g)
 | 0,_,_,_,_ => rfl
 | m + 1,xF,xG,xH,k0 => by
  simp only [L130v3,ob_bif,ob_ob,ob_none,nl130v3 u x0 x1 x2 x3 x4 x5 x6 x7 x8 x9 xA xB xC xD xE g m,nl130v2]
def s130v4 (x0 : Nat) (x1 : FF) (x2 : Int) (x3 x4 : Nat) (x5 : FF) (x6 x7 : Int) (x8 : Nat × FF) (x9 : ByteArray) (xA : Nat) (xB : FF) (xC : Nat) (xD : FF) (xE : Nat) (xF : FF) (xG : Nat) (xH xI : FF) : St := ⟨(.u :: .x (.c (ro kV x0 x1)) :: vxi x2 :: (us 3 (.x (.own 1 0 x3) :: .u :: .x (.ptr 2 0) :: (us 3 (.x (.c (ro kA x4 x5)) :: vxi x6 :: vxi x7 :: vxb true :: .x (.c (.rp kA (x5 x7.toNat))) :: .agg (pjc kR0 (x5 x7.toNat)) :: .agg (pjc kR0 (x5 x7.toNat)) :: .x (.c (ro kV x0 x1)) :: vxi x2 :: .x (.c (ro (.pr .str kV) x8.1 x8.2)) :: vxi (Int.ofNat x8.1) :: vxi 0 :: (us 14 [])))))),[.box [(vcs x9),(.c (ro kC xA xB)),(.c (ro kA x4 x5)),(.c (ro kF xC xD)),(.c (ro kB xE xF)),(.c (ro kD xG xH))],.arr (.pr .str kV) x3 xI,.box (pjc kR0 (x5 x7.toNat))]⟩
theorem r130v3 (m : Nat) (k : Ex → St → Option ρ) (x0 : Nat) (x1 : FF) (x2 : Int) (x3 : Nat) (x4 : FF) (x5 : Int) (x6 : ByteArray) (x7 : Nat) (x8 : FF) (x9 : Nat) (xA : FF) (xB : Nat) (xC : FF) (xD : Nat) (xE : FF) (xF : Nat) (xG : Int) (xH : FF) :
  loopH (B130v3 (C59 u) u) N130v3 (m + 1) (s130v2 x0 x1 x2 xF x3 x4 x5 xG x6 x7 x8 x9 xA xB xC xD xE xH) k =
  (bif (decide (xG < x5)) then (bif (inb xG x3) then (ob (F121 100 (listF (pj kR0 (x4 xG.toNat))) x0 x1 x2) fun xI => (loopN (B130v2 (C59 u) u) N130v2 u (s130v4 x0 x1 x2 xF x3 x4 x5 xG xI x6 x7 x8 x9 xA xB xC xD xE xH) (kBlk 2 (kBlk 1 (kSeq (C59 u) u (8 :: 10 :: (rl 16 20 [])) A9v4 (kLoop (B130v3 (C59 u) u) N130v3 m k)))))) else none) else (k (.exit 0) (s130v3 xF x6 x7 x8 x3 x4 x9 xA xB xC xD xE xH))) := by kernel_rfl
theorem t130v1 (k : Ex → St → Option ρ) (x0 : Nat) (x1 : FF) (x2 : Int) (x3 x4 : Nat) (x5 : FF) (x6 x7 : Int) (x8 : Nat × FF) (x9 : ByteArray) (xA : Nat) (xB : FF) (xC : Nat) (xD : FF) (xE : Nat) (xF : FF) (xG : Nat) (xH xI : FF) :
  loopN (B130v2 (C59 u) u) N130v2 u (s130v4 x0 x1 x2 x3 x4 x5 x6 x7 x8 x9 xA xB xC xD xE xF xG xH xI) k =
  L130v2 u x0 x1 x2 x4 x5 x6 x7 x8.1 x8.2 (Int.ofNat x8.1) x9 xA xB xC xD xE xF xG xH (x5 x7.toNat 0).str (x5 x7.toNat 1).int (x5 x7.toNat 2).int (x5 x7.toNat 3).str (x5 x7.toNat 4).str (x5 x7.toNat 5).int (x5 x7.toNat 6).len (x5 x7.toNat 6).el (x5 x7.toNat 7).len (x5 x7.toNat 7).el (x5 x7.toNat 8).str (x5 x7.toNat 9).int (x5 x7.toNat 10).int (x5 x7.toNat 11).int (x5 x7.toNat 12).int (x5 x7.toNat 13).int (x5 x7.toNat 14).int (x5 x7.toNat 15).int (x5 x7.toNat 16).int (x5 x7.toNat 17).int u x3 0 xI (fun xJ xK => k (.exit 2) (s130v1 x0 x1 x2 xJ x4 x5 x6 x7 x9 xA xB xC xD xE xF xG xH xK (x5 x7.toNat 0).str (x5 x7.toNat 1).int (x5 x7.toNat 2).int (x5 x7.toNat 3).str (x5 x7.toNat 4).str (x5 x7.toNat 5).int (x5 x7.toNat 6).len (x5 x7.toNat 6).el (x5 x7.toNat 7).len (x5 x7.toNat 7).el (x5 x7.toNat 8).str (x5 x7.toNat 9).int (x5 x7.toNat 10).int (x5 x7.toNat 11).int (x5 x7.toNat 12).int (x5 x7.toNat 13).int (x5 x7.toNat 14).int (x5 x7.toNat 15).int (x5 x7.toNat 16).int (x5 x7.toNat 17).int)) :=
 (loopN_at (st' := (s130v0 x0 x1 x2 x3 x4 x5 x6 x7 x8.1 x8.2 (Int.ofNat x8.1) 0 x9 xA xB xC xD xE xF xG xH xI (x5 x7.toNat 0).str (x5 x7.toNat 1).int (x5 x7.toNat 2).int (x5 x7.toNat 3).str (x5 x7.toNat 4).str (x5 x7.toNat 5).int (x5 x7.toNat 6).len (x5 x7.toNat 6).el (x5 x7.toNat 7).len (x5 x7.toNat 7).el (x5 x7.toNat 8).str (x5 x7.toNat 9).int (x5 x7.toNat 10).int (x5 x7.toNat 11).int (x5 x7.toNat 12).int (x5 x7.toNat 13).int (x5 x7.toNat 14).int (x5 x7.toNat 15).int (x5 x7.toNat 16).int (x5 x7.toNat 17).int)) (by kernel_rfl)).trans (q130v2 u x0 x1 x2 x4 x5 x6 x7 x8.1 x8.2 (Int.ofNat x8.1) x9 xA xB xC xD xE xF xG xH (x5 x7.toNat 0).str (x5 x7.toNat 1).int (x5 x7.toNat 2).int (x5 x7.toNat 3).str (x5 x7.toNat 4).str (x5 x7.toNat 5).int (x5 x7.toNat 6).len (x5 x7.toNat 6).el (x5 x7.toNat 7).len (x5 x7.toNat 7).el (x5 x7.toNat 8).str (x5 x7.toNat 9).int (x5 x7.toNat 10).int (x5 x7.toNat 11).int (x5 x7.toNat 12).int (x5 x7.toNat 13).int (x5 x7.toNat 14).int (x5 x7.toNat 15).int (x5 x7.toNat 16).int (x5 x7.toNat 17).int k u x3 0 xI)
theorem g130v2 (m : Nat) (k : Ex → St → Option ρ) (x0 : Nat) (x1 : FF) (x2 : Int) (x3 x4 : Nat) (x5 : FF) (x6 x7 : Int) (x8 : ByteArray) (x9 : Nat) (xA : FF) (xB : Nat) (xC : FF) (xD : Nat) (xE : FF) (xF : Nat) (xG xH : FF) :
  (kBlk 2 (kBlk 1 (kSeq (C59 u) u (8 :: 10 :: (rl 16 20 [])) A9v4 (kLoop (B130v3 (C59 u) u) N130v3 m k)))) (.exit 2) (s130v1 x0 x1 x2 x3 x4 x5 x6 x7 x8 x9 xA xB xC xD xE xF xG xH (x5 x7.toNat 0).str (x5 x7.toNat 1).int (x5 x7.toNat 2).int (x5 x7.toNat 3).str (x5 x7.toNat 4).str (x5 x7.toNat 5).int (x5 x7.toNat 6).len (x5 x7.toNat 6).el (x5 x7.toNat 7).len (x5 x7.toNat 7).el (x5 x7.toNat 8).str (x5 x7.toNat 9).int (x5 x7.toNat 10).int (x5 x7.toNat 11).int (x5 x7.toNat 12).int (x5 x7.toNat 13).int (x5 x7.toNat 14).int (x5 x7.toNat 15).int (x5 x7.toNat 16).int (x5 x7.toNat 17).int) =
  (loopH (B130v3 (C59 u) u) N130v3 m (s130v2 x0 x1 x2 x3 x4 x5 x6 (w64 (x7 + 1)) x8 x9 xA xB xC xD xE xF xG xH) k) := by kernel_rfl
theorem q130v3 (u : Nat) (x0 : Nat) (x1 : FF) (x2 : Int) (x3 : Nat) (x4 : FF) (x5 : Int) (x6 : ByteArray) (x7 : Nat) (x8 : FF) (x9 : Nat) (xA : FF) (xB : Nat) (xC : FF) (xD : Nat) (xE : FF) {ρ : Type} (k : Ex → St → Option ρ) : ∀ (m : Nat) (xF : Nat) (xG : Int) (xH : FF),
  loopH (B130v3 (C59 u) u) N130v3 m (s130v2 x0 x1 x2 xF x3 x4 x5 xG x6 x7 x8 x9 xA xB xC xD xE xH) k = L130v3 u x0 x1 x2 x3 x4 x5 x6 x7 x8 x9 xA xB xC xD xE m xF xG xH (fun xI xJ => k (.exit 0) (s130v3 xI x6 x7 x8 x3 x4 x9 xA xB xC xD xE xJ))
 | 0,_,_,_ => rfl
 | m + 1,xF,xG,xH => by
  rw [r130v3]
  simp only [L130v3,q130v3 u x0 x1 x2 x3 x4 x5 x6 x7 x8 x9 xA xB xC xD xE k m,t130v1,g130v2]
def D130 (x0 : ByteArray) (x1 : Nat) (x2 : FF) (x3 : Nat) (x4 : FF) (x5 : Nat) (x6 : FF) (x7 : Nat) (x8 : FF) (x9 : Nat) (xA : FF) (xB : Nat) (xC : FF) (xD : Int) (k : (Nat × FF) → Option ρ) : Option ρ :=
 (L130v3 u xB xC xD x3 x4 (Int.ofNat x3) x0 x1 x2 x5 x6 x7 x8 x9 xA u 0 0 (fun _ _ => .any)
  (fun xE xF => (k (xE,xF))))
def F130 (x0 : ByteArray) (x1 : Nat) (x2 : FF) (x3 : Nat) (x4 : FF) (x5 : Nat) (x6 : FF) (x7 : Nat) (x8 : FF) (x9 : Nat) (xA : FF) (xB : Nat) (xC : FF) (xD : Int) : Option (Nat × FF) := D130 u x0 x1 x2 x3 x4 x5 x6 x7 x8 x9 xA xB xC xD some
theorem f130 (x0 : ByteArray) (x1 : Nat) (x2 : FF) (x3 : Nat) (x4 : FF) (x5 : Nat) (x6 : FF) (x7 : Nat) (x8 : FF) (x9 : Nat) (xA : FF) (xB : Nat) (xC : FF) (xD : Int) (k : (Nat × FF) → Option ρ) : D130 u x0 x1 x2 x3 x4 x5 x6 x7 x8 x9 xA xB xC xD k = ob (F130 u x0 x1 x2 x3 x4 x5 x6 x7 x8 x9 xA xB xC xD) k := by
 simp only [F130,D130,ob_bif,ob_ob,ob_none,ob_some,nl130v3]
def s130v5 (x0 : ByteArray) (x1 : Nat) (x2 : FF) (x3 : Nat) (x4 : FF) (x5 : Nat) (x6 : FF) (x7 : Nat) (x8 : FF) (x9 : Nat) (xA : FF) (xB : Nat) (xC : FF) (xD : Int) : St := ⟨[.agg [(vcs x0),(.c (ro kC x1 x2)),(.c (ro kA x3 x4)),(.c (ro kF x5 x6)),(.c (ro kB x7 x8)),(.c (ro kD x9 xA))],.x (.c (ro kV xB xC)),vxi xD,.x (.ptr 0 0),uu,uu,.x (.own 1 0 0),uu,uu,uu,uu,.x (.ptr 0 2),.x (.c (ro kA x3 x4)),vxi (Int.ofNat x3),vxi 0,uu,uu,uu,uu,uu,uu,uu,uu,uu,uu,uu,uu,uu,uu,uu,uu,uu,uu,uu,uu,uu,uu,uu],[.box [(vcs x0),(.c (ro kC x1 x2)),(.c (ro kA x3 x4)),(.c (ro kF x5 x6)),(.c (ro kB x7 x8)),(.c (ro kD x9 xA))],.arr (.pr .str kV) 0 nilF]⟩
theorem t130v3 (k : Ex → St → Option ρ) (x0 : ByteArray) (x1 : Nat) (x2 : FF) (x3 : Nat) (x4 : FF) (x5 : Nat) (x6 : FF) (x7 : Nat) (x8 : FF) (x9 : Nat) (xA : FF) (xB : Nat) (xC : FF) (xD : Int) :
  loopN (B130v3 (C59 u) u) N130v3 u (s130v5 x0 x1 x2 x3 x4 x5 x6 x7 x8 x9 xA xB xC xD) k =
  L130v3 u xB xC xD x3 x4 (Int.ofNat x3) x0 x1 x2 x5 x6 x7 x8 x9 xA u 0 0 nilF (fun xE xF => k (.exit 0) (s130v3 xE x0 x1 x2 x3 x4 x5 x6 x7 x8 x9 xA xF)) :=
 (loopN_at (st' := (s130v2 xB xC xD 0 x3 x4 (Int.ofNat x3) 0 x0 x1 x2 x5 x6 x7 x8 x9 xA nilF)) (by kernel_rfl)).trans (q130v3 u xB xC xD x3 x4 (Int.ofNat x3) x0 x1 x2 x5 x6 x7 x8 x9 xA k u 0 0 nilF)
theorem g130v4 (x0 : Nat) (x1 : ByteArray) (x2 : Nat) (x3 : FF) (x4 : Nat) (x5 : FF) (x6 : Nat) (x7 : FF) (x8 : Nat) (x9 : FF) (xA : Nat) (xB xC : FF) :
  (kBlk 0 (kSeq (C59 u) u (8 :: (rl 10 27 [])) A9v7 (finish A9))) (.exit 0) (s130v3 x0 x1 x2 x3 x4 x5 x6 x7 x8 x9 xA xB xC) =
  (some [.v (ro (.pr .str kV) x0 xC)]) := by kernel_rfl
theorem e130 (x0 : ByteArray) (x1 : Nat) (x2 : FF) (x3 : Nat) (x4 : FF) (x5 : Nat) (x6 : FF) (x7 : Nat) (x8 : FF) (x9 : Nat) (xA : FF) (xB : Nat) (xC : FF) (xD : Int) : evalF (C59 u) u A9 [.agg [(.s x0),(ro kC x1 x2),(ro kA x3 x4),(ro kF x5 x6),(ro kB x7 x8),(ro kD x9 xA)],.v (ro kV xB xC),.v (vi xD)] = ob (F130 u x0 x1 x2 x3 x4 x5 x6 x7 x8 x9 xA xB xC xD) fun t => some [.v (ro (.pr .str kV) t.1 t.2)] := Eq.trans (b := (loopN (B130v3 (C59 u) u) N130v3 u (s130v5 x0 x1 x2 x3 x4 x5 x6 x7 x8 x9 xA xB xC xD) (kBlk 0 (kSeq (C59 u) u (8 :: (rl 10 27 [])) A9v7 (finish A9))))) (by kernel_rfl) (by
 rw [← f130]
 simp only [D130,t130v3,g130v4])
def O130 : Ora where
 o := fun args {ρ} K =>
  wc args fun a1 l2 =>
  wagg a1 fun l3 =>
  wdS l3 fun y7 l5 =>
  wdL kC l5 fun y11 y12 l9 =>
  wdL kA l9 fun y16 y17 l14 =>
  wdL kF l14 fun y21 y22 l19 =>
  wdL kB l19 fun y26 y27 l24 =>
  wdL kD l24 fun y31 y32 l29 =>
  wn l29 <|
  wcL kV l2 fun y36 y37 l34 =>
  wcI .i64 l34 fun y41 l39 =>
  wn l39 <|
  (ob (F130 u y7 y11 y12 y16 y17 y21 y22 y26 y27 y31 y32 y36 y37 y41) fun t => K [.v (ro (.pr .str kV) t.1 t.2)])
 nat := fun args {ρ} K => by
  simp only [bind_wagg,bind_wc,bind_wcI,bind_wcL,bind_wdL,bind_wdS,bind_wn,bind_ob,Option.bind_some]
theorem d130 : DO (O130 u) (C59 u) 9 A9 := by
 intro P hmix hC hF args res h
 obtain ⟨a1,l2,rfl,z0⟩ := inv_wc h
 obtain ⟨l3,rfl,z1⟩ := inv_wagg z0
 obtain ⟨a4,y7,l5,rfl,h6,z2⟩ := inv_wdS z1
 obtain ⟨a8,y11,y12,l9,rfl,h10,z3⟩ := inv_wdL z2
 obtain ⟨a13,y16,y17,l14,rfl,h15,z4⟩ := inv_wdL z3
 obtain ⟨a18,y21,y22,l19,rfl,h20,z5⟩ := inv_wdL z4
 obtain ⟨a23,y26,y27,l24,rfl,h25,z6⟩ := inv_wdL z5
 obtain ⟨a28,y31,y32,l29,rfl,h30,z7⟩ := inv_wdL z6
 obtain ⟨hn,z8⟩ := inv_wn z7
 cases hn
 obtain ⟨a33,y36,y37,l34,rfl,h35,z9⟩ := inv_wcL z8
 obtain ⟨a38,y41,l39,rfl,h40,z10⟩ := inv_wcI z9
 obtain ⟨hn,z11⟩ := inv_wn z10
 cases hn
 exact Den.weaken (.cons (WkA.agg (.cons h6 (.cons h10 (.cons h15 (.cons h20 (.cons h25 (.cons h30 .nil))))))) (.cons h35 (.cons h40 .nil))) (evalF_sound hmix hC hF ((e130 u y7 y11 y12 y16 y17 y21 y22 y26 y27 y31 y32 y36 y37 y41).trans z11))
def C60 : Oracle := (C59 u).add 9 (fun _ => true) (O130 100)
def A6v1 : AC := (.region 5 [mv 15 5,o1 16 (bk .add 3 15 1),o1 5 (sg 16)] 0 none)
def A6v2 : AC := (.seq (.block 1
 (.seq (.region 6 [mv 17 0,mv 18 5,o1 19 (.indexAddr 33 51 4 (tm 17) (tm 18)),o1 20 (ln 51 4 19),mv 21 1,mv 22 5,o1 23 (.indexAddr 33 51 4 (tm 21) (tm 22)),o1 24 (ln 51 4 23),o1 25 (.eqA true (.pr .str kV) 51 (tm 20) (tm 24) 51)] 0 (some [[],[],[0,1],[0,1,2],[],[],[4,5],[4,5,6],(rl 0 8 [])])) []
  (.cond (tm 25)
  (.seq (.region 7 [o1 4 (sb false)] 0 none) []
   (.ret (rl 0 4 (rl 5 21 []))))
  .skip))) (4 :: (rl 17 9 []))
 A6v1)
def A6v3 : AC := (.seq (.seq (.region 4 [mv 11 5,mv 12 0,o1 13 (.len 33 false (tm 12)),o1 14 (bt .lss 3 11 13)] 0 none) []
 (.cond (tm 14)
 .skip
 (.exit 0 (rl 0 26 [])))) (rl 11 4 [])
 A6v2)
def A6v4 : AC := (.seq (.region 8 [o1 4 (sb true)] 0 none) []
 (.ret (rl 0 4 (rl 5 21 []))))
def A6v5 : AC := (.seq (.seq (.region 3 [o1 5 (sk 0)] 0 none) []
 (.block 0
 (.loop [] (2 :: 3 :: 4 :: (rl 6 20 []))
  A6v3))) (4 :: 5 :: (rl 11 15 []))
 A6v4)
def A6 : AF := ⟨26,[.tmp 4],
 (.seq (.region 0 [o1 4 (sb false)] 0 none) []
 (.seq (.seq (.region 1 [mv 6 0,o1 7 (.len 33 false (tm 6)),mv 8 1,o1 9 (.len 33 false (tm 8)),o1 10 (bt .neq 3 7 9)] 0 none) []
 (.cond (tm 10)
 (.seq (.region 2 [o1 4 (sb false)] 0 none) []
  (.ret (rl 0 4 (rl 5 21 []))))
 .skip)) (4 :: (rl 6 5 []))
 A6v5))⟩
def B131v1 (C : Oracle) (u : Nat) : St → (Ex → St → Option ρ) → Option ρ := fun st k => evalC C u A6v3 st k
def N131v1 : St → Option St := fun s => s.norm (2 :: 3 :: 4 :: (rl 6 20 [])) 0
def s131v0 (x0 : Nat) (x1 : FF) (x2 : Nat) (x3 : FF) (x4 : Int) : St := ⟨(.x (.c (ro (.pr .str kV) x0 x1)) :: .x (.c (ro (.pr .str kV) x2 x3)) :: (us 3 (vxi x4 :: (us 20 [])))),[]⟩
def s131v1 : St := ⟨(us 4 (vxb false :: (us 21 []))),[]⟩
def s131v2 : St := ⟨(us 26 []),[]⟩
def L131v1 {ρ : Type} (u : Nat) (x0 : Nat) (x1 : FF) (x2 : Nat) (x3 : FF) : Nat → Int → (Option ρ) → (Option ρ) → Option ρ
 | 0,_,_,_ => none
 | m + 1,x4,k0,k1 =>
  (bif (decide (x4 < (Int.ofNat x0))) then (bif (inb x4 x0) then (bif (inb x4 x2) then (bif (!((ByteArray.toList (x1 x4.toNat 0).str == ByteArray.toList (x3 x4.toNat 0).str) && (((x1 x4.toNat 1).int == (x3 x4.toNat 1).int) && (((x1 x4.toNat 2).int == (x3 x4.toNat 2).int) && (((x1 x4.toNat 3).int == (x3 x4.toNat 3).int) && true))))) then k0 else (L131v1 u x0 x1 x2 x3 m (w64 (x4 + 1)) k0 k1)) else none) else none) else k1)
theorem nl131v1 {ρ σ : Type} (u : Nat) (x0 : Nat) (x1 : FF) (x2 : Nat) (x3 : FF) (g : ρ → Option σ) : ∀ (m : Nat) (x4 : Int) (k0 : Option ρ) (k1 : Option ρ),ob (L131v1 u x0 x1 x2 x3 m x4 k0 k1) g = L131v1 u x0 x1 x2 x3 m x4 (ob k0 g) (ob k1 g)
 | 0,_,_,_ => rfl
 | m + 1,x4,k0,k1 => by
  simp only [L131v1,ob_bif,ob_ob,ob_none,nl131v1 u x0 x1 x2 x3 g m]
theorem r131v1 (m : Nat) (k : Ex → St → Option ρ) (x0 : Nat) (x1 : FF) (x2 : Nat) (x3 : FF) (x4 : Int) :
  loopH (B131v1 (C60 u) u) N131v1 (m + 1) (s131v0 x0 x1 x2 x3 x4) k =
  (bif (decide (x4 < (Int.ofNat x0))) then (bif (inb x4 x0) then (bif (inb x4 x2) then (bif (!((ByteArray.toList (x1 x4.toNat 0).str == ByteArray.toList (x3 x4.toNat 0).str) && (((x1 x4.toNat 1).int == (x3 x4.toNat 1).int) && (((x1 x4.toNat 2).int == (x3 x4.toNat 2).int) && (((x1 x4.toNat 3).int == (x3 x4.toNat 3).int) && true))))) then (k .ret s131v1) else (loopH (B131v1 (C60 u) u) N131v1 m (s131v0 x0 x1 x2 x3 (w64 (x4 + 1))) k)) else none) else none) else (k (.exit 0) s131v2)) := by kernel_rfl
theorem q131v1 (u : Nat) (x0 : Nat) (x1 : FF) (x2 : Nat) (x3 : FF) {ρ : Type} (k : Ex → St → Option ρ) : ∀ (m : Nat) (x4 : Int),
  loopH (B131v1 (C60 u) u) N131v1 m (s131v0 x0 x1 x2 x3 x4) k = L131v1 u x0 x1 x2 x3 m x4 (k .ret s131v1) (k (.exit 0) s131v2)
 | 0,_ => rfl
 | m + 1,x4 => by
  rw [r131v1]
  simp only [L131v1,q131v1 u x0 x1 x2 x3 k m]
def D131 (x0 : Nat) (x1 : FF) (x2 : Nat) (x3 : FF) (k : Bool → Option ρ) : Option ρ :=
 (bif ((Int.ofNat x0) != (Int.ofNat x2)) then (k false) else (L131v1 u x0 x1 x2 x3 u 0
  (k false)
  (k true)))
def F131 (x0 : Nat) (x1 : FF) (x2 : Nat) (x3 : FF) : Option (Bool) := D131 u x0 x1 x2 x3 some
theorem f131 (x0 : Nat) (x1 : FF) (x2 : Nat) (x3 : FF) (k : (Bool) → Option ρ) : D131 u x0 x1 x2 x3 k = ob (F131 u x0 x1 x2 x3) k := by
 simp only [F131,D131,ob_bif,ob_ob,ob_none,ob_some,nl131v1]
def s131v3 (x0 : Nat) (x1 : FF) (x2 : Nat) (x3 : FF) : St := ⟨(.x (.c (ro (.pr .str kV) x0 x1)) :: .x (.c (ro (.pr .str kV) x2 x3)) :: uu :: uu :: .u :: vxi 0 :: (us 5 [uu,uu,uu,uu,uu,uu,uu,uu,uu,uu,uu,uu,uu,uu,uu])),[]⟩
theorem t131v1 (k : Ex → St → Option ρ) (x0 : Nat) (x1 : FF) (x2 : Nat) (x3 : FF) :
  loopN (B131v1 (C60 u) u) N131v1 u (s131v3 x0 x1 x2 x3) k =
  L131v1 u x0 x1 x2 x3 u 0 (k .ret s131v1) (k (.exit 0) s131v2) :=
 (loopN_at (st' := (s131v0 x0 x1 x2 x3 0)) (by kernel_rfl)).trans (q131v1 u x0 x1 x2 x3 k u 0)
theorem g131v2 :
  (kBlk 0 (kSeq (C60 u) u (4 :: 5 :: (rl 11 15 [])) A6v4 (finish A6))) .ret s131v1 =
  (some [.v (.b false)]) := by kernel_rfl
theorem g131v3 :
  (kBlk 0 (kSeq (C60 u) u (4 :: 5 :: (rl 11 15 [])) A6v4 (finish A6))) (.exit 0) s131v2 =
  (some [.v (.b true)]) := by kernel_rfl
theorem e131 (x0 : Nat) (x1 : FF) (x2 : Nat) (x3 : FF) : evalF (C60 u) u A6 [.v (ro (.pr .str kV) x0 x1),.v (ro (.pr .str kV) x2 x3)] = ob (F131 u x0 x1 x2 x3) fun t => some [.v (.b t)] := Eq.trans (b := (bif ((Int.ofNat x0) != (Int.ofNat x2)) then (some [.v (.b false)]) else (loopN (B131v1 (C60 u) u) N131v1 u (s131v3 x0 x1 x2 x3) (kBlk 0 (kSeq (C60 u) u (4 :: 5 :: (rl 11 15 [])) A6v4 (finish A6)))))) (by kernel_rfl) (by
 rw [← f131]
 simp only [D131,t131v1,g131v2,g131v3])
def O131 : Ora where
 o := fun args {ρ} K =>
  wcL (.pr .str kV) args fun y4 y5 l2 =>
  wcL (.pr .str kV) l2 fun y9 y10 l7 =>
  wn l7 <|
  (ob (F131 u y4 y5 y9 y10) fun t => K [.v (.b t)])
 nat := fun args {ρ} K => by
  simp only [bind_wcL,bind_wn,bind_ob,Option.bind_some]
theorem d131 : DO (O131 u) (C60 u) 6 A6 := by
 intro P hmix hC hF args res h
 obtain ⟨a1,y4,y5,l2,rfl,h3,z0⟩ := inv_wcL h
 obtain ⟨a6,y9,y10,l7,rfl,h8,z1⟩ := inv_wcL z0
 obtain ⟨hn,z2⟩ := inv_wn z1
 cases hn
 exact Den.weaken (.cons h3 (.cons h8 .nil)) (evalF_sound hmix hC hF ((e131 u y4 y5 y9 y10).trans z2))
def C61 : Oracle := (C60 u).add 6 (fun _ => true) (O131 u)
end Go.Eng.R13
