/-
  The functions of the program, run on symbols; printed by decomp.py.
-/
import Derived.Test.YtbjfmobjdipehaaDoorDecT2
set_option linter.all false
set_option maxRecDepth 1000000
set_option maxHeartbeats 4000000
namespace Go.Eng.R13
open Go Go.RowKit Go.Eng
def A68v1 : AC := (.seq (.block 1
  (.seq (.region 8 [mv 68 10, mv 69 68, og 70 (ln 40 2 4) 69 false, og 71 (ln 40 2 5) 69 false, og 72 (.move (tm 9)) 69 false, og 73 (.move (tm 12)) 69 false, og 74 (.indexAddr 22 40 2 (tm 72) (tm 73)) 69 false, og 75 (ln 40 2 74) 69 false, og 76 (cs 84 [70, 71, 75] [40, 40, 40]) 69 false, og 77 (bk .gtr 3 76 0) 69 false, o1 78 (pa 69 77), o1 10 (sg 78)] 0 (some [[], [0], [0, 1], [0, 1], [0, 1], [0, 1], [0, 1, 4, 5], [0, 1, 4, 5, 6], (rl 0 8 []), (rl 0 9 []), (rl 0 10 []), (rl 0 11 [])])) []
    (.region 9 [mv 79 11, mv 80 79, og 81 (ln 40 2 4) 80 false, og 82 (ln 40 2 5) 80 false, og 83 (.move (tm 9)) 80 false, og 84 (.move (tm 12)) 80 false, og 85 (.indexAddr 22 40 2 (tm 83) (tm 84)) 80 false, og 86 (ln 40 2 85) 80 false, og 87 (cs 84 [81, 82, 86] [40, 40, 40]) 80 false, og 88 (bk .lss 3 87 0) 80 false, o1 89 (pa 80 88), o1 11 (sg 89)] 0 (some [[], [0], [0, 1], [0, 1], [0, 1], [0, 1], [0, 1, 4, 5], [0, 1, 4, 5, 6], (rl 0 8 []), (rl 0 9 []), (rl 0 10 []), (rl 0 11 [])])))) []
  (.region 7 [mv 66 12, o1 67 (bk .add 3 66 1), o1 12 (sg 67)] 0 none))
def A68v2 : AC := (.seq (.seq (.region 6 [mv 64 12, o1 65 (bk .lss 3 64 4)] 0 none) []
  (.cond (tm 65)
  .skip
  (.exit 0 (rl 0 10 (rl 12 82 []))))) [64, 65]
  A68v1)
def A68v3 : AC := (.seq (.region 10 [mv 90 10, mv 91 90, og 92 (.move (tm 11)) 91 true, o1 93 (po 91 92), o1 8 (sg 93)] 0 none) []
  (.ret (rl 0 8 (rl 9 85 []))))
def A68v4 : AC := (.seq (.region 3 [o1 51 (ln 40 2 6), o1 52 (fa 40 7 0 0), o1 53 (lo 3 52), o1 54 (fa 40 6 1 1), o1 55 (lo 3 54), o1 56 (.build 40 [vci 0, vci 0] [(0, 1), (1, 1)] 0 [(0, (tm 53)), (1, (tm 55))]), o1 57 (ln 40 2 7), o1 58 (fa 40 6 0 0), o1 59 (lo 3 58), o1 60 (fa 40 7 1 1), o1 61 (lo 3 60), o1 62 (.build 40 [vci 0, vci 0] [(0, 1), (1, 1)] 0 [(0, (tm 59)), (1, (tm 61))]), o1 63 (.buildSlice 0 22 40 kP 4 [vci 0, vci 0] [(0, (tm 51)), (1, (tm 56)), (2, (tm 57)), (3, (tm 62))]), o1 9 (sg 63)] 1 none) []
  (.seq (.region 4 [o1 10 (sb false), o1 11 (sb false)] 0 none) []
  (.seq (.seq (.region 5 [o1 12 (sk 0)] 0 none) []
  (.block 0
  (.loop [] (rl 0 4 (6 :: 7 :: 8 :: (rl 13 81 [])))
    A68v2))) (12 :: (rl 64 26 []))
  A68v3)))
def A68 : AF := ⟨94, [.tmp 8],
  (.seq (.region 0 [o1 4 (bx 0 40 0), o1 5 (bx 1 40 1), o1 6 (bx 2 40 2), o1 7 (bx 3 40 3), o1 8 (sb false)] 4 none) []
  (.seq (.seq (.region 1 [o1 13 (fa 40 4 0 0), o1 14 (lo 3 13), o1 15 (fa 40 5 0 0), o1 16 (lo 3 15), o1 17 (.mm true [(tm 14), (tm 16)] [3, 3]), o1 18 (fa 40 6 0 0), o1 19 (lo 3 18), o1 20 (bt .leq 3 17 19), mv 21 20, og 22 (fa 40 4 0 0) 21 false, og 23 (lo 3 22) 21 false, og 24 (fa 40 5 0 0) 21 false, og 25 (lo 3 24) 21 false, og 26 (.mm false [(tm 23), (tm 25)] [3, 3]) 21 false, og 27 (fa 40 7 0 0) 21 false, og 28 (lo 3 27) 21 false, og 29 (bt .geq 3 26 28) 21 false, o1 30 (pa 21 29), mv 31 30, og 32 (fa 40 4 1 1) 31 false, og 33 (lo 3 32) 31 false, og 34 (fa 40 5 1 1) 31 false, og 35 (lo 3 34) 31 false, og 36 (.mm true [(tm 33), (tm 35)] [3, 3]) 31 false, og 37 (fa 40 6 1 1) 31 false, og 38 (lo 3 37) 31 false, og 39 (bt .leq 3 36 38) 31 false, o1 40 (pa 31 39), mv 41 40, og 42 (fa 40 4 1 1) 41 false, og 43 (lo 3 42) 41 false, og 44 (fa 40 5 1 1) 41 false, og 45 (lo 3 44) 41 false, og 46 (.mm false [(tm 43), (tm 45)] [3, 3]) 41 false, og 47 (fa 40 7 1 1) 41 false, og 48 (lo 3 47) 41 false, og 49 (bt .geq 3 46 48) 41 false, o1 50 (pa 41 49)] 0 none) []
  (.cond (tm 50)
  (.seq (.region 2 [o1 8 (sb false)] 0 none) []
    (.ret (rl 0 8 (rl 9 85 []))))
  .skip)) (8 :: (rl 13 38 []))
  A68v4))⟩
def B153v1 (C : Oracle) (fuel : Nat) {ρ : Type} : St → (Ex → St → Option ρ) → Option ρ := fun st k => evalC C fuel A68v2 st k
def N153v1 : St → Option St := fun s => s.norm (rl 0 4 (6 :: 7 :: 8 :: (rl 13 81 []))) 5
def s153v0 (x22 x23 : Bool) (x24 x25 x26 x27 x28 x29 x30 x31 x32 : Int) (x33 : FF) : St := ⟨(us 4 (.x (.ptr 0 0) :: .x (.ptr 1 0) :: (us 3 (.x (.own 4 0 4) :: vxb x22 :: vxb x23 :: vxi x24 :: (us 81 []))))), [.box [(vci x25), (vci x26)], .box [(vci x27), (vci x28)], .box [(vci x29), (vci x30)], .box [(vci x31), (vci x32)], .arr kP 4 x33]⟩
def s153v1 (x37 x38 : Bool) (x25 x26 x27 x28 x29 x30 x31 x32 : Int) (x33 : FF) : St := ⟨(us 10 (vxb x37 :: vxb x38 :: (us 82 []))), [.box [(vci x25), (vci x26)], .box [(vci x27), (vci x28)], .box [(vci x29), (vci x30)], .box [(vci x31), (vci x32)], .arr kP 4 x33]⟩
def L153v1 {ρ : Type} (fuel : Nat) (x25 x26 x27 x28 x29 x30 x31 x32 : Int) (x33 : FF) : Nat → Bool → Bool → Int → (Bool → Bool → Option ρ) → Option ρ
  | 0, _, _, _, _ => none
  | m + 1, x22, x23, x24, k0 =>
    (bif (decide (x24 < 4)) then (bif (x22 == false) then (bif (inb x24 4) then (ob (F152 fuel x25 x26 x27 x28 (CV.int (x33 (0 + (Int.toNat x24)) 0)) (CV.int (x33 (0 + (Int.toNat x24)) 1))) fun x34 => (bif (x23 == false) then (bif (inb x24 4) then (ob (F152 fuel x25 x26 x27 x28 (CV.int (x33 (0 + (Int.toNat x24)) 0)) (CV.int (x33 (0 + (Int.toNat x24)) 1))) fun x35 => (L153v1 fuel x25 x26 x27 x28 x29 x30 x31 x32 x33 m (decide (x34 > 0)) (decide (x35 < 0)) (w64 (x24 + 1)) k0)) else none) else (L153v1 fuel x25 x26 x27 x28 x29 x30 x31 x32 x33 m (decide (x34 > 0)) true (w64 (x24 + 1)) k0))) else none) else (bif (x23 == false) then (bif (inb x24 4) then (ob (F152 fuel x25 x26 x27 x28 (CV.int (x33 (0 + (Int.toNat x24)) 0)) (CV.int (x33 (0 + (Int.toNat x24)) 1))) fun x36 => (L153v1 fuel x25 x26 x27 x28 x29 x30 x31 x32 x33 m true (decide (x36 < 0)) (w64 (x24 + 1)) k0)) else none) else (L153v1 fuel x25 x26 x27 x28 x29 x30 x31 x32 x33 m true true (w64 (x24 + 1)) k0))) else (k0 x22 x23))
theorem nl153v1 {ρ σ : Type} (fuel : Nat) (x25 x26 x27 x28 x29 x30 x31 x32 : Int) (x33 : FF) (g : ρ → Option σ) : ∀ (m : Nat) (x22 x23 : Bool) (x24 : Int) (k0 : Bool → Bool → Option ρ), ob (L153v1 fuel x25 x26 x27 x28 x29 x30 x31 x32 x33 m x22 x23 x24 k0) g = L153v1 fuel x25 x26 x27 x28 x29 x30 x31 x32 x33 m x22 x23 x24 (fun x37 x38 => ob (k0 x37 x38) g)
  | 0, _, _, _, _ => rfl
  | m + 1, x22, x23, x24, k0 => by
    simp only [L153v1, ob_bif, ob_ob, ob_none, nl153v1 fuel x25 x26 x27 x28 x29 x30 x31 x32 x33 g m]
theorem r153v1 (fuel : Nat) (m : Nat) {ρ : Type} (k : Ex → St → Option ρ) (x25 x26 x27 x28 x29 x30 x31 x32 : Int) (x33 : FF) (x22 x23 : Bool) (x24 : Int) :
    loopH (B153v1 (C79 fuel) fuel) N153v1 (m + 1) (s153v0 x22 x23 x24 x25 x26 x27 x28 x29 x30 x31 x32 x33) k =
    (bif (decide (x24 < 4)) then (bif (x22 == false) then (bif (inb x24 4) then (ob (F152 fuel x25 x26 x27 x28 (CV.int (x33 (0 + (Int.toNat x24)) 0)) (CV.int (x33 (0 + (Int.toNat x24)) 1))) fun x34 => (bif (x23 == false) then (bif (inb x24 4) then (ob (F152 fuel x25 x26 x27 x28 (CV.int (x33 (0 + (Int.toNat x24)) 0)) (CV.int (x33 (0 + (Int.toNat x24)) 1))) fun x35 => (loopH (B153v1 (C79 fuel) fuel) N153v1 m (s153v0 (decide (x34 > 0)) (decide (x35 < 0)) (w64 (x24 + 1)) x25 x26 x27 x28 x29 x30 x31 x32 x33) k)) else none) else (loopH (B153v1 (C79 fuel) fuel) N153v1 m (s153v0 (decide (x34 > 0)) true (w64 (x24 + 1)) x25 x26 x27 x28 x29 x30 x31 x32 x33) k))) else none) else (bif (x23 == false) then (bif (inb x24 4) then (ob (F152 fuel x25 x26 x27 x28 (CV.int (x33 (0 + (Int.toNat x24)) 0)) (CV.int (x33 (0 + (Int.toNat x24)) 1))) fun x36 => (loopH (B153v1 (C79 fuel) fuel) N153v1 m (s153v0 true (decide (x36 < 0)) (w64 (x24 + 1)) x25 x26 x27 x28 x29 x30 x31 x32 x33) k)) else none) else (loopH (B153v1 (C79 fuel) fuel) N153v1 m (s153v0 true true (w64 (x24 + 1)) x25 x26 x27 x28 x29 x30 x31 x32 x33) k))) else (k (.exit 0) (s153v1 x22 x23 x25 x26 x27 x28 x29 x30 x31 x32 x33))) := by kernel_rfl
theorem q153v1 (fuel : Nat) (x25 x26 x27 x28 x29 x30 x31 x32 : Int) (x33 : FF) {ρ : Type} (k : Ex → St → Option ρ) : ∀ (m : Nat) (x22 x23 : Bool) (x24 : Int),
    loopH (B153v1 (C79 fuel) fuel) N153v1 m (s153v0 x22 x23 x24 x25 x26 x27 x28 x29 x30 x31 x32 x33) k = L153v1 fuel x25 x26 x27 x28 x29 x30 x31 x32 x33 m x22 x23 x24 (fun x37 x38 => k (.exit 0) (s153v1 x37 x38 x25 x26 x27 x28 x29 x30 x31 x32 x33))
  | 0, _, _, _ => rfl
  | m + 1, x22, x23, x24 => by
    rw [r153v1]
    simp only [L153v1, q153v1 fuel x25 x26 x27 x28 x29 x30 x31 x32 x33 k m]
def D153 {ρ : Type} (fuel : Nat) (x1 x2 x3 x4 x5 x6 x7 x8 : Int) (k : Bool → Option ρ) : Option ρ :=
  (bif ((decide ((if x3 > x1 then x3 else x1) ≤ x5)) == false) then (bif ((decide ((if x3 < x1 then x3 else x1) ≥ x7)) == false) then (bif ((decide ((if x4 > x2 then x4 else x2) ≤ x6)) == false) then (bif (decide ((if x4 < x2 then x4 else x2) ≥ x8)) then (k false) else (L153v1 fuel x1 x2 x3 x4 x5 x6 x7 x8 (rowsF 2 [(.i .i64 x5), (.i .i64 x6), (.i .i64 x7), (.i .i64 x6), (.i .i64 x7), (.i .i64 x8), (.i .i64 x5), (.i .i64 x8)]) fuel false false 0
    (fun x39 x40 => (bif (x39 == true) then (k x40) else (k false))))) else (k false)) else (k false)) else (k false))
def F153 (fuel : Nat) (x1 x2 x3 x4 x5 x6 x7 x8 : Int) : Option (Bool) := D153 fuel x1 x2 x3 x4 x5 x6 x7 x8 some
theorem f153 {ρ : Type} (fuel : Nat) (x1 x2 x3 x4 x5 x6 x7 x8 : Int) (k : (Bool) → Option ρ) : D153 fuel x1 x2 x3 x4 x5 x6 x7 x8 k = ob (F153 fuel x1 x2 x3 x4 x5 x6 x7 x8) k := by
  simp only [F153, D153, ob_bif, ob_ob, ob_none, ob_some, nl153v1]
def s153v2 (x1 x2 x3 x4 x5 x6 x7 x8 : Int) : St := ⟨(.agg [(vci x1), (vci x2)] :: .agg [(vci x3), (vci x4)] :: .agg [(vci x5), (vci x6)] :: .agg [(vci x7), (vci x8)] :: .x (.ptr 0 0) :: .x (.ptr 1 0) :: .x (.ptr 2 0) :: .x (.ptr 3 0) :: .u :: .x (.own 4 0 4) :: vxb false :: vxb false :: vxi 0 :: (us 38 [.agg [(vci x5), (vci x6)], .x (.ptr 3 0), vxi x7, .x (.ptr 2 1), vxi x6, .agg [(vci x7), (vci x6)], .agg [(vci x7), (vci x8)], .x (.ptr 2 0), vxi x5, .x (.ptr 3 1), vxi x8, .agg [(vci x5), (vci x8)], .x (.own 4 0 4), .undef, .undef, .undef, .undef, .undef, .undef, .undef, .undef, .undef, .undef, .undef, .undef, .undef, .undef, .undef, .undef, .undef, .undef, .undef, .undef, .undef, .undef, .undef, .undef, .undef, .undef, .undef, .undef, .undef, .undef])), [.box [(vci x1), (vci x2)], .box [(vci x3), (vci x4)], .box [(vci x5), (vci x6)], .box [(vci x7), (vci x8)], .arr kP 4 (rowsF 2 [(vi x5), (vi x6), (vi x7), (vi x6), (vi x7), (vi x8), (vi x5), (vi x8)])]⟩
theorem walk153 (fuel : Nat) (x1 x2 x3 x4 x5 x6 x7 x8 : Int) :
    evalF (C79 fuel) fuel A68 [.agg [(vi x1), (vi x2)], .agg [(vi x3), (vi x4)], .agg [(vi x5), (vi x6)], .agg [(vi x7), (vi x8)]] =
    (bif ((decide ((if x3 > x1 then x3 else x1) ≤ x5)) == false) then (bif ((decide ((if x3 < x1 then x3 else x1) ≥ x7)) == false) then (bif ((decide ((if x4 > x2 then x4 else x2) ≤ x6)) == false) then (bif (decide ((if x4 < x2 then x4 else x2) ≥ x8)) then (some [.v (.b false)]) else (loopN (B153v1 (C79 fuel) fuel) N153v1 fuel (s153v2 x1 x2 x3 x4 x5 x6 x7 x8) (kBlk 0 (kSeq (C79 fuel) fuel (12 :: (rl 64 26 [])) A68v3 (finish A68))))) else (some [.v (.b false)])) else (some [.v (.b false)])) else (some [.v (.b false)])) := by kernel_rfl
theorem t153v1 (fuel : Nat) {ρ : Type} (k : Ex → St → Option ρ) (x1 x2 x3 x4 x5 x6 x7 x8 : Int) :
    loopN (B153v1 (C79 fuel) fuel) N153v1 fuel (s153v2 x1 x2 x3 x4 x5 x6 x7 x8) k =
    L153v1 fuel x1 x2 x3 x4 x5 x6 x7 x8 (rowsF 2 [(vi x5), (vi x6), (vi x7), (vi x6), (vi x7), (vi x8), (vi x5), (vi x8)]) fuel false false 0 (fun x37 x38 => k (.exit 0) (s153v1 x37 x38 x1 x2 x3 x4 x5 x6 x7 x8 (rowsF 2 [(vi x5), (vi x6), (vi x7), (vi x6), (vi x7), (vi x8), (vi x5), (vi x8)]))) :=
  (loopN_at (st' := (s153v0 false false 0 x1 x2 x3 x4 x5 x6 x7 x8 (rowsF 2 [(vi x5), (vi x6), (vi x7), (vi x6), (vi x7), (vi x8), (vi x5), (vi x8)]))) (by kernel_rfl)).trans (q153v1 fuel x1 x2 x3 x4 x5 x6 x7 x8 (rowsF 2 [(vi x5), (vi x6), (vi x7), (vi x6), (vi x7), (vi x8), (vi x5), (vi x8)]) k fuel false false 0)
theorem g153v2 (fuel : Nat) (x39 x40 : Bool) (x1 x2 x3 x4 x5 x6 x7 x8 : Int) :
    (kBlk 0 (kSeq (C79 fuel) fuel (12 :: (rl 64 26 [])) A68v3 (finish A68))) (.exit 0) (s153v1 x39 x40 x1 x2 x3 x4 x5 x6 x7 x8 (rowsF 2 [(vi x5), (vi x6), (vi x7), (vi x6), (vi x7), (vi x8), (vi x5), (vi x8)])) =
    (bif (x39 == true) then (some [.v (.b x40)]) else (some [.v (.b false)])) := by kernel_rfl
theorem e153 (fuel : Nat) (x1 x2 x3 x4 x5 x6 x7 x8 : Int) : evalF (C79 fuel) fuel A68 [.agg [(vi x1), (vi x2)], .agg [(vi x3), (vi x4)], .agg [(vi x5), (vi x6)], .agg [(vi x7), (vi x8)]] = ob (F153 fuel x1 x2 x3 x4 x5 x6 x7 x8) fun t => some [.v (.b t)] := by
  rw [walk153, ← f153]
  simp only [D153, t153v1, g153v2]
def O153 (fuel : Nat) : Ora where
  o := fun args {ρ} K =>
    wc args fun a1 l2 =>
    wagg a1 fun l3 =>
    wdI .i64 l3 fun y7 l5 =>
    wdI .i64 l5 fun y11 l9 =>
    wn l9 <|
    wc l2 fun a12 l13 =>
    wagg a12 fun l14 =>
    wdI .i64 l14 fun y18 l16 =>
    wdI .i64 l16 fun y22 l20 =>
    wn l20 <|
    wc l13 fun a23 l24 =>
    wagg a23 fun l25 =>
    wdI .i64 l25 fun y29 l27 =>
    wdI .i64 l27 fun y33 l31 =>
    wn l31 <|
    wc l24 fun a34 l35 =>
    wagg a34 fun l36 =>
    wdI .i64 l36 fun y40 l38 =>
    wdI .i64 l38 fun y44 l42 =>
    wn l42 <|
    wn l35 <|
    (ob (F153 fuel y7 y11 y18 y22 y29 y33 y40 y44) fun t => K [.v (.b t)])
  nat := fun args {ρ} K => by
    simp only [bind_wagg, bind_wc, bind_wdI, bind_wn, bind_ob, Option.bind_some]
theorem d153 {P : Program} (fuel : Nat) (hmix : P.follows .mixedOrders = true) (hC : Sound P (C79 fuel)) (hF : FFits P 68 A68) (args res : List A) (h : (O153 fuel).o args some = some res) : Den P 68 args res := by
  obtain ⟨a1, l2, rfl, z0⟩ := inv_wc h
  obtain ⟨l3, rfl, z1⟩ := inv_wagg z0
  obtain ⟨a4, y7, l5, rfl, h6, z2⟩ := inv_wdI z1
  obtain ⟨a8, y11, l9, rfl, h10, z3⟩ := inv_wdI z2
  obtain ⟨hn, z4⟩ := inv_wn z3
  cases hn
  obtain ⟨a12, l13, rfl, z5⟩ := inv_wc z4
  obtain ⟨l14, rfl, z6⟩ := inv_wagg z5
  obtain ⟨a15, y18, l16, rfl, h17, z7⟩ := inv_wdI z6
  obtain ⟨a19, y22, l20, rfl, h21, z8⟩ := inv_wdI z7
  obtain ⟨hn, z9⟩ := inv_wn z8
  cases hn
  obtain ⟨a23, l24, rfl, z10⟩ := inv_wc z9
  obtain ⟨l25, rfl, z11⟩ := inv_wagg z10
  obtain ⟨a26, y29, l27, rfl, h28, z12⟩ := inv_wdI z11
  obtain ⟨a30, y33, l31, rfl, h32, z13⟩ := inv_wdI z12
  obtain ⟨hn, z14⟩ := inv_wn z13
  cases hn
  obtain ⟨a34, l35, rfl, z15⟩ := inv_wc z14
  obtain ⟨l36, rfl, z16⟩ := inv_wagg z15
  obtain ⟨a37, y40, l38, rfl, h39, z17⟩ := inv_wdI z16
  obtain ⟨a41, y44, l42, rfl, h43, z18⟩ := inv_wdI z17
  obtain ⟨hn, z19⟩ := inv_wn z18
  cases hn
  obtain ⟨hn, z20⟩ := inv_wn z19
  cases hn
  exact Den.weaken (.cons (WkA.agg (.cons h6 (.cons h10 .nil))) (.cons (WkA.agg (.cons h17 (.cons h21 .nil))) (.cons (WkA.agg (.cons h28 (.cons h32 .nil))) (.cons (WkA.agg (.cons h39 (.cons h43 .nil))) .nil)))) (evalF_sound hmix hC hF ((e153 fuel y7 y11 y18 y22 y29 y33 y40 y44).trans z20))
def C80 (fuel : Nat) : Oracle := (C79 fuel).add 68 (fun _ => true) (O153 fuel)
def A40v1 : AC := (.seq (.block 1
  (.region 5 [o1 19 (fa 25 7 0 0), o1 20 (lo 22 19), mv 21 0, mv 22 8, o1 23 (.indexAddr 22 40 2 (tm 21) (tm 22)), o1 24 (ln 40 2 23), o1 25 (.buildSlice 0 22 40 kP 1 [vci 0, vci 0] [(0, (tm 24))]), o1 26 (.append 1 22 40 kP 16 (tm 20) (tm 25)), o1 27 (fa 25 7 0 0), o0 (.store 22 1 (tm 27) (tm 26))] 2 (some [[], [0], [], [], [2, 3], [2, 3, 4], (rl 2 4 []), (rl 0 7 []), (rl 0 8 []), (rl 0 9 [])]))) []
  (.region 4 [mv 17 8, o1 18 (bk .sub 3 17 1), o1 8 (sg 18)] 0 none))
def A40v2 : AC := (.seq (.seq (.region 3 [mv 15 8, o1 16 (bk .geq 3 15 0)] 0 none) []
  (.cond (tm 16)
  .skip
  (.exit 0 (1 :: 2 :: 3 :: 6 :: (rl 8 86 []))))) [15, 16]
  A40v1)
def A40v3 : AC := (.region 11 [mv 64 10, o1 65 (bk .add 3 64 1), o1 10 (sg 65)] 0 none)
def A40v4 : AC := (.seq (.block 3
  (.seq (.region 12 [o1 66 (ln 25 2 7), mv 67 9, mv 68 10, o1 69 (.indexAddr 22 40 2 (tm 67) (tm 68)), o1 70 (ln 40 2 69), o1 71 (cs 34 [66, 70] [25, 40]), o1 72 (bk .lss 3 71 0)] 0 (some [[], [], [], [1, 2], [1, 2, 3], (rl 0 5 []), (rl 0 6 [])])) []
    (.cond (tm 72)
    (.seq (.region 13 [o1 6 (sb false)] 0 none) []
      (.ret (rl 0 6 (rl 7 87 []))))
    .skip))) (6 :: (rl 66 7 []))
  A40v3)
def A40v5 : AC := (.seq (.seq (.region 10 [mv 62 10, o1 63 (bk .lss 3 62 4)] 0 none) []
  (.cond (tm 63)
  .skip
  (.exit 2 (1 :: 2 :: 3 :: (rl 6 88 []))))) [62, 63]
  A40v4)
def A40v6 : AC := (.region 16 [mv 77 11, o1 78 (bk .add 3 77 1), o1 11 (sg 78)] 0 none)
def A40v7 : AC := (.seq (.block 5
  (.seq (.region 17 [mv 79 0, mv 80 11, o1 81 (.indexAddr 22 40 2 (tm 79) (tm 80)), o1 82 (ln 40 2 81), mv 83 0, mv 84 11, o1 85 (bk .add 3 84 1), mv 86 0, o1 87 (.len 22 false (tm 86)), o1 88 (bt .rem 3 85 87), o1 89 (.indexAddr 22 40 2 (tm 83) (tm 88)), o1 90 (ln 40 2 89), o1 91 (ln 40 2 4), o1 92 (ln 40 2 5), o1 93 (cs 68 [82, 90, 91, 92] [40, 40, 40, 40])] 0 (some [[], [], [0, 1], [0, 1, 2], [], [], [5], [], [7], (rl 5 4 []), (rl 4 6 []), (rl 4 7 []), [], [], (rl 0 14 [])])) []
    (.cond (tm 93)
    (.seq (.region 18 [o1 6 (sb false)] 0 none) []
      (.ret (rl 0 6 (rl 7 87 []))))
    .skip))) (6 :: (rl 79 15 []))
  A40v6)
def A40v8 : AC := (.seq (.seq (.region 15 [mv 73 11, mv 74 0, o1 75 (.len 22 false (tm 74)), o1 76 (bt .lss 3 73 75)] 0 none) []
  (.cond (tm 76)
  .skip
  (.exit 4 (rl 0 94 [])))) (rl 73 4 [])
  A40v7)
def A40v9 : AC := (.seq (.region 19 [o1 6 (sb true)] 0 none) []
  (.ret (rl 0 6 (rl 7 87 []))))
def A40v10 : AC := (.seq (.seq (.region 14 [o1 11 (sk 0)] 0 none) []
  (.block 4
  (.loop [] (1 :: 2 :: 3 :: (rl 6 5 (rl 12 82 [])))
    A40v8))) (6 :: 11 :: (rl 73 21 []))
  A40v9)
def A40v11 : AC := (.seq (.region 8 [o1 49 (ln 40 2 4), o1 50 (fa 40 5 0 0), o1 51 (lo 3 50), o1 52 (fa 40 4 1 1), o1 53 (lo 3 52), o1 54 (.build 40 [vci 0, vci 0] [(0, 1), (1, 1)] 0 [(0, (tm 51)), (1, (tm 53))]), o1 55 (ln 40 2 5), o1 56 (fa 40 4 0 0), o1 57 (lo 3 56), o1 58 (fa 40 5 1 1), o1 59 (lo 3 58), o1 60 (.build 40 [vci 0, vci 0] [(0, 1), (1, 1)] 0 [(0, (tm 57)), (1, (tm 59))]), o1 61 (.buildSlice 0 22 40 kP 4 [vci 0, vci 0] [(0, (tm 49)), (1, (tm 54)), (2, (tm 55)), (3, (tm 60))]), o1 9 (sg 61)] 1 none) []
  (.seq (.seq (.region 9 [o1 10 (sk 0)] 0 none) []
  (.block 2
  (.loop [] (1 :: 2 :: 3 :: 6 :: 8 :: (rl 11 83 []))
    A40v5))) (6 :: 10 :: (rl 62 11 []))
  A40v10))
def A40v12 : AC := (.seq (.seq (.region 6 [o1 28 (ln 25 2 7), o1 29 (cs 54 [28] [25]), o1 30 (bk .neq 79 29 0), mv 31 30, og 32 (ln 25 2 7) 31 false, og 33 (fa 40 4 0 0) 31 false, og 34 (lo 3 33) 31 false, og 35 (fa 40 5 0 0) 31 false, og 36 (lo 3 35) 31 false, og 37 (bt .add 3 34 36) 31 false, og 38 (bk .quo 3 37 2) 31 false, og 39 (fa 40 4 1 1) 31 false, og 40 (lo 3 39) 31 false, og 41 (fa 40 5 1 1) 31 false, og 42 (lo 3 41) 31 false, og 43 (bt .add 3 40 42) 31 false, og 44 (bk .quo 3 43 2) 31 false, og 45 (.build 40 [vci 0, vci 0] [(0, 1), (1, 1)] 0 [(0, (tm 38)), (1, (tm 44))]) 31 false, og 46 (cs 34 [32, 45] [25, 40]) 31 false, og 47 (bk .lss 3 46 1) 31 false, o1 48 (pa 31 47)] 0 none) []
  (.cond (tm 48)
  (.seq (.region 7 [o1 6 (sb false)] 0 none) []
    (.ret (rl 0 6 (rl 7 87 []))))
  .skip)) (6 :: (rl 28 21 []))
  A40v11)
def A40 : AF := ⟨94, [.tmp 6],
  (.seq (.region 0 [o1 4 (bx 0 40 1), o1 5 (bx 1 40 2), o1 6 (sb false)] 2 none) []
  (.seq (.region 1 [o1 7 (.alloc 0 25 [vcn, vcn])] 1 none) []
  (.seq (.seq (.region 2 [mv 12 0, o1 13 (.len 22 false (tm 12)), o1 14 (bk .sub 3 13 1), o1 8 (sg 14)] 0 none) []
  (.block 0
  (.loop [.cell 7 0 kP] (1 :: 2 :: 3 :: 6 :: (rl 9 85 []))
    A40v2))) (8 :: (rl 12 16 []))
  A40v12)))⟩
def B154v1 (C : Oracle) (fuel : Nat) {ρ : Type} : St → (Ex → St → Option ρ) → Option ρ := fun st k => evalC C fuel A40v2 st k
def N154v1 : St → Option St := fun s => s.norm (1 :: 2 :: 3 :: 6 :: (rl 9 85 [])) 4
def s154v0 (x14 : Nat) (x15 : FF) (x16 x17 x18 x19 x20 : Int) (x21 : Nat) (x22 : FF) : St := ⟨(.x (.c (.ro false kP x14 x15)) :: (us 3 (.x (.ptr 0 0) :: .x (.ptr 1 0) :: .u :: .x (.ptr 2 0) :: vxi x16 :: (us 85 [])))), [.box [(vci x17), (vci x18)], .box [(vci x19), (vci x20)], .box [(.own 3 0 x21), (vcn)], .arr kP x21 x22]⟩
def s154v1 (x14 : Nat) (x15 : FF) (x17 x18 x19 x20 : Int) (x23 : Nat) (x24 : FF) : St := ⟨(.x (.c (.ro false kP x14 x15)) :: (us 3 (.x (.ptr 0 0) :: .x (.ptr 1 0) :: .u :: .x (.ptr 2 0) :: (us 86 [])))), [.box [(vci x17), (vci x18)], .box [(vci x19), (vci x20)], .box [(.own 3 0 x23), (vcn)], .arr kP x23 x24]⟩
def L154v1 {ρ : Type} (fuel : Nat) (x14 : Nat) (x15 : FF) (x17 x18 x19 x20 : Int) : Nat → Int → Nat → FF → (Nat → FF → Option ρ) → Option ρ
  | 0, _, _, _, _ => none
  | m + 1, x16, x21, x22, k0 =>
    (bif (decide (x16 ≥ 0)) then (bif (inb x16 x14) then (bif (Nat.ble (x21 + 1) 1073741824) then (L154v1 fuel x14 x15 x17 x18 x19 x20 m (w64 (x16 - 1)) (x21 + 1) (joinF x21 x22 (rowsF 2 [(.i .i64 (CV.int (x15 (Int.toNat x16) 0))), (.i .i64 (CV.int (x15 (Int.toNat x16) 1)))])) k0) else none) else none) else (k0 x21 x22))
theorem nl154v1 {ρ σ : Type} (fuel : Nat) (x14 : Nat) (x15 : FF) (x17 x18 x19 x20 : Int) (g : ρ → Option σ) : ∀ (m : Nat) (x16 : Int) (x21 : Nat) (x22 : FF) (k0 : Nat → FF → Option ρ), ob (L154v1 fuel x14 x15 x17 x18 x19 x20 m x16 x21 x22 k0) g = L154v1 fuel x14 x15 x17 x18 x19 x20 m x16 x21 x22 (fun x23 x24 => ob (k0 x23 x24) g)
  | 0, _, _, _, _ => rfl
  | m + 1, x16, x21, x22, k0 => by
    simp only [L154v1, ob_bif, ob_ob, ob_none, nl154v1 fuel x14 x15 x17 x18 x19 x20 g m]
theorem r154v1 (fuel : Nat) (m : Nat) {ρ : Type} (k : Ex → St → Option ρ) (x14 : Nat) (x15 : FF) (x17 x18 x19 x20 x16 : Int) (x21 : Nat) (x22 : FF) :
    loopH (B154v1 (C80 fuel) fuel) N154v1 (m + 1) (s154v0 x14 x15 x16 x17 x18 x19 x20 x21 x22) k =
    (bif (decide (x16 ≥ 0)) then (bif (inb x16 x14) then (bif (Nat.ble (x21 + 1) 1073741824) then (loopH (B154v1 (C80 fuel) fuel) N154v1 m (s154v0 x14 x15 (w64 (x16 - 1)) x17 x18 x19 x20 (x21 + 1) (joinF x21 x22 (rowsF 2 [(vi (CV.int (x15 (Int.toNat x16) 0))), (vi (CV.int (x15 (Int.toNat x16) 1)))]))) k) else none) else none) else (k (.exit 0) (s154v1 x14 x15 x17 x18 x19 x20 x21 x22))) := by kernel_rfl
theorem q154v1 (fuel : Nat) (x14 : Nat) (x15 : FF) (x17 x18 x19 x20 : Int) {ρ : Type} (k : Ex → St → Option ρ) : ∀ (m : Nat) (x16 : Int) (x21 : Nat) (x22 : FF),
    loopH (B154v1 (C80 fuel) fuel) N154v1 m (s154v0 x14 x15 x16 x17 x18 x19 x20 x21 x22) k = L154v1 fuel x14 x15 x17 x18 x19 x20 m x16 x21 x22 (fun x23 x24 => k (.exit 0) (s154v1 x14 x15 x17 x18 x19 x20 x23 x24))
  | 0, _, _, _ => rfl
  | m + 1, x16, x21, x22 => by
    rw [r154v1]
    simp only [L154v1, q154v1 fuel x14 x15 x17 x18 x19 x20 k m]
def B154v2 (C : Oracle) (fuel : Nat) {ρ : Type} : St → (Ex → St → Option ρ) → Option ρ := fun st k => evalC C fuel A40v5 st k
def N154v2 : St → Option St := fun s => s.norm (1 :: 2 :: 3 :: 6 :: 8 :: (rl 11 83 [])) 5
def s154v2 (x40 : Nat) (x41 : FF) (x42 x43 x44 x45 x46 : Int) (x47 : Nat) (x48 x49 : FF) : St := ⟨(.x (.c (.ro false kP x40 x41)) :: (us 3 (.x (.ptr 0 0) :: .x (.ptr 1 0) :: .u :: .x (.ptr 2 0) :: .u :: .x (.own 4 0 4) :: vxi x42 :: (us 83 [])))), [.box [(vci x43), (vci x44)], .box [(vci x45), (vci x46)], .box [(.own 3 0 x47), (vcn)], .arr kP x47 x48, .arr kP 4 x49]⟩
def s154v3 (x43 x44 x45 x46 : Int) (x47 : Nat) (x48 x49 : FF) : St := ⟨(us 6 (vxb false :: (us 87 []))), [.box [(vci x43), (vci x44)], .box [(vci x45), (vci x46)], .box [(.own 3 0 x47), (vcn)], .arr kP x47 x48, .arr kP 4 x49]⟩
def s154v4 (x40 : Nat) (x41 : FF) (x43 x44 x45 x46 : Int) (x47 : Nat) (x48 x49 : FF) : St := ⟨(.x (.c (.ro false kP x40 x41)) :: (us 3 (.x (.ptr 0 0) :: .x (.ptr 1 0) :: (us 88 [])))), [.box [(vci x43), (vci x44)], .box [(vci x45), (vci x46)], .box [(.own 3 0 x47), (vcn)], .arr kP x47 x48, .arr kP 4 x49]⟩
def L154v2 {ρ : Type} (fuel : Nat) (x40 : Nat) (x41 : FF) (x43 x44 x45 x46 : Int) (x47 : Nat) (x48 x49 : FF) : Nat → Int → (Option ρ) → (Option ρ) → Option ρ
  | 0, _, _, _ => none
  | m + 1, x42, k0, k1 =>
    (bif (decide (x42 < 4)) then (bif (inb x42 4) then (ob (F23 fuel x47 x48 0 (fun _ _ => .any) (CV.int (x49 (0 + (Int.toNat x42)) 0)) (CV.int (x49 (0 + (Int.toNat x42)) 1))) fun x50 => (bif (decide (x50 < 0)) then k0 else (L154v2 fuel x40 x41 x43 x44 x45 x46 x47 x48 x49 m (w64 (x42 + 1)) k0 k1))) else none) else k1)
theorem nl154v2 {ρ σ : Type} (fuel : Nat) (x40 : Nat) (x41 : FF) (x43 x44 x45 x46 : Int) (x47 : Nat) (x48 x49 : FF) (g : ρ → Option σ) : ∀ (m : Nat) (x42 : Int) (k0 : Option ρ) (k1 : Option ρ), ob (L154v2 fuel x40 x41 x43 x44 x45 x46 x47 x48 x49 m x42 k0 k1) g = L154v2 fuel x40 x41 x43 x44 x45 x46 x47 x48 x49 m x42 (ob k0 g) (ob k1 g)
  | 0, _, _, _ => rfl
  | m + 1, x42, k0, k1 => by
    simp only [L154v2, ob_bif, ob_ob, ob_none, nl154v2 fuel x40 x41 x43 x44 x45 x46 x47 x48 x49 g m]
theorem r154v2 (fuel : Nat) (m : Nat) {ρ : Type} (k : Ex → St → Option ρ) (x40 : Nat) (x41 : FF) (x43 x44 x45 x46 : Int) (x47 : Nat) (x48 x49 : FF) (x42 : Int) :
    loopH (B154v2 (C80 fuel) fuel) N154v2 (m + 1) (s154v2 x40 x41 x42 x43 x44 x45 x46 x47 x48 x49) k =
    (bif (decide (x42 < 4)) then (bif (inb x42 4) then (ob (F23 fuel x47 x48 0 nilF (CV.int (x49 (0 + (Int.toNat x42)) 0)) (CV.int (x49 (0 + (Int.toNat x42)) 1))) fun x50 => (bif (decide (x50 < 0)) then (k .ret (s154v3 x43 x44 x45 x46 x47 x48 x49)) else (loopH (B154v2 (C80 fuel) fuel) N154v2 m (s154v2 x40 x41 (w64 (x42 + 1)) x43 x44 x45 x46 x47 x48 x49) k))) else none) else (k (.exit 2) (s154v4 x40 x41 x43 x44 x45 x46 x47 x48 x49))) := by kernel_rfl
theorem q154v2 (fuel : Nat) (x40 : Nat) (x41 : FF) (x43 x44 x45 x46 : Int) (x47 : Nat) (x48 x49 : FF) {ρ : Type} (k : Ex → St → Option ρ) : ∀ (m : Nat) (x42 : Int),
    loopH (B154v2 (C80 fuel) fuel) N154v2 m (s154v2 x40 x41 x42 x43 x44 x45 x46 x47 x48 x49) k = L154v2 fuel x40 x41 x43 x44 x45 x46 x47 x48 x49 m x42 (k .ret (s154v3 x43 x44 x45 x46 x47 x48 x49)) (k (.exit 2) (s154v4 x40 x41 x43 x44 x45 x46 x47 x48 x49))
  | 0, _ => rfl
  | m + 1, x42 => by
    rw [r154v2]
    simp only [L154v2, q154v2 fuel x40 x41 x43 x44 x45 x46 x47 x48 x49 k m]
def B154v3 (C : Oracle) (fuel : Nat) {ρ : Type} : St → (Ex → St → Option ρ) → Option ρ := fun st k => evalC C fuel A40v8 st k
def N154v3 : St → Option St := fun s => s.norm (1 :: 2 :: 3 :: (rl 6 5 (rl 12 82 []))) 5
def s154v5 (x62 : Nat) (x63 : FF) (x64 x65 x66 x67 x68 : Int) (x69 : Nat) (x70 x71 : FF) : St := ⟨(.x (.c (.ro false kP x62 x63)) :: (us 3 (.x (.ptr 0 0) :: .x (.ptr 1 0) :: (us 5 (vxi x64 :: (us 82 [])))))), [.box [(vci x65), (vci x66)], .box [(vci x67), (vci x68)], .box [(.own 3 0 x69), (vcn)], .arr kP x69 x70, .arr kP 4 x71]⟩
def s154v6 (x65 x66 x67 x68 : Int) (x69 : Nat) (x70 x71 : FF) : St := ⟨(us 6 (vxb false :: (us 87 []))), [.box [(vci x65), (vci x66)], .box [(vci x67), (vci x68)], .box [(.own 3 0 x69), (vcn)], .arr kP x69 x70, .arr kP 4 x71]⟩
def s154v7 (x65 x66 x67 x68 : Int) (x69 : Nat) (x70 x71 : FF) : St := ⟨(us 94 []), [.box [(vci x65), (vci x66)], .box [(vci x67), (vci x68)], .box [(.own 3 0 x69), (vcn)], .arr kP x69 x70, .arr kP 4 x71]⟩
def L154v3 {ρ : Type} (fuel : Nat) (x62 : Nat) (x63 : FF) (x65 x66 x67 x68 : Int) (x69 : Nat) (x70 x71 : FF) : Nat → Int → (Option ρ) → (Option ρ) → Option ρ
  | 0, _, _, _ => none
  | m + 1, x64, k0, k1 =>
    (bif (decide (x64 < (Int.ofNat x62))) then (bif (inb x64 x62) then (bif ((Int.ofNat x62) == 0) then none else (bif (inb (Int.tmod (w64 (x64 + 1)) (Int.ofNat x62)) x62) then (ob (F153 fuel (CV.int (x63 (Int.toNat x64) 0)) (CV.int (x63 (Int.toNat x64) 1)) (CV.int (x63 (Int.toNat (Int.tmod (w64 (x64 + 1)) (Int.ofNat x62))) 0)) (CV.int (x63 (Int.toNat (Int.tmod (w64 (x64 + 1)) (Int.ofNat x62))) 1)) x65 x66 x67 x68) fun x72 => (bif x72 then k0 else (L154v3 fuel x62 x63 x65 x66 x67 x68 x69 x70 x71 m (w64 (x64 + 1)) k0 k1))) else none)) else none) else k1)
theorem nl154v3 {ρ σ : Type} (fuel : Nat) (x62 : Nat) (x63 : FF) (x65 x66 x67 x68 : Int) (x69 : Nat) (x70 x71 : FF) (g : ρ → Option σ) : ∀ (m : Nat) (x64 : Int) (k0 : Option ρ) (k1 : Option ρ), ob (L154v3 fuel x62 x63 x65 x66 x67 x68 x69 x70 x71 m x64 k0 k1) g = L154v3 fuel x62 x63 x65 x66 x67 x68 x69 x70 x71 m x64 (ob k0 g) (ob k1 g)
  | 0, _, _, _ => rfl
  | m + 1, x64, k0, k1 => by
    simp only [L154v3, ob_bif, ob_ob, ob_none, nl154v3 fuel x62 x63 x65 x66 x67 x68 x69 x70 x71 g m]
theorem r154v3 (fuel : Nat) (m : Nat) {ρ : Type} (k : Ex → St → Option ρ) (x62 : Nat) (x63 : FF) (x65 x66 x67 x68 : Int) (x69 : Nat) (x70 x71 : FF) (x64 : Int) :
    loopH (B154v3 (C80 fuel) fuel) N154v3 (m + 1) (s154v5 x62 x63 x64 x65 x66 x67 x68 x69 x70 x71) k =
    (bif (decide (x64 < (Int.ofNat x62))) then (bif (inb x64 x62) then (bif ((Int.ofNat x62) == 0) then none else (bif (inb (Int.tmod (w64 (x64 + 1)) (Int.ofNat x62)) x62) then (ob (F153 fuel (CV.int (x63 (Int.toNat x64) 0)) (CV.int (x63 (Int.toNat x64) 1)) (CV.int (x63 (Int.toNat (Int.tmod (w64 (x64 + 1)) (Int.ofNat x62))) 0)) (CV.int (x63 (Int.toNat (Int.tmod (w64 (x64 + 1)) (Int.ofNat x62))) 1)) x65 x66 x67 x68) fun x72 => (bif x72 then (k .ret (s154v6 x65 x66 x67 x68 x69 x70 x71)) else (loopH (B154v3 (C80 fuel) fuel) N154v3 m (s154v5 x62 x63 (w64 (x64 + 1)) x65 x66 x67 x68 x69 x70 x71) k))) else none)) else none) else (k (.exit 4) (s154v7 x65 x66 x67 x68 x69 x70 x71))) := by kernel_rfl
theorem q154v3 (fuel : Nat) (x62 : Nat) (x63 : FF) (x65 x66 x67 x68 : Int) (x69 : Nat) (x70 x71 : FF) {ρ : Type} (k : Ex → St → Option ρ) : ∀ (m : Nat) (x64 : Int),
    loopH (B154v3 (C80 fuel) fuel) N154v3 m (s154v5 x62 x63 x64 x65 x66 x67 x68 x69 x70 x71) k = L154v3 fuel x62 x63 x65 x66 x67 x68 x69 x70 x71 m x64 (k .ret (s154v6 x65 x66 x67 x68 x69 x70 x71)) (k (.exit 4) (s154v7 x65 x66 x67 x68 x69 x70 x71))
  | 0, _ => rfl
  | m + 1, x64 => by
    rw [r154v3]
    simp only [L154v3, q154v3 fuel x62 x63 x65 x66 x67 x68 x69 x70 x71 k m]
def D154 {ρ : Type} (fuel : Nat) (x1 : Nat) (x2 : FF) (x3 x4 x5 x6 : Int) (k : Bool → Option ρ) : Option ρ :=
  (L154v1 fuel x1 x2 x3 x4 x5 x6 fuel (w64 ((Int.ofNat x1) - 1)) 0 (fun _ _ => .any)
    (fun x25 x26 => (ob (F14 fuel x25 x26 0 (fun _ _ => .any)) fun x27 => (bif ((x27 != 0) == false) then (ob (F23 fuel x25 x26 0 (fun _ _ => .any) (w64 (Int.tdiv (w64 (x3 + x5)) 2)) (w64 (Int.tdiv (w64 (x4 + x6)) 2))) fun x28 => (bif (decide (x28 < 1)) then (k false) else (L154v2 fuel x1 x2 x3 x4 x5 x6 x25 x26 (rowsF 2 [(.i .i64 x3), (.i .i64 x4), (.i .i64 x5), (.i .i64 x4), (.i .i64 x5), (.i .i64 x6), (.i .i64 x3), (.i .i64 x6)]) fuel 0
    (k false)
    (L154v3 fuel x1 x2 x3 x4 x5 x6 x25 x26 (rowsF 2 [(.i .i64 x3), (.i .i64 x4), (.i .i64 x5), (.i .i64 x4), (.i .i64 x5), (.i .i64 x6), (.i .i64 x3), (.i .i64 x6)]) fuel 0
    (k false)
    (k true))))) else (k false)))))
def F154 (fuel : Nat) (x1 : Nat) (x2 : FF) (x3 x4 x5 x6 : Int) : Option (Bool) := D154 fuel x1 x2 x3 x4 x5 x6 some
theorem f154 {ρ : Type} (fuel : Nat) (x1 : Nat) (x2 : FF) (x3 x4 x5 x6 : Int) (k : (Bool) → Option ρ) : D154 fuel x1 x2 x3 x4 x5 x6 k = ob (F154 fuel x1 x2 x3 x4 x5 x6) k := by
  simp only [F154, D154, ob_bif, ob_ob, ob_none, ob_some, nl154v1, nl154v2, nl154v3]
def s154v8 (x1 : Nat) (x2 : FF) (x3 x4 x5 x6 : Int) : St := ⟨[.x (.c (.ro false kP x1 x2)), .agg [(vci x3), (vci x4)], .agg [(vci x5), (vci x6)], .undef, .x (.ptr 0 0), .x (.ptr 1 0), vxb false, .x (.ptr 2 0), vxi (w64 ((Int.ofNat x1) - 1)), .undef, .undef, .undef, .x (.c (.ro false kP x1 x2)), vxi (Int.ofNat x1), vxi (w64 ((Int.ofNat x1) - 1)), .undef, .undef, .undef, .undef, .undef, .undef, .undef, .undef, .undef, .undef, .undef, .undef, .undef, .undef, .undef, .undef, .undef, .undef, .undef, .undef, .undef, .undef, .undef, .undef, .undef, .undef, .undef, .undef, .undef, .undef, .undef, .undef, .undef, .undef, .undef, .undef, .undef, .undef, .undef, .undef, .undef, .undef, .undef, .undef, .undef, .undef, .undef, .undef, .undef, .undef, .undef, .undef, .undef, .undef, .undef, .undef, .undef, .undef, .undef, .undef, .undef, .undef, .undef, .undef, .undef, .undef, .undef, .undef, .undef, .undef, .undef, .undef, .undef, .undef, .undef, .undef, .undef, .undef, .undef], [.box [(vci x3), (vci x4)], .box [(vci x5), (vci x6)], .box [(.own 3 0 0), (vcn)], .arr kP 0 nilF]⟩
theorem walk154 (fuel : Nat) (x1 : Nat) (x2 : FF) (x3 x4 x5 x6 : Int) :
    evalF (C80 fuel) fuel A40 [.v (.ro false kP x1 x2), .agg [(vi x3), (vi x4)], .agg [(vi x5), (vi x6)]] =
    (loopN (B154v1 (C80 fuel) fuel) N154v1 fuel (s154v8 x1 x2 x3 x4 x5 x6) (kBlk 0 (kSeq (C80 fuel) fuel (8 :: (rl 12 16 [])) A40v12 (finish A40)))) := by kernel_rfl
theorem t154v1 (fuel : Nat) {ρ : Type} (k : Ex → St → Option ρ) (x1 : Nat) (x2 : FF) (x3 x4 x5 x6 : Int) :
    loopN (B154v1 (C80 fuel) fuel) N154v1 fuel (s154v8 x1 x2 x3 x4 x5 x6) k =
    L154v1 fuel x1 x2 x3 x4 x5 x6 fuel (w64 ((Int.ofNat x1) - 1)) 0 nilF (fun x23 x24 => k (.exit 0) (s154v1 x1 x2 x3 x4 x5 x6 x23 x24)) :=
  (loopN_at (st' := (s154v0 x1 x2 (w64 ((Int.ofNat x1) - 1)) x3 x4 x5 x6 0 nilF)) (by kernel_rfl)).trans (q154v1 fuel x1 x2 x3 x4 x5 x6 k fuel (w64 ((Int.ofNat x1) - 1)) 0 nilF)
def s154v9 (x1 : Nat) (x2 : FF) (x3 x4 x5 x6 : Int) (x25 : Nat) (x26 : FF) : St := ⟨(.x (.c (.ro false kP x1 x2)) :: (us 3 (.x (.ptr 0 0) :: .x (.ptr 1 0) :: .u :: .x (.ptr 2 0) :: .u :: .x (.own 4 0 4) :: vxi 0 :: (us 38 (.agg [(vci x3), (vci x4)] :: .x (.ptr 1 0) :: vxi x5 :: .x (.ptr 0 1) :: vxi x4 :: .agg [(vci x5), (vci x4)] :: .agg [(vci x5), (vci x6)] :: .x (.ptr 0 0) :: vxi x3 :: .x (.ptr 1 1) :: vxi x6 :: .agg [(vci x3), (vci x6)] :: .x (.own 4 0 4) :: (us 32 [])))))), [.box [(vci x3), (vci x4)], .box [(vci x5), (vci x6)], .box [(.own 3 0 x25), (vcn)], .arr kP x25 x26, .arr kP 4 (rowsF 2 [(vi x3), (vi x4), (vi x5), (vi x4), (vi x5), (vi x6), (vi x3), (vi x6)])]⟩
theorem g154v2 (fuel : Nat) (x1 : Nat) (x2 : FF) (x3 x4 x5 x6 : Int) (x25 : Nat) (x26 : FF) :
    (kBlk 0 (kSeq (C80 fuel) fuel (8 :: (rl 12 16 [])) A40v12 (finish A40))) (.exit 0) (s154v1 x1 x2 x3 x4 x5 x6 x25 x26) =
    (ob (F14 fuel x25 x26 0 nilF) fun x27 => (bif ((x27 != 0) == false) then (ob (F23 fuel x25 x26 0 nilF (w64 (Int.tdiv (w64 (x3 + x5)) 2)) (w64 (Int.tdiv (w64 (x4 + x6)) 2))) fun x28 => (bif (decide (x28 < 1)) then (some [.v (.b false)]) else (loopN (B154v2 (C80 fuel) fuel) N154v2 fuel (s154v9 x1 x2 x3 x4 x5 x6 x25 x26) (kBlk 2 (kSeq (C80 fuel) fuel (6 :: 10 :: (rl 62 11 [])) A40v10 (finish A40)))))) else (some [.v (.b false)]))) := by kernel_rfl
theorem t154v3 (fuel : Nat) {ρ : Type} (k : Ex → St → Option ρ) (x1 : Nat) (x2 : FF) (x3 x4 x5 x6 : Int) (x25 : Nat) (x26 : FF) :
    loopN (B154v2 (C80 fuel) fuel) N154v2 fuel (s154v9 x1 x2 x3 x4 x5 x6 x25 x26) k =
    L154v2 fuel x1 x2 x3 x4 x5 x6 x25 x26 (rowsF 2 [(vi x3), (vi x4), (vi x5), (vi x4), (vi x5), (vi x6), (vi x3), (vi x6)]) fuel 0 (k .ret (s154v3 x3 x4 x5 x6 x25 x26 (rowsF 2 [(vi x3), (vi x4), (vi x5), (vi x4), (vi x5), (vi x6), (vi x3), (vi x6)]))) (k (.exit 2) (s154v4 x1 x2 x3 x4 x5 x6 x25 x26 (rowsF 2 [(vi x3), (vi x4), (vi x5), (vi x4), (vi x5), (vi x6), (vi x3), (vi x6)]))) :=
  (loopN_at (st' := (s154v2 x1 x2 0 x3 x4 x5 x6 x25 x26 (rowsF 2 [(vi x3), (vi x4), (vi x5), (vi x4), (vi x5), (vi x6), (vi x3), (vi x6)]))) (by kernel_rfl)).trans (q154v2 fuel x1 x2 x3 x4 x5 x6 x25 x26 (rowsF 2 [(vi x3), (vi x4), (vi x5), (vi x4), (vi x5), (vi x6), (vi x3), (vi x6)]) k fuel 0)
theorem g154v4 (fuel : Nat) (x3 x4 x5 x6 : Int) (x25 : Nat) (x26 : FF) :
    (kBlk 2 (kSeq (C80 fuel) fuel (6 :: 10 :: (rl 62 11 [])) A40v10 (finish A40))) .ret (s154v3 x3 x4 x5 x6 x25 x26 (rowsF 2 [(vi x3), (vi x4), (vi x5), (vi x4), (vi x5), (vi x6), (vi x3), (vi x6)])) =
    (some [.v (.b false)]) := by kernel_rfl
def s154v10 (x1 : Nat) (x2 : FF) (x3 x4 x5 x6 : Int) (x25 : Nat) (x26 : FF) : St := ⟨(.x (.c (.ro false kP x1 x2)) :: (us 3 (.x (.ptr 0 0) :: .x (.ptr 1 0) :: (us 5 (vxi 0 :: (us 82 [])))))), [.box [(vci x3), (vci x4)], .box [(vci x5), (vci x6)], .box [(.own 3 0 x25), (vcn)], .arr kP x25 x26, .arr kP 4 (rowsF 2 [(vi x3), (vi x4), (vi x5), (vi x4), (vi x5), (vi x6), (vi x3), (vi x6)])]⟩
theorem g154v5 (fuel : Nat) (x1 : Nat) (x2 : FF) (x3 x4 x5 x6 : Int) (x25 : Nat) (x26 : FF) :
    (kBlk 2 (kSeq (C80 fuel) fuel (6 :: 10 :: (rl 62 11 [])) A40v10 (finish A40))) (.exit 2) (s154v4 x1 x2 x3 x4 x5 x6 x25 x26 (rowsF 2 [(vi x3), (vi x4), (vi x5), (vi x4), (vi x5), (vi x6), (vi x3), (vi x6)])) =
    (loopN (B154v3 (C80 fuel) fuel) N154v3 fuel (s154v10 x1 x2 x3 x4 x5 x6 x25 x26) (kBlk 4 (kSeq (C80 fuel) fuel (6 :: 11 :: (rl 73 21 [])) A40v9 (finish A40)))) := by kernel_rfl
theorem t154v6 (fuel : Nat) {ρ : Type} (k : Ex → St → Option ρ) (x1 : Nat) (x2 : FF) (x3 x4 x5 x6 : Int) (x25 : Nat) (x26 : FF) :
    loopN (B154v3 (C80 fuel) fuel) N154v3 fuel (s154v10 x1 x2 x3 x4 x5 x6 x25 x26) k =
    L154v3 fuel x1 x2 x3 x4 x5 x6 x25 x26 (rowsF 2 [(vi x3), (vi x4), (vi x5), (vi x4), (vi x5), (vi x6), (vi x3), (vi x6)]) fuel 0 (k .ret (s154v6 x3 x4 x5 x6 x25 x26 (rowsF 2 [(vi x3), (vi x4), (vi x5), (vi x4), (vi x5), (vi x6), (vi x3), (vi x6)]))) (k (.exit 4) (s154v7 x3 x4 x5 x6 x25 x26 (rowsF 2 [(vi x3), (vi x4), (vi x5), (vi x4), (vi x5), (vi x6), (vi x3), (vi x6)]))) :=
  (loopN_at (st' := (s154v5 x1 x2 0 x3 x4 x5 x6 x25 x26 (rowsF 2 [(vi x3), (vi x4), (vi x5), (vi x4), (vi x5), (vi x6), (vi x3), (vi x6)]))) (by kernel_rfl)).trans (q154v3 fuel x1 x2 x3 x4 x5 x6 x25 x26 (rowsF 2 [(vi x3), (vi x4), (vi x5), (vi x4), (vi x5), (vi x6), (vi x3), (vi x6)]) k fuel 0)
theorem g154v7 (fuel : Nat) (x3 x4 x5 x6 : Int) (x25 : Nat) (x26 : FF) :
    (kBlk 4 (kSeq (C80 fuel) fuel (6 :: 11 :: (rl 73 21 [])) A40v9 (finish A40))) .ret (s154v6 x3 x4 x5 x6 x25 x26 (rowsF 2 [(vi x3), (vi x4), (vi x5), (vi x4), (vi x5), (vi x6), (vi x3), (vi x6)])) =
    (some [.v (.b false)]) := by kernel_rfl
theorem g154v8 (fuel : Nat) (x3 x4 x5 x6 : Int) (x25 : Nat) (x26 : FF) :
    (kBlk 4 (kSeq (C80 fuel) fuel (6 :: 11 :: (rl 73 21 [])) A40v9 (finish A40))) (.exit 4) (s154v7 x3 x4 x5 x6 x25 x26 (rowsF 2 [(vi x3), (vi x4), (vi x5), (vi x4), (vi x5), (vi x6), (vi x3), (vi x6)])) =
    (some [.v (.b true)]) := by kernel_rfl
theorem e154 (fuel : Nat) (x1 : Nat) (x2 : FF) (x3 x4 x5 x6 : Int) : evalF (C80 fuel) fuel A40 [.v (.ro false kP x1 x2), .agg [(vi x3), (vi x4)], .agg [(vi x5), (vi x6)]] = ob (F154 fuel x1 x2 x3 x4 x5 x6) fun t => some [.v (.b t)] := by
  rw [walk154, ← f154]
  simp only [D154, t154v1, g154v2, t154v3, g154v4, g154v5, t154v6, g154v7, g154v8]
def O154 (fuel : Nat) : Ora where
  o := fun args {ρ} K =>
    wcL kP args fun y4 y5 l2 =>
    wc l2 fun a6 l7 =>
    wagg a6 fun l8 =>
    wdI .i64 l8 fun y12 l10 =>
    wdI .i64 l10 fun y16 l14 =>
    wn l14 <|
    wc l7 fun a17 l18 =>
    wagg a17 fun l19 =>
    wdI .i64 l19 fun y23 l21 =>
    wdI .i64 l21 fun y27 l25 =>
    wn l25 <|
    wn l18 <|
    (ob (F154 fuel y4 y5 y12 y16 y23 y27) fun t => K [.v (.b t)])
  nat := fun args {ρ} K => by
    simp only [bind_wagg, bind_wc, bind_wcL, bind_wdI, bind_wn, bind_ob, Option.bind_some]
theorem d154 {P : Program} (fuel : Nat) (hmix : P.follows .mixedOrders = true) (hC : Sound P (C80 fuel)) (hF : FFits P 40 A40) (args res : List A) (h : (O154 fuel).o args some = some res) : Den P 40 args res := by
  obtain ⟨a1, y4, y5, l2, rfl, h3, z0⟩ := inv_wcL h
  obtain ⟨a6, l7, rfl, z1⟩ := inv_wc z0
  obtain ⟨l8, rfl, z2⟩ := inv_wagg z1
  obtain ⟨a9, y12, l10, rfl, h11, z3⟩ := inv_wdI z2
  obtain ⟨a13, y16, l14, rfl, h15, z4⟩ := inv_wdI z3
  obtain ⟨hn, z5⟩ := inv_wn z4
  cases hn
  obtain ⟨a17, l18, rfl, z6⟩ := inv_wc z5
  obtain ⟨l19, rfl, z7⟩ := inv_wagg z6
  obtain ⟨a20, y23, l21, rfl, h22, z8⟩ := inv_wdI z7
  obtain ⟨a24, y27, l25, rfl, h26, z9⟩ := inv_wdI z8
  obtain ⟨hn, z10⟩ := inv_wn z9
  cases hn
  obtain ⟨hn, z11⟩ := inv_wn z10
  cases hn
  exact Den.weaken (.cons h3 (.cons (WkA.agg (.cons h11 (.cons h15 .nil))) (.cons (WkA.agg (.cons h22 (.cons h26 .nil))) .nil))) (evalF_sound hmix hC hF ((e154 fuel y4 y5 y12 y16 y23 y27).trans z11))
def C81 (fuel : Nat) : Oracle := (C80 fuel).add 40 (fun _ => true) (O154 fuel)
def A15v1 : AC := (.region 7 [mv 70 8, o1 71 (bk .add 3 70 1), o1 8 (sg 71)] 0 none)
def A15v2 : AC := (.seq (.block 1
  (.seq (.region 8 [o1 72 (fa 31 2 6 6), o1 73 (fa 25 72 1 1), o1 74 (lo 23 73), mv 75 8, o1 76 (.indexAddr 23 22 1 (tm 74) (tm 75)), o1 77 (lo 22 76), o1 78 (ln 40 2 6), o1 79 (ln 40 2 7), o1 80 (cs 40 [77, 78, 79] [22, 40, 40])] 0 (some [[], [0], [0, 1], [], (rl 0 4 []), (rl 0 5 []), [], [], (rl 0 8 [])])) []
    (.cond (tm 80)
    (.seq (.region 9 [o1 4 (sb true)] 0 none) []
      (.ret (rl 0 4 (rl 5 76 []))))
    .skip))) (4 :: (rl 72 9 []))
  A15v1)
def A15v3 : AC := (.seq (.seq (.region 6 [mv 64 8, o1 65 (fa 31 2 6 6), o1 66 (fa 25 65 1 1), o1 67 (lo 23 66), o1 68 (.len 23 false (tm 67)), o1 69 (bt .lss 3 64 68)] 0 none) []
  (.cond (tm 69)
  .skip
  (.exit 0 (rl 0 81 [])))) (rl 64 6 [])
  A15v2)
def A15v4 : AC := (.seq (.region 10 [o1 4 (sb false)] 0 none) []
  (.ret (rl 0 4 (rl 5 76 []))))
def A15v5 : AC := (.seq (.region 3 [o1 38 (fa 42 3 2 3), o1 39 (lo 3 38), o1 40 (bk .add 3 39 1), o1 41 (bk .quo 3 40 2), o1 5 (sg 41)] 0 none) []
  (.seq (.region 4 [o1 42 (fa 42 3 1 1), o1 43 (fa 40 42 0 0), o1 44 (lo 3 43), mv 45 5, o1 46 (bt .sub 3 44 45), o1 47 (fa 42 3 1 1), o1 48 (fa 40 47 1 1), o1 49 (lo 3 48), mv 50 5, o1 51 (bt .sub 3 49 50), o1 52 (.build 40 [vci 0, vci 0] [(0, 1), (1, 1)] 0 [(0, (tm 46)), (1, (tm 51))]), o1 53 (fa 42 3 1 1), o1 54 (fa 40 53 0 0), o1 55 (lo 3 54), mv 56 5, o1 57 (bt .add 3 55 56), o1 58 (fa 42 3 1 1), o1 59 (fa 40 58 1 1), o1 60 (lo 3 59), mv 61 5, o1 62 (bt .add 3 60 61), o1 63 (.build 40 [vci 0, vci 0] [(0, 1), (1, 1)] 0 [(0, (tm 57)), (1, (tm 62))]), o1 6 (.alloc 0 40 [vci 0, vci 0]), o1 7 (.alloc 1 40 [vci 0, vci 0]), o0 (.store 40 2 (tm 6) (tm 52)), o0 (.store 40 2 (tm 7) (tm 63))] 2 (some [[], [0], [0, 1], [], (rl 0 4 []), [], [5], [5, 6], [], (rl 5 4 []), (rl 0 10 []), [], [11], [11, 12], [], (rl 11 4 []), [], [16], [16, 17], [], (rl 16 4 []), (rl 11 10 []), [], [], (rl 0 11 [22, 23]), (rl 0 25 [])])) []
  (.seq (.seq (.region 5 [o1 8 (sk 0)] 0 none) []
  (.block 0
  (.loop [] (0 :: 1 :: 3 :: 4 :: 5 :: (rl 9 72 []))
    A15v3))) (4 :: 8 :: (rl 64 17 []))
  A15v4)))
def A15 : AF := ⟨81, [.tmp 4],
  (.seq (.region 0 [o1 2 (bx 0 31 0), o1 3 (bx 1 42 1), o1 4 (sb false)] 2 none) []
  (.seq (.seq (.region 1 [o1 9 (fa 42 3 0 0), o1 10 (lo 9 9), o1 11 (fa 31 2 0 0), o1 12 (lo 9 11), o1 13 (bt .neq 9 10 12), mv 14 13, og 15 (fa 42 3 2 3) 14 false, og 16 (lo 3 15) 14 false, og 17 (bk .lss 3 16 1) 14 false, o1 18 (pa 14 17), mv 19 18, og 20 (fa 42 3 2 3) 19 false, og 21 (lo 3 20) 19 false, og 22 (bk .gtr 3 21 10000) 19 false, o1 23 (pa 19 22), mv 24 23, og 25 (fa 42 3 1 1) 24 false, og 26 (fa 40 25 0 0) 24 false, og 27 (lo 3 26) 24 false, og 28 (cs 39 [27] [3]) 24 false, og 29 (.unOp .not 4 (tm 28)) 24 false, o1 30 (pa 24 29), mv 31 30, og 32 (fa 42 3 1 1) 31 false, og 33 (fa 40 32 1 1) 31 false, og 34 (lo 3 33) 31 false, og 35 (cs 39 [34] [3]) 31 false, og 36 (.unOp .not 4 (tm 35)) 31 false, o1 37 (pa 31 36)] 0 none) []
  (.cond (tm 37)
  (.seq (.region 2 [o1 4 (sb false)] 0 none) []
    (.ret (rl 0 4 (rl 5 76 []))))
  .skip)) (4 :: (rl 9 29 []))
  A15v5))⟩
def B155v1 (C : Oracle) (fuel : Nat) {ρ : Type} : St → (Ex → St → Option ρ) → Option ρ := fun st k => evalC C fuel A15v3 st k
def N155v1 : St → Option St := fun s => s.norm (0 :: 1 :: 3 :: 4 :: 5 :: (rl 9 72 [])) 4
def s155v0 (x19 : Int) (x20 : Nat → CV) (x21 : ByteArray) (x22 x23 x24 x25 x26 x27 x28 : Int) : St := ⟨(.u :: .u :: .x (.ptr 0 0) :: (us 3 (.x (.ptr 2 0) :: .x (.ptr 3 0) :: vxi x19 :: (us 72 [])))), [.box (pjc kR0 x20), .box [(vcs x21), (vci x22), (vci x23), (vci x24)], .box [(vci x25), (vci x26)], .box [(vci x27), (vci x28)]]⟩
def s155v1 (x20 : Nat → CV) (x21 : ByteArray) (x22 x23 x24 x25 x26 x27 x28 : Int) : St := ⟨(us 4 (vxb true :: (us 76 []))), [.box (pjc kR0 x20), .box [(vcs x21), (vci x22), (vci x23), (vci x24)], .box [(vci x25), (vci x26)], .box [(vci x27), (vci x28)]]⟩
def s155v2 (x20 : Nat → CV) (x21 : ByteArray) (x22 x23 x24 x25 x26 x27 x28 : Int) : St := ⟨(us 81 []), [.box (pjc kR0 x20), .box [(vcs x21), (vci x22), (vci x23), (vci x24)], .box [(vci x25), (vci x26)], .box [(vci x27), (vci x28)]]⟩
def L155v1 {ρ : Type} (fuel : Nat) (x20 : Nat → CV) (x21 : ByteArray) (x22 x23 x24 x25 x26 x27 x28 : Int) : Nat → Int → (Option ρ) → (Option ρ) → Option ρ
  | 0, _, _, _ => none
  | m + 1, x19, k0, k1 =>
    (bif (decide (x19 < (Int.ofNat (CV.len (x20 7))))) then (bif (inb x19 (CV.len (x20 7))) then (ob (F154 fuel (CV.len ((CV.el (x20 7)) (Int.toNat x19) 0)) (CV.el ((CV.el (x20 7)) (Int.toNat x19) 0)) x25 x26 x27 x28) fun x29 => (bif x29 then k0 else (L155v1 fuel x20 x21 x22 x23 x24 x25 x26 x27 x28 m (w64 (x19 + 1)) k0 k1))) else none) else k1)
theorem nl155v1 {ρ σ : Type} (fuel : Nat) (x20 : Nat → CV) (x21 : ByteArray) (x22 x23 x24 x25 x26 x27 x28 : Int) (g : ρ → Option σ) : ∀ (m : Nat) (x19 : Int) (k0 : Option ρ) (k1 : Option ρ), ob (L155v1 fuel x20 x21 x22 x23 x24 x25 x26 x27 x28 m x19 k0 k1) g = L155v1 fuel x20 x21 x22 x23 x24 x25 x26 x27 x28 m x19 (ob k0 g) (ob k1 g)
  | 0, _, _, _ => rfl
  | m + 1, x19, k0, k1 => by
    simp only [L155v1, ob_bif, ob_ob, ob_none, nl155v1 fuel x20 x21 x22 x23 x24 x25 x26 x27 x28 g m]
theorem r155v1 (fuel : Nat) (m : Nat) {ρ : Type} (k : Ex → St → Option ρ) (x20 : Nat → CV) (x21 : ByteArray) (x22 x23 x24 x25 x26 x27 x28 x19 : Int) :
    loopH (B155v1 (C81 fuel) fuel) N155v1 (m + 1) (s155v0 x19 x20 x21 x22 x23 x24 x25 x26 x27 x28) k =
    (bif (decide (x19 < (Int.ofNat (CV.len (x20 7))))) then (bif (inb x19 (CV.len (x20 7))) then (ob (F154 fuel (CV.len ((CV.el (x20 7)) (Int.toNat x19) 0)) (CV.el ((CV.el (x20 7)) (Int.toNat x19) 0)) x25 x26 x27 x28) fun x29 => (bif x29 then (k .ret (s155v1 x20 x21 x22 x23 x24 x25 x26 x27 x28)) else (loopH (B155v1 (C81 fuel) fuel) N155v1 m (s155v0 (w64 (x19 + 1)) x20 x21 x22 x23 x24 x25 x26 x27 x28) k))) else none) else (k (.exit 0) (s155v2 x20 x21 x22 x23 x24 x25 x26 x27 x28))) := by kernel_rfl
theorem q155v1 (fuel : Nat) (x20 : Nat → CV) (x21 : ByteArray) (x22 x23 x24 x25 x26 x27 x28 : Int) {ρ : Type} (k : Ex → St → Option ρ) : ∀ (m : Nat) (x19 : Int),
    loopH (B155v1 (C81 fuel) fuel) N155v1 m (s155v0 x19 x20 x21 x22 x23 x24 x25 x26 x27 x28) k = L155v1 fuel x20 x21 x22 x23 x24 x25 x26 x27 x28 m x19 (k .ret (s155v1 x20 x21 x22 x23 x24 x25 x26 x27 x28)) (k (.exit 0) (s155v2 x20 x21 x22 x23 x24 x25 x26 x27 x28))
  | 0, _ => rfl
  | m + 1, x19 => by
    rw [r155v1]
    simp only [L155v1, q155v1 fuel x20 x21 x22 x23 x24 x25 x26 x27 x28 k m]
def D155 {ρ : Type} (fuel : Nat) (x1 : Nat → CV) (x2 : ByteArray) (x3 x4 x5 : Int) (k : Bool → Option ρ) : Option ρ :=
  (bif ((!(ByteArray.toList x2 == ByteArray.toList (CV.str (x1 0)))) == false) then (bif ((decide (x5 < 1)) == false) then (bif ((decide (x5 > 10000)) == false) then (ob (F151 fuel x3) fun x6 => (bif ((!x6) == false) then (ob (F151 fuel x4) fun x7 => (bif (!x7) then (k false) else (L155v1 fuel x1 x2 x3 x4 x5 (w64 (x3 - (w64 (Int.tdiv (w64 (x5 + 1)) 2)))) (w64 (x4 - (w64 (Int.tdiv (w64 (x5 + 1)) 2)))) (w64 (x3 + (w64 (Int.tdiv (w64 (x5 + 1)) 2)))) (w64 (x4 + (w64 (Int.tdiv (w64 (x5 + 1)) 2)))) fuel 0
    (k true)
    (k false)))) else (k false))) else (k false)) else (k false)) else (k false))
def F155 (fuel : Nat) (x1 : Nat → CV) (x2 : ByteArray) (x3 x4 x5 : Int) : Option (Bool) := D155 fuel x1 x2 x3 x4 x5 some
theorem f155 {ρ : Type} (fuel : Nat) (x1 : Nat → CV) (x2 : ByteArray) (x3 x4 x5 : Int) (k : (Bool) → Option ρ) : D155 fuel x1 x2 x3 x4 x5 k = ob (F155 fuel x1 x2 x3 x4 x5) k := by
  simp only [F155, D155, ob_bif, ob_ob, ob_none, ob_some, nl155v1]
def s155v3 (x1 : Nat → CV) (x2 : ByteArray) (x3 x4 x5 : Int) : St := ⟨(.agg (pjc kR0 x1) :: .agg [(vcs x2), (vci x3), (vci x4), (vci x5)] :: .x (.ptr 0 0) :: .x (.ptr 1 0) :: .u :: vxi (w64 (Int.tdiv (w64 (x5 + 1)) 2)) :: .x (.ptr 2 0) :: .x (.ptr 3 0) :: vxi 0 :: (us 29 [.x (.ptr 1 3), vxi x5, vxi (w64 (x5 + 1)), vxi (w64 (Int.tdiv (w64 (x5 + 1)) 2)), .x (.ptr 1 1), .x (.ptr 1 1), vxi x3, vxi (w64 (Int.tdiv (w64 (x5 + 1)) 2)), vxi (w64 (x3 - (w64 (Int.tdiv (w64 (x5 + 1)) 2)))), .x (.ptr 1 1), .x (.ptr 1 2), vxi x4, vxi (w64 (Int.tdiv (w64 (x5 + 1)) 2)), vxi (w64 (x4 - (w64 (Int.tdiv (w64 (x5 + 1)) 2)))), .agg [(vci (w64 (x3 - (w64 (Int.tdiv (w64 (x5 + 1)) 2))))), (vci (w64 (x4 - (w64 (Int.tdiv (w64 (x5 + 1)) 2)))))], .x (.ptr 1 1), .x (.ptr 1 1), vxi x3, vxi (w64 (Int.tdiv (w64 (x5 + 1)) 2)), vxi (w64 (x3 + (w64 (Int.tdiv (w64 (x5 + 1)) 2)))), .x (.ptr 1 1), .x (.ptr 1 2), vxi x4, vxi (w64 (Int.tdiv (w64 (x5 + 1)) 2)), vxi (w64 (x4 + (w64 (Int.tdiv (w64 (x5 + 1)) 2)))), .agg [(vci (w64 (x3 + (w64 (Int.tdiv (w64 (x5 + 1)) 2))))), (vci (w64 (x4 + (w64 (Int.tdiv (w64 (x5 + 1)) 2)))))], .undef, .undef, .undef, .undef, .undef, .undef, .undef, .undef, .undef, .undef, .undef, .undef, .undef, .undef, .undef, .undef, .undef])), [.box (pjc kR0 x1), .box [(vcs x2), (vci x3), (vci x4), (vci x5)], .box [(vci (w64 (x3 - (w64 (Int.tdiv (w64 (x5 + 1)) 2))))), (vci (w64 (x4 - (w64 (Int.tdiv (w64 (x5 + 1)) 2)))))], .box [(vci (w64 (x3 + (w64 (Int.tdiv (w64 (x5 + 1)) 2))))), (vci (w64 (x4 + (w64 (Int.tdiv (w64 (x5 + 1)) 2)))))]]⟩
theorem walk155 (fuel : Nat) (x1 : Nat → CV) (x2 : ByteArray) (x3 x4 x5 : Int) :
    evalF (C81 fuel) fuel A15 [.agg (pj kR0 x1), .agg [(.s x2), (vi x3), (vi x4), (vi x5)]] =
    (bif ((!(ByteArray.toList x2 == ByteArray.toList (CV.str (x1 0)))) == false) then (bif ((decide (x5 < 1)) == false) then (bif ((decide (x5 > 10000)) == false) then (ob (F151 fuel x3) fun x6 => (bif ((!x6) == false) then (ob (F151 fuel x4) fun x7 => (bif (!x7) then (some [.v (.b false)]) else (loopN (B155v1 (C81 fuel) fuel) N155v1 fuel (s155v3 x1 x2 x3 x4 x5) (kBlk 0 (kSeq (C81 fuel) fuel (4 :: 8 :: (rl 64 17 [])) A15v4 (finish A15)))))) else (some [.v (.b false)]))) else (some [.v (.b false)])) else (some [.v (.b false)])) else (some [.v (.b false)])) := by kernel_rfl
theorem t155v1 (fuel : Nat) {ρ : Type} (k : Ex → St → Option ρ) (x1 : Nat → CV) (x2 : ByteArray) (x3 x4 x5 : Int) :
    loopN (B155v1 (C81 fuel) fuel) N155v1 fuel (s155v3 x1 x2 x3 x4 x5) k =
    L155v1 fuel x1 x2 x3 x4 x5 (w64 (x3 - (w64 (Int.tdiv (w64 (x5 + 1)) 2)))) (w64 (x4 - (w64 (Int.tdiv (w64 (x5 + 1)) 2)))) (w64 (x3 + (w64 (Int.tdiv (w64 (x5 + 1)) 2)))) (w64 (x4 + (w64 (Int.tdiv (w64 (x5 + 1)) 2)))) fuel 0 (k .ret (s155v1 x1 x2 x3 x4 x5 (w64 (x3 - (w64 (Int.tdiv (w64 (x5 + 1)) 2)))) (w64 (x4 - (w64 (Int.tdiv (w64 (x5 + 1)) 2)))) (w64 (x3 + (w64 (Int.tdiv (w64 (x5 + 1)) 2)))) (w64 (x4 + (w64 (Int.tdiv (w64 (x5 + 1)) 2)))))) (k (.exit 0) (s155v2 x1 x2 x3 x4 x5 (w64 (x3 - (w64 (Int.tdiv (w64 (x5 + 1)) 2)))) (w64 (x4 - (w64 (Int.tdiv (w64 (x5 + 1)) 2)))) (w64 (x3 + (w64 (Int.tdiv (w64 (x5 + 1)) 2)))) (w64 (x4 + (w64 (Int.tdiv (w64 (x5 + 1)) 2)))))) :=
  (loopN_at (st' := (s155v0 0 x1 x2 x3 x4 x5 (w64 (x3 - (w64 (Int.tdiv (w64 (x5 + 1)) 2)))) (w64 (x4 - (w64 (Int.tdiv (w64 (x5 + 1)) 2)))) (w64 (x3 + (w64 (Int.tdiv (w64 (x5 + 1)) 2)))) (w64 (x4 + (w64 (Int.tdiv (w64 (x5 + 1)) 2)))))) (by kernel_rfl)).trans (q155v1 fuel x1 x2 x3 x4 x5 (w64 (x3 - (w64 (Int.tdiv (w64 (x5 + 1)) 2)))) (w64 (x4 - (w64 (Int.tdiv (w64 (x5 + 1)) 2)))) (w64 (x3 + (w64 (Int.tdiv (w64 (x5 + 1)) 2)))) (w64 (x4 + (w64 (Int.tdiv (w64 (x5 + 1)) 2)))) k fuel 0)
theorem g155v2 (fuel : Nat) (x1 : Nat → CV) (x2 : ByteArray) (x3 x4 x5 : Int) :
    (kBlk 0 (kSeq (C81 fuel) fuel (4 :: 8 :: (rl 64 17 [])) A15v4 (finish A15))) .ret (s155v1 x1 x2 x3 x4 x5 (w64 (x3 - (w64 (Int.tdiv (w64 (x5 + 1)) 2)))) (w64 (x4 - (w64 (Int.tdiv (w64 (x5 + 1)) 2)))) (w64 (x3 + (w64 (Int.tdiv (w64 (x5 + 1)) 2)))) (w64 (x4 + (w64 (Int.tdiv (w64 (x5 + 1)) 2))))) =
    (some [.v (.b true)]) := by kernel_rfl
theorem g155v3 (fuel : Nat) (x1 : Nat → CV) (x2 : ByteArray) (x3 x4 x5 : Int) :
    (kBlk 0 (kSeq (C81 fuel) fuel (4 :: 8 :: (rl 64 17 [])) A15v4 (finish A15))) (.exit 0) (s155v2 x1 x2 x3 x4 x5 (w64 (x3 - (w64 (Int.tdiv (w64 (x5 + 1)) 2)))) (w64 (x4 - (w64 (Int.tdiv (w64 (x5 + 1)) 2)))) (w64 (x3 + (w64 (Int.tdiv (w64 (x5 + 1)) 2)))) (w64 (x4 + (w64 (Int.tdiv (w64 (x5 + 1)) 2))))) =
    (some [.v (.b false)]) := by kernel_rfl
theorem e155 (fuel : Nat) (x1 : Nat → CV) (x2 : ByteArray) (x3 x4 x5 : Int) : evalF (C81 fuel) fuel A15 [.agg (pj kR0 x1), .agg [(.s x2), (vi x3), (vi x4), (vi x5)]] = ob (F155 fuel x1 x2 x3 x4 x5) fun t => some [.v (.b t)] := by
  rw [walk155, ← f155]
  simp only [D155, t155v1, g155v2, g155v3]
def O155 (fuel : Nat) : Ora where
  o := fun args {ρ} K =>
    wc args fun a1 l2 =>
    wrow kR0 a1 fun y3 =>
    wc l2 fun a5 l6 =>
    wagg a5 fun l7 =>
    wdS l7 fun y11 l9 =>
    wdI .i64 l9 fun y15 l13 =>
    wdI .i64 l13 fun y19 l17 =>
    wdI .i64 l17 fun y23 l21 =>
    wn l21 <|
    wn l6 <|
    (ob (F155 fuel y3 y11 y15 y19 y23) fun t => K [.v (.b t)])
  nat := fun args {ρ} K => by
    simp only [bind_wagg, bind_wc, bind_wdI, bind_wdS, bind_wn, bind_wrow, bind_ob, Option.bind_some]
theorem d155 {P : Program} (fuel : Nat) (hmix : P.follows .mixedOrders = true) (hC : Sound P (C81 fuel)) (hF : FFits P 15 A15) (args res : List A) (h : (O155 fuel).o args some = some res) : Den P 15 args res := by
  obtain ⟨a1, l2, rfl, z0⟩ := inv_wc h
  obtain ⟨y3, h4, z1⟩ := inv_wrow z0
  obtain ⟨a5, l6, rfl, z2⟩ := inv_wc z1
  obtain ⟨l7, rfl, z3⟩ := inv_wagg z2
  obtain ⟨a8, y11, l9, rfl, h10, z4⟩ := inv_wdS z3
  obtain ⟨a12, y15, l13, rfl, h14, z5⟩ := inv_wdI z4
  obtain ⟨a16, y19, l17, rfl, h18, z6⟩ := inv_wdI z5
  obtain ⟨a20, y23, l21, rfl, h22, z7⟩ := inv_wdI z6
  obtain ⟨hn, z8⟩ := inv_wn z7
  cases hn
  obtain ⟨hn, z9⟩ := inv_wn z8
  cases hn
  exact Den.weaken (.cons h4 (.cons (WkA.agg (.cons h10 (.cons h14 (.cons h18 (.cons h22 .nil))))) .nil)) (evalF_sound hmix hC hF ((e155 fuel y3 y11 y15 y19 y23).trans z9))
def C82 (fuel : Nat) : Oracle := (C81 fuel).add 15 (fun _ => true) (O155 fuel)
def A4v1 : AC := (.seq (.region 3 [o1 9 (ln 31 18 2), o1 10 (ln 42 4 3), o1 11 (cs 14 [9, 10] [31, 42]), o1 12 (ln 31 18 2), o1 13 (ln 42 4 3), o1 14 (cs 15 [12, 13] [31, 42]), o1 15 (.eqB false 4 (tm 11) (tm 14) 4), mv 16 15, og 17 (cs 10 [] []) 16 true, o1 18 (po 16 17), o1 4 (sg 18)] 0 (some [[], [], [0, 1], [], [], (rl 0 5 []), (rl 0 6 []), (rl 0 7 []), (rl 0 8 []), (rl 0 9 []), (rl 0 10 [])])) []
  (.ret (rl 0 4 (rl 5 14 []))))
def A4 : AF := ⟨19, [.tmp 4],
  (.seq (.region 0 [o1 2 (bx 0 31 0), o1 3 (bx 1 42 1), o1 4 (sb false)] 2 none) []
  (.seq (.seq (.region 1 [o1 5 (ln 31 18 2), o1 6 (cs 9 [5] [31]), o1 7 (.unOp .not 4 (tm 6))] 0 none) []
  (.cond (tm 7)
  (.seq (.region 2 [o1 8 (cs 10 [] []), o1 4 (sg 8)] 0 none) []
    (.ret (rl 0 4 (rl 5 14 []))))
  .skip)) (rl 4 5 [])
  A4v1))⟩
def D156 {ρ : Type} (fuel : Nat) (x1 : Nat → CV) (x2 : ByteArray) (x3 x4 x5 : Int) (k : Bool → Option ρ) : Option ρ :=
  (ob (F100 fuel (listF (pj kR0 x1))) fun x6 => (bif (!x6) then (ob (F132 fuel) fun x7 => (k x7)) else (ob (F129 fuel (listF (pj kR0 x1)) x2 x3 x4 x5) fun x11 => (ob (F155 fuel (listF (pj kR0 x1)) x2 x3 x4 x5) fun x12 => (bif ((x11 == x12) == true) then (ob (F132 fuel) fun x13 => (k x13)) else (k false))))))
def F156 (fuel : Nat) (x1 : Nat → CV) (x2 : ByteArray) (x3 x4 x5 : Int) : Option (Bool) := D156 fuel x1 x2 x3 x4 x5 some
theorem f156 {ρ : Type} (fuel : Nat) (x1 : Nat → CV) (x2 : ByteArray) (x3 x4 x5 : Int) (k : (Bool) → Option ρ) : D156 fuel x1 x2 x3 x4 x5 k = ob (F156 fuel x1 x2 x3 x4 x5) k := by
  simp only [F156, D156, ob_bif, ob_ob, ob_none, ob_some]
theorem walk156 (fuel : Nat) (x1 : Nat → CV) (x2 : ByteArray) (x3 x4 x5 : Int) :
    evalF (C82 fuel) fuel A4 [.agg (pj kR0 x1), .agg [(.s x2), (vi x3), (vi x4), (vi x5)]] =
    (ob (F100 fuel (listF (pj kR0 x1))) fun x6 => (bif (!x6) then (ob (F132 fuel) fun x7 => (some [.v (.b x7)])) else (ob (F129 fuel (listF (pj kR0 x1)) x2 x3 x4 x5) fun x11 => (ob (F155 fuel (listF (pj kR0 x1)) x2 x3 x4 x5) fun x12 => (bif ((x11 == x12) == true) then (ob (F132 fuel) fun x13 => (some [.v (.b x13)])) else (some [.v (.b false)])))))) := by kernel_rfl
theorem e156 (fuel : Nat) (x1 : Nat → CV) (x2 : ByteArray) (x3 x4 x5 : Int) : evalF (C82 fuel) fuel A4 [.agg (pj kR0 x1), .agg [(.s x2), (vi x3), (vi x4), (vi x5)]] = ob (F156 fuel x1 x2 x3 x4 x5) fun t => some [.v (.b t)] := by
  rw [walk156, ← f156]
  simp only [D156]
def O156 (fuel : Nat) : Ora where
  o := fun args {ρ} K =>
    wc args fun a1 l2 =>
    wrow kR0 a1 fun y3 =>
    wc l2 fun a5 l6 =>
    wagg a5 fun l7 =>
    wdS l7 fun y11 l9 =>
    wdI .i64 l9 fun y15 l13 =>
    wdI .i64 l13 fun y19 l17 =>
    wdI .i64 l17 fun y23 l21 =>
    wn l21 <|
    wn l6 <|
    (ob (F156 fuel y3 y11 y15 y19 y23) fun t => K [.v (.b t)])
  nat := fun args {ρ} K => by
    simp only [bind_wagg, bind_wc, bind_wdI, bind_wdS, bind_wn, bind_wrow, bind_ob, Option.bind_some]
theorem d156 {P : Program} (fuel : Nat) (hmix : P.follows .mixedOrders = true) (hC : Sound P (C82 fuel)) (hF : FFits P 4 A4) (args res : List A) (h : (O156 fuel).o args some = some res) : Den P 4 args res := by
  obtain ⟨a1, l2, rfl, z0⟩ := inv_wc h
  obtain ⟨y3, h4, z1⟩ := inv_wrow z0
  obtain ⟨a5, l6, rfl, z2⟩ := inv_wc z1
  obtain ⟨l7, rfl, z3⟩ := inv_wagg z2
  obtain ⟨a8, y11, l9, rfl, h10, z4⟩ := inv_wdS z3
  obtain ⟨a12, y15, l13, rfl, h14, z5⟩ := inv_wdI z4
  obtain ⟨a16, y19, l17, rfl, h18, z6⟩ := inv_wdI z5
  obtain ⟨a20, y23, l21, rfl, h22, z7⟩ := inv_wdI z6
  obtain ⟨hn, z8⟩ := inv_wn z7
  cases hn
  obtain ⟨hn, z9⟩ := inv_wn z8
  cases hn
  exact Den.weaken (.cons h4 (.cons (WkA.agg (.cons h10 (.cons h14 (.cons h18 (.cons h22 .nil))))) .nil)) (evalF_sound hmix hC hF ((e156 fuel y3 y11 y15 y19 y23).trans z9))
def C83 (fuel : Nat) : Oracle := (C82 fuel).add 4 (fun _ => true) (O156 fuel)
end Go.Eng.R13
