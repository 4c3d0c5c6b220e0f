/-
  The functions of the program, run on symbols; printed by decomp.py.
-/
import Derived.Test.YtbjfmobjdipehaaDoorDecT2
set_option linter.all false
set_option maxRecDepth 1000000
set_option maxHeartbeats 4000000
namespace Go.Eng.R13
open Go Go.RowKit Go.Eng
def A55v1 : AC := (.seq (.region 3 [o1 14 (ln 27 3 2), o1 15 (ln 27 3 3), o1 16 (cs 58 [14, 15] [27, 27]), o0 (.store 27 3 (tm 4) (tm 16))] 0 none) []
  (.ret (rl 0 4 (rl 5 12 []))))
def A55 : AF := ⟨17, [.cell 4 27 (some 3)],
  (.seq (.region 0 [o1 2 (bx 0 27 0), o1 3 (bx 1 27 1), o1 4 (.alloc 2 27 [vci 0, vci 0, vci 0])] 3 none) []
  (.seq (.seq (.region 1 [o1 5 (ln 27 3 2), o1 6 (cs 56 [5] [27]), o1 7 (.unOp .not 4 (tm 6)), mv 8 7, og 9 (ln 27 3 3) 8 false, og 10 (cs 56 [9] [27]) 8 false, og 11 (.unOp .not 4 (tm 10)) 8 false, o1 12 (pa 8 11)] 0 none) []
  (.cond (tm 12)
  (.seq (.region 2 [o1 13 (.build 27 [vci 0, vci 0, vci 0] [(0, 1), (1, 1), (2, 1)] 0 []), o0 (.store 27 3 (tm 4) (tm 13))] 0 none) []
    (.ret (rl 0 4 (rl 5 12 []))))
  .skip)) (rl 5 9 [])
  A55v1))⟩
def D138 {ρ : Type} (fuel : Nat) (x1 x2 x3 x4 x5 x6 : Int) (k : (Int × Int × Int) → Option ρ) : Option ρ :=
  (ob (F136 fuel x1 x2 x3) fun x7 => (bif ((!x7) == false) then (ob (F136 fuel x4 x5 x6) fun x8 => (bif (!x8) then (k (0, 0, 0)) else (ob (F137 fuel x1 x2 x3 x4 x5 x6) fun x9 => (k (x9.1, x9.2.1, x9.2.2))))) else (k (0, 0, 0))))
def F138 (fuel : Nat) (x1 x2 x3 x4 x5 x6 : Int) : Option (Int × Int × Int) := D138 fuel x1 x2 x3 x4 x5 x6 some
theorem f138 {ρ : Type} (fuel : Nat) (x1 x2 x3 x4 x5 x6 : Int) (k : (Int × Int × Int) → Option ρ) : D138 fuel x1 x2 x3 x4 x5 x6 k = ob (F138 fuel x1 x2 x3 x4 x5 x6) k := by
  simp only [F138, D138, ob_bif, ob_ob, ob_none, ob_some]
theorem walk138 (fuel : Nat) (x1 x2 x3 x4 x5 x6 : Int) :
    evalF (C81 fuel) fuel A55 [.agg [(vi x1), (vi x2), (vi x3)], .agg [(vi x4), (vi x5), (vi x6)]] =
    (ob (F136 fuel x1 x2 x3) fun x7 => (bif ((!x7) == false) then (ob (F136 fuel x4 x5 x6) fun x8 => (bif (!x8) then (some [.agg [(vi 0), (vi 0), (vi 0)]]) else (ob (F137 fuel x1 x2 x3 x4 x5 x6) fun x9 => (some [.agg [(vi x9.1), (vi x9.2.1), (vi x9.2.2)]])))) else (some [.agg [(vi 0), (vi 0), (vi 0)]]))) := by kernel_rfl
theorem e138 (fuel : Nat) (x1 x2 x3 x4 x5 x6 : Int) : evalF (C81 fuel) fuel A55 [.agg [(vi x1), (vi x2), (vi x3)], .agg [(vi x4), (vi x5), (vi x6)]] = ob (F138 fuel x1 x2 x3 x4 x5 x6) fun t => some [.agg [(vi t.1), (vi t.2.1), (vi t.2.2)]] := by
  rw [walk138, ← f138]
  simp only [D138]
def O138 (fuel : Nat) : Ora where
  o := fun args {ρ} K =>
    wc args fun a1 l2 =>
    wagg a1 fun l3 =>
    wdI .i64 l3 fun y7 l5 =>
    wdI .i64 l5 fun y11 l9 =>
    wdI .i64 l9 fun y15 l13 =>
    wn l13 <|
    wc l2 fun a16 l17 =>
    wagg a16 fun l18 =>
    wdI .i64 l18 fun y22 l20 =>
    wdI .i64 l20 fun y26 l24 =>
    wdI .i64 l24 fun y30 l28 =>
    wn l28 <|
    wn l17 <|
    (ob (F138 fuel y7 y11 y15 y22 y26 y30) fun t => K [.agg [(vi t.1), (vi t.2.1), (vi t.2.2)]])
  nat := fun args {ρ} K => by
    simp only [bind_wagg, bind_wc, bind_wdI, bind_wn, bind_ob, Option.bind_some]
theorem d138 {P : Program} (fuel : Nat) (hmix : P.follows .mixedOrders = true) (hC : Sound P (C81 fuel)) (hF : FFits P 55 A55) (args res : List A) (h : (O138 fuel).o args some = some res) : Den P 55 args res := by
  obtain ⟨a1, l2, rfl, z0⟩ := inv_wc h
  obtain ⟨l3, rfl, z1⟩ := inv_wagg z0
  obtain ⟨a4, y7, l5, rfl, h6, z2⟩ := inv_wdI z1
  obtain ⟨a8, y11, l9, rfl, h10, z3⟩ := inv_wdI z2
  obtain ⟨a12, y15, l13, rfl, h14, z4⟩ := inv_wdI z3
  obtain ⟨hn, z5⟩ := inv_wn z4
  cases hn
  obtain ⟨a16, l17, rfl, z6⟩ := inv_wc z5
  obtain ⟨l18, rfl, z7⟩ := inv_wagg z6
  obtain ⟨a19, y22, l20, rfl, h21, z8⟩ := inv_wdI z7
  obtain ⟨a23, y26, l24, rfl, h25, z9⟩ := inv_wdI z8
  obtain ⟨a27, y30, l28, rfl, h29, z10⟩ := inv_wdI z9
  obtain ⟨hn, z11⟩ := inv_wn z10
  cases hn
  obtain ⟨hn, z12⟩ := inv_wn z11
  cases hn
  exact Den.weaken (.cons (WkA.agg (.cons h6 (.cons h10 (.cons h14 .nil)))) (.cons (WkA.agg (.cons h21 (.cons h25 (.cons h29 .nil)))) .nil)) (evalF_sound hmix hC hF ((e138 fuel y7 y11 y15 y22 y26 y30).trans z12))
def C82 (fuel : Nat) : Oracle := (C81 fuel).add 55 (fun _ => true) (O138 fuel)
def A31v1 : AC := (.region 5 [mv 29 5, o1 30 (bk .add 3 29 1), o1 5 (sg 30)] 0 none)
def A31v2 : AC := (.seq (.block 1
  (.seq (.region 6 [mv 31 0, mv 32 5, o1 33 (.indexAddr 32 27 3 (tm 31) (tm 32)), o1 34 (ln 27 3 33), o1 35 (.build 29 [vci 0, vci 0, vci 0, vci 0] [(0, 3), (3, 1)] 0 [(0, (tm 34))]), o1 36 (cs 53 [35] [29]), o1 37 (.unOp .not 4 (tm 36))] 0 none) []
    (.cond (tm 37)
    (.seq (.region 7 [o1 4 (sb false)] 0 none) []
      (.ret (rl 0 4 (rl 5 66 []))))
    .skip))) (4 :: (rl 31 7 []))
  A31v1)
def A31v3 : AC := (.seq (.seq (.region 4 [mv 25 5, mv 26 0, o1 27 (.len 32 false (tm 26)), o1 28 (bt .lss 3 25 27)] 0 none) []
  (.cond (tm 28)
  .skip
  (.exit 0 (rl 1 70 [])))) (rl 25 4 [])
  A31v2)
def A31v4 : AC := (.seq (.region 19 [mv 69 8, o1 70 (bk .neq 3 69 1)] 0 none) []
  (.cond (tm 70)
  (.seq (.region 20 [o1 4 (sb false)] 0 none) []
    (.ret (rl 0 4 (rl 5 66 []))))
  .skip))
def A31v5 : AC := (.seq (.seq (.region 17 [o1 64 (fa 27 7 2 2), o1 65 (lo 3 64), o1 66 (bk .neq 3 65 0)] 0 none) []
  (.cond (tm 66)
  (.region 18 [mv 67 8, o1 68 (bk .add 3 67 1), o1 8 (sg 68)] 0 none)
  .skip)) (rl 64 5 [])
  A31v4)
def A31v6 : AC := (.seq (.seq (.region 15 [o1 59 (fa 27 7 1 1), o1 60 (lo 3 59), o1 61 (bk .neq 3 60 0)] 0 none) []
  (.cond (tm 61)
  (.region 16 [mv 62 8, o1 63 (bk .add 3 62 1), o1 8 (sg 63)] 0 none)
  .skip)) (rl 59 5 [])
  A31v5)
def A31v7 : AC := (.region 10 [mv 42 6, o1 43 (bk .add 3 42 1), o1 6 (sg 43)] 0 none)
def A31v8 : AC := (.seq (.block 3
  (.seq (.region 11 [mv 44 0, mv 45 6, o1 46 (.indexAddr 32 27 3 (tm 44) (tm 45)), o1 47 (ln 27 3 46), mv 48 0, mv 49 6, o1 50 (bk .sub 3 49 1), o1 51 (.indexAddr 32 27 3 (tm 48) (tm 50)), o1 52 (ln 27 3 51), o1 53 (cs 55 [47, 52] [27, 27]), o1 7 (.alloc 0 27 [vci 0, vci 0, vci 0]), o0 (.store 27 3 (tm 7) (tm 53))] 1 (some [[], [], [0, 1], [0, 1, 2], [], [], [5], [4, 5, 6], (rl 4 4 []), (rl 0 9 []), [], (rl 0 11 [])])) []
    (.seq (.region 12 [o1 8 (sk 0)] 0 none) []
    (.seq (.seq (.region 13 [o1 54 (fa 27 7 0 0), o1 55 (lo 3 54), o1 56 (bk .neq 3 55 0)] 0 none) []
    (.cond (tm 56)
    (.region 14 [mv 57 8, o1 58 (bk .add 3 57 1), o1 8 (sg 58)] 0 none)
    .skip)) (rl 54 5 [])
    A31v6)))) (4 :: 7 :: 8 :: (rl 44 27 []))
  A31v7)
def A31v9 : AC := (.seq (.seq (.region 9 [mv 38 6, mv 39 0, o1 40 (.len 32 false (tm 39)), o1 41 (bt .lss 3 38 40)] 0 none) []
  (.cond (tm 41)
  .skip
  (.exit 2 (rl 0 71 [])))) (rl 38 4 [])
  A31v8)
def A31v10 : AC := (.seq (.region 21 [o1 4 (sb true)] 0 none) []
  (.ret (rl 0 4 (rl 5 66 []))))
def A31v11 : AC := (.seq (.seq (.region 8 [o1 6 (sk 1)] 0 none) []
  (.block 2
  (.loop [] (rl 1 5 (rl 7 64 []))
    A31v9))) (4 :: 6 :: 7 :: 8 :: (rl 38 33 []))
  A31v10)
def A31v12 : AC := (.seq (.seq (.region 3 [o1 5 (sk 0)] 0 none) []
  (.block 0
  (.loop [] (rl 1 4 (rl 6 65 []))
    A31v3))) (4 :: 5 :: (rl 25 13 []))
  A31v11)
def A31 : AF := ⟨71, [.tmp 4],
  (.seq (.region 0 [o1 4 (sb false)] 0 none) []
  (.seq (.seq (.region 1 [mv 9 0, o1 10 (.len 32 false (tm 9)), o1 11 (bk .lss 3 10 2), mv 12 11, og 13 (.move (tm 0)) 12 false, og 14 (.len 32 false (tm 13)) 12 false, og 15 (bk .gtr 3 14 32) 12 false, o1 16 (pa 12 15), mv 17 16, og 18 (.move (tm 1)) 17 false, og 19 (bk .lss 3 18 1) 17 false, o1 20 (pa 17 19), mv 21 20, og 22 (.move (tm 1)) 21 false, og 23 (bk .gtr 3 22 10000) 21 false, o1 24 (pa 21 23)] 0 none) []
  (.cond (tm 24)
  (.seq (.region 2 [o1 4 (sb false)] 0 none) []
    (.ret (rl 0 4 (rl 5 66 []))))
  .skip)) (4 :: (rl 9 16 []))
  A31v12))⟩
def B139v1 (C : Oracle) (fuel : Nat) {ρ : Type} : St → (Ex → St → Option ρ) → Option ρ := fun st k => evalC C fuel A31v3 st k
def N139v1 : St → Option St := fun s => s.norm (rl 1 4 (rl 6 65 [])) 0
def s139v0 (x7 : Nat) (x8 : FF) (x9 : Int) : St := ⟨(.x (.c (.ro false kV x7 x8)) :: (us 4 (vxi x9 :: (us 65 [])))), []⟩
def s139v1 : St := ⟨(us 4 (vxb false :: (us 66 []))), []⟩
def s139v2 (x7 : Nat) (x8 : FF) : St := ⟨(.x (.c (.ro false kV x7 x8)) :: (us 70 [])), []⟩
def L139v1 {ρ : Type} (fuel : Nat) (x7 : Nat) (x8 : FF) : Nat → Int → (Option ρ) → (Option ρ) → Option ρ
  | 0, _, _, _ => none
  | m + 1, x9, k0, k1 =>
    (bif (decide (x9 < (Int.ofNat x7))) then (bif (inb x9 x7) then (ob (F133 fuel (CV.int (x8 (Int.toNat x9) 0)) (CV.int (x8 (Int.toNat x9) 1)) (CV.int (x8 (Int.toNat x9) 2)) 0) fun x10 => (bif (!x10) then k0 else (L139v1 fuel x7 x8 m (w64 (x9 + 1)) k0 k1))) else none) else k1)
theorem nl139v1 {ρ σ : Type} (fuel : Nat) (x7 : Nat) (x8 : FF) (g : ρ → Option σ) : ∀ (m : Nat) (x9 : Int) (k0 : Option ρ) (k1 : Option ρ), ob (L139v1 fuel x7 x8 m x9 k0 k1) g = L139v1 fuel x7 x8 m x9 (ob k0 g) (ob k1 g)
  | 0, _, _, _ => rfl
  | m + 1, x9, k0, k1 => by
    simp only [L139v1, ob_bif, ob_ob, ob_none, nl139v1 fuel x7 x8 g m]
theorem r139v1 (fuel : Nat) (m : Nat) {ρ : Type} (k : Ex → St → Option ρ) (x7 : Nat) (x8 : FF) (x9 : Int) :
    loopH (B139v1 (C82 fuel) fuel) N139v1 (m + 1) (s139v0 x7 x8 x9) k =
    (bif (decide (x9 < (Int.ofNat x7))) then (bif (inb x9 x7) then (ob (F133 fuel (CV.int (x8 (Int.toNat x9) 0)) (CV.int (x8 (Int.toNat x9) 1)) (CV.int (x8 (Int.toNat x9) 2)) 0) fun x10 => (bif (!x10) then (k .ret s139v1) else (loopH (B139v1 (C82 fuel) fuel) N139v1 m (s139v0 x7 x8 (w64 (x9 + 1))) k))) else none) else (k (.exit 0) (s139v2 x7 x8))) := by kernel_rfl
theorem q139v1 (fuel : Nat) (x7 : Nat) (x8 : FF) {ρ : Type} (k : Ex → St → Option ρ) : ∀ (m : Nat) (x9 : Int),
    loopH (B139v1 (C82 fuel) fuel) N139v1 m (s139v0 x7 x8 x9) k = L139v1 fuel x7 x8 m x9 (k .ret s139v1) (k (.exit 0) (s139v2 x7 x8))
  | 0, _ => rfl
  | m + 1, x9 => by
    rw [r139v1]
    simp only [L139v1, q139v1 fuel x7 x8 k m]
def B139v2 (C : Oracle) (fuel : Nat) {ρ : Type} : St → (Ex → St → Option ρ) → Option ρ := fun st k => evalC C fuel A31v9 st k
def N139v2 : St → Option St := fun s => s.norm (rl 1 5 (rl 7 64 [])) 0
def s139v3 (x15 : Nat) (x16 : FF) (x17 : Int) : St := ⟨(.x (.c (.ro false kV x15 x16)) :: (us 5 (vxi x17 :: (us 64 [])))), []⟩
def s139v4 (x19 x20 x21 : Int) : St := ⟨(us 4 (vxb false :: (us 66 []))), [.box [(vci x19), (vci x20), (vci x21)]]⟩
def s139v5 : St := ⟨(us 71 []), []⟩
def L139v2 {ρ : Type} (fuel : Nat) (x15 : Nat) (x16 : FF) : Nat → Int → (Int → Int → Int → Option ρ) → (Option ρ) → Option ρ
  | 0, _, _, _ => none
  | m + 1, x17, k0, k1 =>
    (bif (decide (x17 < (Int.ofNat x15))) then (bif (inb x17 x15) then (bif (inb (w64 (x17 - 1)) x15) then (ob (F138 fuel (CV.int (x16 (Int.toNat x17) 0)) (CV.int (x16 (Int.toNat x17) 1)) (CV.int (x16 (Int.toNat x17) 2)) (CV.int (x16 (Int.toNat (w64 (x17 - 1))) 0)) (CV.int (x16 (Int.toNat (w64 (x17 - 1))) 1)) (CV.int (x16 (Int.toNat (w64 (x17 - 1))) 2))) fun x18 => (bif (x18.1 != 0) then (bif (x18.2.1 != 0) then (bif (x18.2.2 != 0) then (k0 x18.1 x18.2.1 x18.2.2) else (k0 x18.1 x18.2.1 x18.2.2)) else (bif (x18.2.2 != 0) then (k0 x18.1 x18.2.1 x18.2.2) else (L139v2 fuel x15 x16 m (w64 (x17 + 1)) k0 k1))) else (bif (x18.2.1 != 0) then (bif (x18.2.2 != 0) then (k0 x18.1 x18.2.1 x18.2.2) else (L139v2 fuel x15 x16 m (w64 (x17 + 1)) k0 k1)) else (bif (x18.2.2 != 0) then (L139v2 fuel x15 x16 m (w64 (x17 + 1)) k0 k1) else (k0 x18.1 x18.2.1 x18.2.2))))) else none) else none) else k1)
theorem nl139v2 {ρ σ : Type} (fuel : Nat) (x15 : Nat) (x16 : FF) (g : ρ → Option σ) : ∀ (m : Nat) (x17 : Int) (k0 : Int → Int → Int → Option ρ) (k1 : Option ρ), ob (L139v2 fuel x15 x16 m x17 k0 k1) g = L139v2 fuel x15 x16 m x17 (fun x19 x20 x21 => ob (k0 x19 x20 x21) g) (ob k1 g)
  | 0, _, _, _ => rfl
  | m + 1, x17, k0, k1 => by
    simp only [L139v2, ob_bif, ob_ob, ob_none, nl139v2 fuel x15 x16 g m]
theorem r139v2 (fuel : Nat) (m : Nat) {ρ : Type} (k : Ex → St → Option ρ) (x15 : Nat) (x16 : FF) (x17 : Int) :
    loopH (B139v2 (C82 fuel) fuel) N139v2 (m + 1) (s139v3 x15 x16 x17) k =
    (bif (decide (x17 < (Int.ofNat x15))) then (bif (inb x17 x15) then (bif (inb (w64 (x17 - 1)) x15) then (ob (F138 fuel (CV.int (x16 (Int.toNat x17) 0)) (CV.int (x16 (Int.toNat x17) 1)) (CV.int (x16 (Int.toNat x17) 2)) (CV.int (x16 (Int.toNat (w64 (x17 - 1))) 0)) (CV.int (x16 (Int.toNat (w64 (x17 - 1))) 1)) (CV.int (x16 (Int.toNat (w64 (x17 - 1))) 2))) fun x18 => (bif (x18.1 != 0) then (bif (x18.2.1 != 0) then (bif (x18.2.2 != 0) then (k .ret (s139v4 x18.1 x18.2.1 x18.2.2)) else (k .ret (s139v4 x18.1 x18.2.1 x18.2.2))) else (bif (x18.2.2 != 0) then (k .ret (s139v4 x18.1 x18.2.1 x18.2.2)) else (loopH (B139v2 (C82 fuel) fuel) N139v2 m (s139v3 x15 x16 (w64 (x17 + 1))) k))) else (bif (x18.2.1 != 0) then (bif (x18.2.2 != 0) then (k .ret (s139v4 x18.1 x18.2.1 x18.2.2)) else (loopH (B139v2 (C82 fuel) fuel) N139v2 m (s139v3 x15 x16 (w64 (x17 + 1))) k)) else (bif (x18.2.2 != 0) then (loopH (B139v2 (C82 fuel) fuel) N139v2 m (s139v3 x15 x16 (w64 (x17 + 1))) k) else (k .ret (s139v4 x18.1 x18.2.1 x18.2.2)))))) else none) else none) else (k (.exit 2) s139v5)) := by kernel_rfl
theorem q139v2 (fuel : Nat) (x15 : Nat) (x16 : FF) {ρ : Type} (k : Ex → St → Option ρ) : ∀ (m : Nat) (x17 : Int),
    loopH (B139v2 (C82 fuel) fuel) N139v2 m (s139v3 x15 x16 x17) k = L139v2 fuel x15 x16 m x17 (fun x19 x20 x21 => k .ret (s139v4 x19 x20 x21)) (k (.exit 2) s139v5)
  | 0, _ => rfl
  | m + 1, x17 => by
    rw [r139v2]
    simp only [L139v2, q139v2 fuel x15 x16 k m]
def D139 {ρ : Type} (fuel : Nat) (x1 : Nat) (x2 : FF) (x3 : Int) (k : Bool → Option ρ) : Option ρ :=
  (bif ((decide ((Int.ofNat x1) < 2)) == false) then (bif ((decide ((Int.ofNat x1) > 32)) == false) then (bif ((decide (x3 < 1)) == false) then (bif (decide (x3 > 10000)) then (k false) else (L139v1 fuel x1 x2 fuel 0
    (k false)
    (L139v2 fuel x1 x2 fuel 1
    (fun x22 x23 x24 => (k false))
    (k true)))) else (k false)) else (k false)) else (k false))
def F139 (fuel : Nat) (x1 : Nat) (x2 : FF) (x3 : Int) : Option (Bool) := D139 fuel x1 x2 x3 some
theorem f139 {ρ : Type} (fuel : Nat) (x1 : Nat) (x2 : FF) (x3 : Int) (k : (Bool) → Option ρ) : D139 fuel x1 x2 x3 k = ob (F139 fuel x1 x2 x3) k := by
  simp only [F139, D139, ob_bif, ob_ob, ob_none, ob_some, nl139v1, nl139v2]
def s139v6 (x1 : Nat) (x2 : FF) (x3 : Int) : St := ⟨(.x (.c (.ro false kV x1 x2)) :: vxi x3 :: .undef :: .undef :: .u :: vxi 0 :: .undef :: .undef :: .undef :: (us 16 [.undef, .undef, .undef, .undef, .undef, .undef, .undef, .undef, .undef, .undef, .undef, .undef, .undef, .undef, .undef, .undef, .undef, .undef, .undef, .undef, .undef, .undef, .undef, .undef, .undef, .undef, .undef, .undef, .undef, .undef, .undef, .undef, .undef, .undef, .undef, .undef, .undef, .undef, .undef, .undef, .undef, .undef, .undef, .undef, .undef, .undef])), []⟩
theorem walk139 (fuel : Nat) (x1 : Nat) (x2 : FF) (x3 : Int) :
    evalF (C82 fuel) fuel A31 [.v (.ro false kV x1 x2), .v (vi x3)] =
    (bif ((decide ((Int.ofNat x1) < 2)) == false) then (bif ((decide ((Int.ofNat x1) > 32)) == false) then (bif ((decide (x3 < 1)) == false) then (bif (decide (x3 > 10000)) then (some [.v (.b false)]) else (loopN (B139v1 (C82 fuel) fuel) N139v1 fuel (s139v6 x1 x2 x3) (kBlk 0 (kSeq (C82 fuel) fuel (4 :: 5 :: (rl 25 13 [])) A31v11 (finish A31))))) else (some [.v (.b false)])) else (some [.v (.b false)])) else (some [.v (.b false)])) := by kernel_rfl
theorem t139v1 (fuel : Nat) {ρ : Type} (k : Ex → St → Option ρ) (x1 : Nat) (x2 : FF) (x3 : Int) :
    loopN (B139v1 (C82 fuel) fuel) N139v1 fuel (s139v6 x1 x2 x3) k =
    L139v1 fuel x1 x2 fuel 0 (k .ret s139v1) (k (.exit 0) (s139v2 x1 x2)) :=
  (loopN_at (st' := (s139v0 x1 x2 0)) (by kernel_rfl)).trans (q139v1 fuel x1 x2 k fuel 0)
theorem g139v2 (fuel : Nat) :
    (kBlk 0 (kSeq (C82 fuel) fuel (4 :: 5 :: (rl 25 13 [])) A31v11 (finish A31))) .ret s139v1 =
    (some [.v (.b false)]) := by kernel_rfl
def s139v7 (x1 : Nat) (x2 : FF) : St := ⟨(.x (.c (.ro false kV x1 x2)) :: (us 5 (vxi 1 :: (us 64 [])))), []⟩
theorem g139v3 (fuel : Nat) (x1 : Nat) (x2 : FF) :
    (kBlk 0 (kSeq (C82 fuel) fuel (4 :: 5 :: (rl 25 13 [])) A31v11 (finish A31))) (.exit 0) (s139v2 x1 x2) =
    (loopN (B139v2 (C82 fuel) fuel) N139v2 fuel (s139v7 x1 x2) (kBlk 2 (kSeq (C82 fuel) fuel (4 :: 6 :: 7 :: 8 :: (rl 38 33 [])) A31v10 (finish A31)))) := by kernel_rfl
theorem t139v4 (fuel : Nat) {ρ : Type} (k : Ex → St → Option ρ) (x1 : Nat) (x2 : FF) :
    loopN (B139v2 (C82 fuel) fuel) N139v2 fuel (s139v7 x1 x2) k =
    L139v2 fuel x1 x2 fuel 1 (fun x19 x20 x21 => k .ret (s139v4 x19 x20 x21)) (k (.exit 2) s139v5) :=
  (loopN_at (st' := (s139v3 x1 x2 1)) (by kernel_rfl)).trans (q139v2 fuel x1 x2 k fuel 1)
theorem g139v5 (fuel : Nat) (x22 x23 x24 : Int) :
    (kBlk 2 (kSeq (C82 fuel) fuel (4 :: 6 :: 7 :: 8 :: (rl 38 33 [])) A31v10 (finish A31))) .ret (s139v4 x22 x23 x24) =
    (some [.v (.b false)]) := by kernel_rfl
theorem g139v6 (fuel : Nat) :
    (kBlk 2 (kSeq (C82 fuel) fuel (4 :: 6 :: 7 :: 8 :: (rl 38 33 [])) A31v10 (finish A31))) (.exit 2) s139v5 =
    (some [.v (.b true)]) := by kernel_rfl
theorem e139 (fuel : Nat) (x1 : Nat) (x2 : FF) (x3 : Int) : evalF (C82 fuel) fuel A31 [.v (.ro false kV x1 x2), .v (vi x3)] = ob (F139 fuel x1 x2 x3) fun t => some [.v (.b t)] := by
  rw [walk139, ← f139]
  simp only [D139, t139v1, g139v2, g139v3, t139v4, g139v5, g139v6]
def O139 (fuel : Nat) : Ora where
  o := fun args {ρ} K =>
    wcL kV args fun y4 y5 l2 =>
    wcI .i64 l2 fun y9 l7 =>
    wn l7 <|
    (ob (F139 fuel y4 y5 y9) fun t => K [.v (.b t)])
  nat := fun args {ρ} K => by
    simp only [bind_wcI, bind_wcL, bind_wn, bind_ob, Option.bind_some]
theorem d139 {P : Program} (fuel : Nat) (hmix : P.follows .mixedOrders = true) (hC : Sound P (C82 fuel)) (hF : FFits P 31 A31) (args res : List A) (h : (O139 fuel).o args some = some res) : Den P 31 args res := by
  obtain ⟨a1, y4, y5, l2, rfl, h3, z0⟩ := inv_wcL h
  obtain ⟨a6, y9, l7, rfl, h8, z1⟩ := inv_wcI z0
  obtain ⟨hn, z2⟩ := inv_wn z1
  cases hn
  exact Den.weaken (.cons h3 (.cons h8 .nil)) (evalF_sound hmix hC hF ((e139 fuel y4 y5 y9).trans z2))
def C83 (fuel : Nat) : Oracle := (C82 fuel).add 31 (fun _ => true) (O139 fuel)
def A61v1 : AC := (.seq (.region 3 [mv 9 0, o1 2 (sg 9)] 0 none) []
  (.ret (0 :: 1 :: (rl 3 7 []))))
def A61 : AF := ⟨10, [.tmp 2],
  (.seq (.region 0 [o1 2 (sk 0)] 0 none) []
  (.seq (.seq (.region 1 [mv 3 0, o1 4 (bk .lss 3 3 0), mv 5 4, og 6 (.move (tm 0)) 5 false, og 7 (bk .gtr 3 6 23) 5 false, o1 8 (pa 5 7)] 0 none) []
  (.cond (tm 8)
  (.seq (.region 2 [o1 2 (sk 0)] 0 none) []
    (.ret (0 :: 1 :: (rl 3 7 []))))
  .skip)) (rl 2 7 [])
  A61v1))⟩
def D140 {ρ : Type} (fuel : Nat) (x1 : Int) (k : Int → Option ρ) : Option ρ :=
  (bif ((decide (x1 < 0)) == false) then (bif (decide (x1 > 23)) then (k 0) else (k x1)) else (k 0))
def F140 (fuel : Nat) (x1 : Int) : Option (Int) := D140 fuel x1 some
theorem f140 {ρ : Type} (fuel : Nat) (x1 : Int) (k : (Int) → Option ρ) : D140 fuel x1 k = ob (F140 fuel x1) k := by
  simp only [F140, D140, ob_bif, ob_ob, ob_none, ob_some]
theorem walk140 (fuel : Nat) (x1 : Int) :
    evalF (C83 fuel) fuel A61 [.v (vi x1)] =
    (bif ((decide (x1 < 0)) == false) then (bif (decide (x1 > 23)) then (some [.v (vi 0)]) else (some [.v (vi x1)])) else (some [.v (vi 0)])) := by kernel_rfl
theorem e140 (fuel : Nat) (x1 : Int) : evalF (C83 fuel) fuel A61 [.v (vi x1)] = ob (F140 fuel x1) fun t => some [.v (vi t)] := by
  rw [walk140, ← f140]
  simp only [D140]
def O140 (fuel : Nat) : Ora where
  o := fun args {ρ} K =>
    wcI .i64 args fun y4 l2 =>
    wn l2 <|
    (ob (F140 fuel y4) fun t => K [.v (vi t)])
  nat := fun args {ρ} K => by
    simp only [bind_wcI, bind_wn, bind_ob, Option.bind_some]
theorem d140 {P : Program} (fuel : Nat) (hmix : P.follows .mixedOrders = true) (hC : Sound P (C83 fuel)) (hF : FFits P 61 A61) (args res : List A) (h : (O140 fuel).o args some = some res) : Den P 61 args res := by
  obtain ⟨a1, y4, l2, rfl, h3, z0⟩ := inv_wcI h
  obtain ⟨hn, z1⟩ := inv_wn z0
  cases hn
  exact Den.weaken (.cons h3 .nil) (evalF_sound hmix hC hF ((e140 fuel y4).trans z1))
def C84 (fuel : Nat) : Oracle := (C83 fuel).add 61 (fun _ => true) (O140 fuel)
def A80v1 : AC := (.seq (.block 1
  (.region 4 [o1 11 (fa 27 2 1 1), o1 12 (lo 3 11), o1 13 (.unOp .neg 3 (tm 12)), o1 14 (fa 27 2 0 0), o1 15 (lo 3 14), o1 16 (fa 27 2 2 2), o1 17 (lo 3 16), o1 18 (.build 27 [vci 0, vci 0, vci 0] [(0, 1), (1, 1), (2, 1)] 0 [(0, (tm 13)), (1, (tm 15)), (2, (tm 17))]), o0 (.store 27 3 (tm 2) (tm 18))] 0 none)) []
  (.region 3 [mv 9 5, o1 10 (bk .add 3 9 1), o1 5 (sg 10)] 0 none))
def A80v2 : AC := (.seq (.seq (.region 2 [mv 6 5, mv 7 1, o1 8 (bt .lss 3 6 7)] 0 none) []
  (.cond (tm 8)
  .skip
  (.exit 0 (0 :: 1 :: 3 :: (rl 5 15 []))))) [6, 7, 8]
  A80v1)
def A80v3 : AC := (.seq (.region 5 [o1 19 (ln 27 3 2), o0 (.store 27 3 (tm 4) (tm 19))] 0 none) []
  (.ret (rl 0 4 (rl 5 15 []))))
def A80 : AF := ⟨20, [.cell 4 27 (some 3)],
  (.seq (.region 0 [o1 2 (bx 0 27 0), o1 4 (.alloc 1 27 [vci 0, vci 0, vci 0])] 2 none) []
  (.seq (.seq (.region 1 [o1 5 (sk 0)] 0 none) []
  (.block 0
  (.loop [] (0 :: 3 :: (rl 6 14 []))
    A80v2))) (rl 5 14 [])
  A80v3))⟩
def B141v1 (C : Oracle) (fuel : Nat) {ρ : Type} : St → (Ex → St → Option ρ) → Option ρ := fun st k => evalC C fuel A80v2 st k
def N141v1 : St → Option St := fun s => s.norm (0 :: 3 :: (rl 6 14 [])) 2
def s141v0 (x9 x10 x11 x12 x13 : Int) : St := ⟨(.u :: vxi x9 :: .x (.ptr 0 0) :: .u :: .x (.ptr 1 0) :: vxi x10 :: (us 14 [])), [.box [(vci x11), (vci x12), (vci x13)], .box [(vci 0), (vci 0), (vci 0)]]⟩
def s141v1 (x14 x15 x13 : Int) : St := ⟨(.u :: .u :: .x (.ptr 0 0) :: .u :: .x (.ptr 1 0) :: (us 15 [])), [.box [(vci x14), (vci x15), (vci x13)], .box [(vci 0), (vci 0), (vci 0)]]⟩
def L141v1 {ρ : Type} (fuel : Nat) (x9 x13 : Int) : Nat → Int → Int → Int → (Int → Int → Option ρ) → Option ρ
  | 0, _, _, _, _ => none
  | m + 1, x10, x11, x12, k0 =>
    (bif (decide (x10 < x9)) then (L141v1 fuel x9 x13 m (w64 (x10 + 1)) (w64 (0 - x12)) x11 k0) else (k0 x11 x12))
theorem nl141v1 {ρ σ : Type} (fuel : Nat) (x9 x13 : Int) (g : ρ → Option σ) : ∀ (m : Nat) (x10 x11 x12 : Int) (k0 : Int → Int → Option ρ), ob (L141v1 fuel x9 x13 m x10 x11 x12 k0) g = L141v1 fuel x9 x13 m x10 x11 x12 (fun x14 x15 => ob (k0 x14 x15) g)
  | 0, _, _, _, _ => rfl
  | m + 1, x10, x11, x12, k0 => by
    simp only [L141v1, ob_bif, ob_ob, ob_none, nl141v1 fuel x9 x13 g m]
theorem r141v1 (fuel : Nat) (m : Nat) {ρ : Type} (k : Ex → St → Option ρ) (x9 x13 x10 x11 x12 : Int) :
    loopH (B141v1 (C84 fuel) fuel) N141v1 (m + 1) (s141v0 x9 x10 x11 x12 x13) k =
    (bif (decide (x10 < x9)) then (loopH (B141v1 (C84 fuel) fuel) N141v1 m (s141v0 x9 (w64 (x10 + 1)) (w64 (0 - x12)) x11 x13) k) else (k (.exit 0) (s141v1 x11 x12 x13))) := by kernel_rfl
theorem q141v1 (fuel : Nat) (x9 x13 : Int) {ρ : Type} (k : Ex → St → Option ρ) : ∀ (m : Nat) (x10 x11 x12 : Int),
    loopH (B141v1 (C84 fuel) fuel) N141v1 m (s141v0 x9 x10 x11 x12 x13) k = L141v1 fuel x9 x13 m x10 x11 x12 (fun x14 x15 => k (.exit 0) (s141v1 x14 x15 x13))
  | 0, _, _, _ => rfl
  | m + 1, x10, x11, x12 => by
    rw [r141v1]
    simp only [L141v1, q141v1 fuel x9 x13 k m]
def D141 {ρ : Type} (fuel : Nat) (x1 x2 x3 x4 : Int) (k : (Int × Int × Int) → Option ρ) : Option ρ :=
  (L141v1 fuel x4 x3 fuel 0 x1 x2
    (fun x16 x17 => (k (x16, x17, x3))))
def F141 (fuel : Nat) (x1 x2 x3 x4 : Int) : Option (Int × Int × Int) := D141 fuel x1 x2 x3 x4 some
theorem f141 {ρ : Type} (fuel : Nat) (x1 x2 x3 x4 : Int) (k : (Int × Int × Int) → Option ρ) : D141 fuel x1 x2 x3 x4 k = ob (F141 fuel x1 x2 x3 x4) k := by
  simp only [F141, D141, ob_bif, ob_ob, ob_none, ob_some, nl141v1]
def s141v2 (x1 x2 x3 x4 : Int) : St := ⟨[.agg [(vci x1), (vci x2), (vci x3)], vxi x4, .x (.ptr 0 0), .undef, .x (.ptr 1 0), vxi 0, .undef, .undef, .undef, .undef, .undef, .undef, .undef, .undef, .undef, .undef, .undef, .undef, .undef, .undef], [.box [(vci x1), (vci x2), (vci x3)], .box [(vci 0), (vci 0), (vci 0)]]⟩
theorem walk141 (fuel : Nat) (x1 x2 x3 x4 : Int) :
    evalF (C84 fuel) fuel A80 [.agg [(vi x1), (vi x2), (vi x3)], .v (vi x4)] =
    (loopN (B141v1 (C84 fuel) fuel) N141v1 fuel (s141v2 x1 x2 x3 x4) (kBlk 0 (kSeq (C84 fuel) fuel (rl 5 14 []) A80v3 (finish A80)))) := by kernel_rfl
theorem t141v1 (fuel : Nat) {ρ : Type} (k : Ex → St → Option ρ) (x1 x2 x3 x4 : Int) :
    loopN (B141v1 (C84 fuel) fuel) N141v1 fuel (s141v2 x1 x2 x3 x4) k =
    L141v1 fuel x4 x3 fuel 0 x1 x2 (fun x14 x15 => k (.exit 0) (s141v1 x14 x15 x3)) :=
  (loopN_at (st' := (s141v0 x4 0 x1 x2 x3)) (by kernel_rfl)).trans (q141v1 fuel x4 x3 k fuel 0 x1 x2)
theorem g141v2 (fuel : Nat) (x16 x17 x3 : Int) :
    (kBlk 0 (kSeq (C84 fuel) fuel (rl 5 14 []) A80v3 (finish A80))) (.exit 0) (s141v1 x16 x17 x3) =
    (some [.agg [(vi x16), (vi x17), (vi x3)]]) := by kernel_rfl
theorem e141 (fuel : Nat) (x1 x2 x3 x4 : Int) : evalF (C84 fuel) fuel A80 [.agg [(vi x1), (vi x2), (vi x3)], .v (vi x4)] = ob (F141 fuel x1 x2 x3 x4) fun t => some [.agg [(vi t.1), (vi t.2.1), (vi t.2.2)]] := by
  rw [walk141, ← f141]
  simp only [D141, t141v1, g141v2]
def O141 (fuel : Nat) : Ora where
  o := fun args {ρ} K =>
    wc args fun a1 l2 =>
    wagg a1 fun l3 =>
    wdI .i64 l3 fun y7 l5 =>
    wdI .i64 l5 fun y11 l9 =>
    wdI .i64 l9 fun y15 l13 =>
    wn l13 <|
    wcI .i64 l2 fun y19 l17 =>
    wn l17 <|
    (ob (F141 fuel y7 y11 y15 y19) fun t => K [.agg [(vi t.1), (vi t.2.1), (vi t.2.2)]])
  nat := fun args {ρ} K => by
    simp only [bind_wagg, bind_wc, bind_wcI, bind_wdI, bind_wn, bind_ob, Option.bind_some]
theorem d141 {P : Program} (fuel : Nat) (hmix : P.follows .mixedOrders = true) (hC : Sound P (C84 fuel)) (hF : FFits P 80 A80) (args res : List A) (h : (O141 fuel).o args some = some res) : Den P 80 args res := by
  obtain ⟨a1, l2, rfl, z0⟩ := inv_wc h
  obtain ⟨l3, rfl, z1⟩ := inv_wagg z0
  obtain ⟨a4, y7, l5, rfl, h6, z2⟩ := inv_wdI z1
  obtain ⟨a8, y11, l9, rfl, h10, z3⟩ := inv_wdI z2
  obtain ⟨a12, y15, l13, rfl, h14, z4⟩ := inv_wdI z3
  obtain ⟨hn, z5⟩ := inv_wn z4
  cases hn
  obtain ⟨a16, y19, l17, rfl, h18, z6⟩ := inv_wcI z5
  obtain ⟨hn, z7⟩ := inv_wn z6
  cases hn
  exact Den.weaken (.cons (WkA.agg (.cons h6 (.cons h10 (.cons h14 .nil)))) (.cons h18 .nil)) (evalF_sound hmix hC hF ((e141 fuel y7 y11 y15 y19).trans z7))
def C85 (fuel : Nat) : Oracle := (C84 fuel).add 80 (fun _ => true) (O141 fuel)
def A79v1 : AC := (.seq (.region 12 [o1 57 (ln 27 3 2), o0 (.store 27 3 (tm 4) (tm 57))] 0 none) []
  (.ret (rl 0 4 (rl 5 53 []))))
def A79 : AF := ⟨58, [.cell 4 27 (some 3)],
  (.seq (.region 0 [o1 2 (bx 0 27 0), o1 4 (.alloc 1 27 [vci 0, vci 0, vci 0])] 2 none) []
  (.seq (.seq (.region 1 [mv 5 1] 0 none) []
  (.block 0
  (.seq (.region 2 [o1 7 (bk .eql 3 5 1), o1 6 (sg 7)] 0 none) []
    (.cond (tm 6)
    (.seq (.region 3 [o1 8 (fa 27 2 0 0), o1 9 (lo 3 8), o1 10 (fa 27 2 2 2), o1 11 (lo 3 10), o1 12 (.unOp .neg 3 (tm 11)), o1 13 (fa 27 2 1 1), o1 14 (lo 3 13), o1 15 (.build 27 [vci 0, vci 0, vci 0] [(0, 1), (1, 1), (2, 1)] 0 [(0, (tm 9)), (1, (tm 12)), (2, (tm 14))]), o0 (.store 27 3 (tm 4) (tm 15))] 0 none) []
      (.ret (rl 0 4 (rl 5 53 []))))
    (.seq (.region 4 [o1 17 (bk .eql 3 5 2), o1 16 (sg 17)] 0 none) []
      (.cond (tm 16)
      (.seq (.region 5 [o1 18 (fa 27 2 0 0), o1 19 (lo 3 18), o1 20 (fa 27 2 1 1), o1 21 (lo 3 20), o1 22 (.unOp .neg 3 (tm 21)), o1 23 (fa 27 2 2 2), o1 24 (lo 3 23), o1 25 (.unOp .neg 3 (tm 24)), o1 26 (.build 27 [vci 0, vci 0, vci 0] [(0, 1), (1, 1), (2, 1)] 0 [(0, (tm 19)), (1, (tm 22)), (2, (tm 25))]), o0 (.store 27 3 (tm 4) (tm 26))] 0 none) []
        (.ret (rl 0 4 (rl 5 53 []))))
      (.seq (.region 6 [o1 28 (bk .eql 3 5 3), o1 27 (sg 28)] 0 none) []
        (.cond (tm 27)
        (.seq (.region 7 [o1 29 (fa 27 2 0 0), o1 30 (lo 3 29), o1 31 (fa 27 2 2 2), o1 32 (lo 3 31), o1 33 (fa 27 2 1 1), o1 34 (lo 3 33), o1 35 (.unOp .neg 3 (tm 34)), o1 36 (.build 27 [vci 0, vci 0, vci 0] [(0, 1), (1, 1), (2, 1)] 0 [(0, (tm 30)), (1, (tm 32)), (2, (tm 35))]), o0 (.store 27 3 (tm 4) (tm 36))] 0 none) []
          (.ret (rl 0 4 (rl 5 53 []))))
        (.seq (.region 8 [o1 38 (bk .eql 3 5 4), o1 37 (sg 38)] 0 none) []
          (.cond (tm 37)
          (.seq (.region 9 [o1 39 (fa 27 2 2 2), o1 40 (lo 3 39), o1 41 (fa 27 2 1 1), o1 42 (lo 3 41), o1 43 (fa 27 2 0 0), o1 44 (lo 3 43), o1 45 (.unOp .neg 3 (tm 44)), o1 46 (.build 27 [vci 0, vci 0, vci 0] [(0, 1), (1, 1), (2, 1)] 0 [(0, (tm 40)), (1, (tm 42)), (2, (tm 45))]), o0 (.store 27 3 (tm 4) (tm 46))] 0 none) []
            (.ret (rl 0 4 (rl 5 53 []))))
          (.seq (.region 10 [o1 48 (bk .eql 3 5 5), o1 47 (sg 48)] 0 none) []
            (.cond (tm 47)
            (.seq (.region 11 [o1 49 (fa 27 2 2 2), o1 50 (lo 3 49), o1 51 (.unOp .neg 3 (tm 50)), o1 52 (fa 27 2 1 1), o1 53 (lo 3 52), o1 54 (fa 27 2 0 0), o1 55 (lo 3 54), o1 56 (.build 27 [vci 0, vci 0, vci 0] [(0, 1), (1, 1), (2, 1)] 0 [(0, (tm 51)), (1, (tm 53)), (2, (tm 55))]), o0 (.store 27 3 (tm 4) (tm 56))] 0 none) []
              (.ret (rl 0 4 (rl 5 53 []))))
            .skip)))))))))))) (rl 5 52 [])
  A79v1))⟩
def D142 {ρ : Type} (fuel : Nat) (x1 x2 x3 x4 : Int) (k : (Int × Int × Int) → Option ρ) : Option ρ :=
  (bif (x4 == 1) then (k (x1, (w64 (0 - x3)), x2)) else (bif (x4 == 2) then (k (x1, (w64 (0 - x2)), (w64 (0 - x3)))) else (bif (x4 == 3) then (k (x1, x3, (w64 (0 - x2)))) else (bif (x4 == 4) then (k (x3, x2, (w64 (0 - x1)))) else (bif (x4 == 5) then (k ((w64 (0 - x3)), x2, x1)) else (k (x1, x2, x3)))))))
def F142 (fuel : Nat) (x1 x2 x3 x4 : Int) : Option (Int × Int × Int) := D142 fuel x1 x2 x3 x4 some
theorem f142 {ρ : Type} (fuel : Nat) (x1 x2 x3 x4 : Int) (k : (Int × Int × Int) → Option ρ) : D142 fuel x1 x2 x3 x4 k = ob (F142 fuel x1 x2 x3 x4) k := by
  simp only [F142, D142, ob_bif, ob_ob, ob_none, ob_some]
theorem walk142 (fuel : Nat) (x1 x2 x3 x4 : Int) :
    evalF (C85 fuel) fuel A79 [.agg [(vi x1), (vi x2), (vi x3)], .v (vi x4)] =
    (bif (x4 == 1) then (some [.agg [(vi x1), (vi (w64 (0 - x3))), (vi x2)]]) else (bif (x4 == 2) then (some [.agg [(vi x1), (vi (w64 (0 - x2))), (vi (w64 (0 - x3)))]]) else (bif (x4 == 3) then (some [.agg [(vi x1), (vi x3), (vi (w64 (0 - x2)))]]) else (bif (x4 == 4) then (some [.agg [(vi x3), (vi x2), (vi (w64 (0 - x1)))]]) else (bif (x4 == 5) then (some [.agg [(vi (w64 (0 - x3))), (vi x2), (vi x1)]]) else (some [.agg [(vi x1), (vi x2), (vi x3)]])))))) := by kernel_rfl
theorem e142 (fuel : Nat) (x1 x2 x3 x4 : Int) : evalF (C85 fuel) fuel A79 [.agg [(vi x1), (vi x2), (vi x3)], .v (vi x4)] = ob (F142 fuel x1 x2 x3 x4) fun t => some [.agg [(vi t.1), (vi t.2.1), (vi t.2.2)]] := by
  rw [walk142, ← f142]
  simp only [D142]
def O142 (fuel : Nat) : Ora where
  o := fun args {ρ} K =>
    wc args fun a1 l2 =>
    wagg a1 fun l3 =>
    wdI .i64 l3 fun y7 l5 =>
    wdI .i64 l5 fun y11 l9 =>
    wdI .i64 l9 fun y15 l13 =>
    wn l13 <|
    wcI .i64 l2 fun y19 l17 =>
    wn l17 <|
    (ob (F142 fuel y7 y11 y15 y19) fun t => K [.agg [(vi t.1), (vi t.2.1), (vi t.2.2)]])
  nat := fun args {ρ} K => by
    simp only [bind_wagg, bind_wc, bind_wcI, bind_wdI, bind_wn, bind_ob, Option.bind_some]
theorem d142 {P : Program} (fuel : Nat) (hmix : P.follows .mixedOrders = true) (hC : Sound P (C85 fuel)) (hF : FFits P 79 A79) (args res : List A) (h : (O142 fuel).o args some = some res) : Den P 79 args res := by
  obtain ⟨a1, l2, rfl, z0⟩ := inv_wc h
  obtain ⟨l3, rfl, z1⟩ := inv_wagg z0
  obtain ⟨a4, y7, l5, rfl, h6, z2⟩ := inv_wdI z1
  obtain ⟨a8, y11, l9, rfl, h10, z3⟩ := inv_wdI z2
  obtain ⟨a12, y15, l13, rfl, h14, z4⟩ := inv_wdI z3
  obtain ⟨hn, z5⟩ := inv_wn z4
  cases hn
  obtain ⟨a16, y19, l17, rfl, h18, z6⟩ := inv_wcI z5
  obtain ⟨hn, z7⟩ := inv_wn z6
  cases hn
  exact Den.weaken (.cons (WkA.agg (.cons h6 (.cons h10 (.cons h14 .nil)))) (.cons h18 .nil)) (evalF_sound hmix hC hF ((e142 fuel y7 y11 y15 y19).trans z7))
def C86 (fuel : Nat) : Oracle := (C85 fuel).add 79 (fun _ => true) (O142 fuel)
def A59 : AF := ⟨12, [.cell 4 27 (some 3)],
  (.seq (.region 0 [o1 2 (bx 0 27 0), o1 4 (.alloc 1 27 [vci 0, vci 0, vci 0])] 2 none) []
  (.seq (.region 1 [o1 5 (ln 27 3 2), mv 6 1, o1 7 (bk .rem 3 6 4), o1 8 (cs 80 [5, 7] [27, 3]), mv 9 1, o1 10 (bk .quo 3 9 4), o1 11 (cs 79 [8, 10] [27, 3]), o0 (.store 27 3 (tm 4) (tm 11))] 0 none) []
  (.ret (rl 0 4 (rl 5 7 [])))))⟩
def D143 {ρ : Type} (fuel : Nat) (x1 x2 x3 x4 : Int) (k : (Int × Int × Int) → Option ρ) : Option ρ :=
  (ob (F141 fuel x1 x2 x3 (Int.tmod x4 4)) fun x5 => (ob (F142 fuel x5.1 x5.2.1 x5.2.2 (w64 (Int.tdiv x4 4))) fun x6 => (k (x6.1, x6.2.1, x6.2.2))))
def F143 (fuel : Nat) (x1 x2 x3 x4 : Int) : Option (Int × Int × Int) := D143 fuel x1 x2 x3 x4 some
theorem f143 {ρ : Type} (fuel : Nat) (x1 x2 x3 x4 : Int) (k : (Int × Int × Int) → Option ρ) : D143 fuel x1 x2 x3 x4 k = ob (F143 fuel x1 x2 x3 x4) k := by
  simp only [F143, D143, ob_bif, ob_ob, ob_none, ob_some]
theorem walk143 (fuel : Nat) (x1 x2 x3 x4 : Int) :
    evalF (C86 fuel) fuel A59 [.agg [(vi x1), (vi x2), (vi x3)], .v (vi x4)] =
    (ob (F141 fuel x1 x2 x3 (Int.tmod x4 4)) fun x5 => (ob (F142 fuel x5.1 x5.2.1 x5.2.2 (w64 (Int.tdiv x4 4))) fun x6 => (some [.agg [(vi x6.1), (vi x6.2.1), (vi x6.2.2)]]))) := by kernel_rfl
theorem e143 (fuel : Nat) (x1 x2 x3 x4 : Int) : evalF (C86 fuel) fuel A59 [.agg [(vi x1), (vi x2), (vi x3)], .v (vi x4)] = ob (F143 fuel x1 x2 x3 x4) fun t => some [.agg [(vi t.1), (vi t.2.1), (vi t.2.2)]] := by
  rw [walk143, ← f143]
  simp only [D143]
def O143 (fuel : Nat) : Ora where
  o := fun args {ρ} K =>
    wc args fun a1 l2 =>
    wagg a1 fun l3 =>
    wdI .i64 l3 fun y7 l5 =>
    wdI .i64 l5 fun y11 l9 =>
    wdI .i64 l9 fun y15 l13 =>
    wn l13 <|
    wcI .i64 l2 fun y19 l17 =>
    wn l17 <|
    (ob (F143 fuel y7 y11 y15 y19) fun t => K [.agg [(vi t.1), (vi t.2.1), (vi t.2.2)]])
  nat := fun args {ρ} K => by
    simp only [bind_wagg, bind_wc, bind_wcI, bind_wdI, bind_wn, bind_ob, Option.bind_some]
theorem d143 {P : Program} (fuel : Nat) (hmix : P.follows .mixedOrders = true) (hC : Sound P (C86 fuel)) (hF : FFits P 59 A59) (args res : List A) (h : (O143 fuel).o args some = some res) : Den P 59 args res := by
  obtain ⟨a1, l2, rfl, z0⟩ := inv_wc h
  obtain ⟨l3, rfl, z1⟩ := inv_wagg z0
  obtain ⟨a4, y7, l5, rfl, h6, z2⟩ := inv_wdI z1
  obtain ⟨a8, y11, l9, rfl, h10, z3⟩ := inv_wdI z2
  obtain ⟨a12, y15, l13, rfl, h14, z4⟩ := inv_wdI z3
  obtain ⟨hn, z5⟩ := inv_wn z4
  cases hn
  obtain ⟨a16, y19, l17, rfl, h18, z6⟩ := inv_wcI z5
  obtain ⟨hn, z7⟩ := inv_wn z6
  cases hn
  exact Den.weaken (.cons (WkA.agg (.cons h6 (.cons h10 (.cons h14 .nil)))) (.cons h18 .nil)) (evalF_sound hmix hC hF ((e143 fuel y7 y11 y15 y19).trans z7))
def C87 (fuel : Nat) : Oracle := (C86 fuel).add 59 (fun _ => true) (O143 fuel)
def A78v1 : AC := (.region 5 [mv 18 7, o1 19 (bk .add 3 18 1), o1 7 (sg 19)] 0 none)
def A78v2 : AC := (.seq (.block 1
  (.seq (.region 6 [o1 20 (ln 27 3 5), mv 21 7, o1 22 (cs 59 [20, 21] [27, 3]), o1 23 (ln 27 3 6), o1 24 (.eqA false kV 27 (tm 22) (tm 23) 27)] 0 (some [[], [], [0, 1], [], (rl 0 4 [])])) []
    (.cond (tm 24)
    (.seq (.region 7 [mv 25 7, o1 4 (sg 25)] 0 none) []
      (.ret (rl 0 4 (rl 5 21 []))))
    .skip))) (4 :: (rl 20 6 []))
  A78v1)
def A78v3 : AC := (.seq (.seq (.region 4 [mv 16 7, o1 17 (bk .lss 3 16 24)] 0 none) []
  (.cond (tm 17)
  .skip
  (.exit 0 (rl 0 26 [])))) [16, 17]
  A78v2)
def A78v4 : AC := (.seq (.region 8 [o1 4 (sk 0)] 0 none) []
  (.ret (rl 0 4 (rl 5 21 []))))
def A78 : AF := ⟨26, [.tmp 4],
  (.seq (.region 0 [o1 4 (sk 0)] 0 none) []
  (.seq (.region 1 [o1 8 (.build 27 [vci 0, vci 0, vci 0] [(0, 1), (1, 1), (2, 1)] 0 [(0, (ic 1)), (1, (ic 2)), (2, (ic 3))]), o1 5 (.alloc 0 27 [vci 0, vci 0, vci 0]), o0 (.store 27 3 (tm 5) (tm 8))] 1 none) []
  (.seq (.region 2 [o1 9 (ln 27 3 5), mv 10 0, o1 11 (cs 61 [10] [3]), o1 12 (cs 59 [9, 11] [27, 3]), mv 13 1, o1 14 (cs 61 [13] [3]), o1 15 (cs 59 [12, 14] [27, 3]), o1 6 (.alloc 0 27 [vci 0, vci 0, vci 0]), o0 (.store 27 3 (tm 6) (tm 15))] 1 (some [[], [], [1], [0, 1, 2], [], (rl 0 5 []), (rl 0 6 []), [], (rl 0 8 [])])) []
  (.seq (.seq (.region 3 [o1 7 (sk 0)] 0 none) []
  (.block 0
  (.loop [] (rl 0 5 (rl 8 18 []))
    A78v3))) (4 :: 7 :: (rl 16 10 []))
  A78v4))))⟩
def B144v1 (C : Oracle) (fuel : Nat) {ρ : Type} : St → (Ex → St → Option ρ) → Option ρ := fun st k => evalC C fuel A78v3 st k
def N144v1 : St → Option St := fun s => s.norm (rl 0 5 (rl 8 18 [])) 2
def s144v0 (x16 x17 x18 x19 : Int) : St := ⟨(us 5 (.x (.ptr 0 0) :: .x (.ptr 1 0) :: vxi x16 :: (us 18 []))), [.box [(vci 1), (vci 2), (vci 3)], .box [(vci x17), (vci x18), (vci x19)]]⟩
def s144v1 (x21 x17 x18 x19 : Int) : St := ⟨(us 4 (vxi x21 :: (us 21 []))), [.box [(vci 1), (vci 2), (vci 3)], .box [(vci x17), (vci x18), (vci x19)]]⟩
def s144v2 (x17 x18 x19 : Int) : St := ⟨(us 26 []), [.box [(vci 1), (vci 2), (vci 3)], .box [(vci x17), (vci x18), (vci x19)]]⟩
def L144v1 {ρ : Type} (fuel : Nat) (x17 x18 x19 : Int) : Nat → Int → (Int → Option ρ) → (Option ρ) → Option ρ
  | 0, _, _, _ => none
  | m + 1, x16, k0, k1 =>
    (bif (decide (x16 < 24)) then (ob (F143 fuel 1 2 3 x16) fun x20 => (bif ((x20.1 == x17) && ((x20.2.1 == x18) && ((x20.2.2 == x19) && true))) then (k0 x16) else (L144v1 fuel x17 x18 x19 m (w64 (x16 + 1)) k0 k1))) else k1)
theorem nl144v1 {ρ σ : Type} (fuel : Nat) (x17 x18 x19 : Int) (g : ρ → Option σ) : ∀ (m : Nat) (x16 : Int) (k0 : Int → Option ρ) (k1 : Option ρ), ob (L144v1 fuel x17 x18 x19 m x16 k0 k1) g = L144v1 fuel x17 x18 x19 m x16 (fun x21 => ob (k0 x21) g) (ob k1 g)
  | 0, _, _, _ => rfl
  | m + 1, x16, k0, k1 => by
    simp only [L144v1, ob_bif, ob_ob, ob_none, nl144v1 fuel x17 x18 x19 g m]
theorem r144v1 (fuel : Nat) (m : Nat) {ρ : Type} (k : Ex → St → Option ρ) (x17 x18 x19 x16 : Int) :
    loopH (B144v1 (C87 fuel) fuel) N144v1 (m + 1) (s144v0 x16 x17 x18 x19) k =
    (bif (decide (x16 < 24)) then (ob (F143 fuel 1 2 3 x16) fun x20 => (bif ((x20.1 == x17) && ((x20.2.1 == x18) && ((x20.2.2 == x19) && true))) then (k .ret (s144v1 x16 x17 x18 x19)) else (loopH (B144v1 (C87 fuel) fuel) N144v1 m (s144v0 (w64 (x16 + 1)) x17 x18 x19) k))) else (k (.exit 0) (s144v2 x17 x18 x19))) := by kernel_rfl
theorem q144v1 (fuel : Nat) (x17 x18 x19 : Int) {ρ : Type} (k : Ex → St → Option ρ) : ∀ (m : Nat) (x16 : Int),
    loopH (B144v1 (C87 fuel) fuel) N144v1 m (s144v0 x16 x17 x18 x19) k = L144v1 fuel x17 x18 x19 m x16 (fun x21 => k .ret (s144v1 x21 x17 x18 x19)) (k (.exit 0) (s144v2 x17 x18 x19))
  | 0, _ => rfl
  | m + 1, x16 => by
    rw [r144v1]
    simp only [L144v1, q144v1 fuel x17 x18 x19 k m]
def D144 {ρ : Type} (fuel : Nat) (x1 x2 : Int) (k : Int → Option ρ) : Option ρ :=
  (ob (F140 fuel x1) fun x7 => (ob (F143 fuel 1 2 3 x7) fun x8 => (ob (F140 fuel x2) fun x9 => (ob (F143 fuel x8.1 x8.2.1 x8.2.2 x9) fun x10 => (L144v1 fuel x10.1 x10.2.1 x10.2.2 fuel 0
    (fun x22 => (k x22))
    (k 0))))))
def F144 (fuel : Nat) (x1 x2 : Int) : Option (Int) := D144 fuel x1 x2 some
theorem f144 {ρ : Type} (fuel : Nat) (x1 x2 : Int) (k : (Int) → Option ρ) : D144 fuel x1 x2 k = ob (F144 fuel x1 x2) k := by
  simp only [F144, D144, ob_bif, ob_ob, ob_none, ob_some, nl144v1]
def s144v3 (x1 x2 x7 : Int) (x8 : Int × Int × Int) (x9 : Int) (x10 : Int × Int × Int) : St := ⟨[vxi x1, vxi x2, .undef, .undef, vxi 0, .x (.ptr 0 0), .x (.ptr 1 0), vxi 0, .agg [(vci 1), (vci 2), (vci 3)], .agg [(vci 1), (vci 2), (vci 3)], vxi x1, vxi x7, .agg [(vci x8.1), (vci x8.2.1), (vci x8.2.2)], vxi x2, vxi x9, .agg [(vci x10.1), (vci x10.2.1), (vci x10.2.2)], .undef, .undef, .undef, .undef, .undef, .undef, .undef, .undef, .undef, .undef], [.box [(vci 1), (vci 2), (vci 3)], .box [(vci x10.1), (vci x10.2.1), (vci x10.2.2)]]⟩
theorem walk144 (fuel : Nat) (x1 x2 : Int) :
    evalF (C87 fuel) fuel A78 [.v (vi x1), .v (vi x2)] =
    (ob (F140 fuel x1) fun x7 => (ob (F143 fuel 1 2 3 x7) fun x8 => (ob (F140 fuel x2) fun x9 => (ob (F143 fuel x8.1 x8.2.1 x8.2.2 x9) fun x10 => (loopN (B144v1 (C87 fuel) fuel) N144v1 fuel (s144v3 x1 x2 x7 x8 x9 x10) (kBlk 0 (kSeq (C87 fuel) fuel (4 :: 7 :: (rl 16 10 [])) A78v4 (finish A78)))))))) := by kernel_rfl
theorem t144v1 (fuel : Nat) {ρ : Type} (k : Ex → St → Option ρ) (x1 x2 x7 : Int) (x8 : Int × Int × Int) (x9 : Int) (x10 : Int × Int × Int) :
    loopN (B144v1 (C87 fuel) fuel) N144v1 fuel (s144v3 x1 x2 x7 x8 x9 x10) k =
    L144v1 fuel x10.1 x10.2.1 x10.2.2 fuel 0 (fun x21 => k .ret (s144v1 x21 x10.1 x10.2.1 x10.2.2)) (k (.exit 0) (s144v2 x10.1 x10.2.1 x10.2.2)) :=
  (loopN_at (st' := (s144v0 0 x10.1 x10.2.1 x10.2.2)) (by kernel_rfl)).trans (q144v1 fuel x10.1 x10.2.1 x10.2.2 k fuel 0)
theorem g144v2 (fuel : Nat) (x22 : Int) (x10 : Int × Int × Int) :
    (kBlk 0 (kSeq (C87 fuel) fuel (4 :: 7 :: (rl 16 10 [])) A78v4 (finish A78))) .ret (s144v1 x22 x10.1 x10.2.1 x10.2.2) =
    (some [.v (vi x22)]) := by kernel_rfl
theorem g144v3 (fuel : Nat) (x10 : Int × Int × Int) :
    (kBlk 0 (kSeq (C87 fuel) fuel (4 :: 7 :: (rl 16 10 [])) A78v4 (finish A78))) (.exit 0) (s144v2 x10.1 x10.2.1 x10.2.2) =
    (some [.v (vi 0)]) := by kernel_rfl
theorem e144 (fuel : Nat) (x1 x2 : Int) : evalF (C87 fuel) fuel A78 [.v (vi x1), .v (vi x2)] = ob (F144 fuel x1 x2) fun t => some [.v (vi t)] := by
  rw [walk144, ← f144]
  simp only [D144, t144v1, g144v2, g144v3]
def O144 (fuel : Nat) : Ora where
  o := fun args {ρ} K =>
    wcI .i64 args fun y4 l2 =>
    wcI .i64 l2 fun y8 l6 =>
    wn l6 <|
    (ob (F144 fuel y4 y8) fun t => K [.v (vi t)])
  nat := fun args {ρ} K => by
    simp only [bind_wcI, bind_wn, bind_ob, Option.bind_some]
theorem d144 {P : Program} (fuel : Nat) (hmix : P.follows .mixedOrders = true) (hC : Sound P (C87 fuel)) (hF : FFits P 78 A78) (args res : List A) (h : (O144 fuel).o args some = some res) : Den P 78 args res := by
  obtain ⟨a1, y4, l2, rfl, h3, z0⟩ := inv_wcI h
  obtain ⟨a5, y8, l6, rfl, h7, z1⟩ := inv_wcI z0
  obtain ⟨hn, z2⟩ := inv_wn z1
  cases hn
  exact Den.weaken (.cons h3 (.cons h7 .nil)) (evalF_sound hmix hC hF ((e144 fuel y4 y8).trans z2))
def C88 (fuel : Nat) : Oracle := (C87 fuel).add 78 (fun _ => true) (O144 fuel)
def A57v1 : AC := (.region 3 [mv 6 3, o1 7 (bk .add 3 6 1), o1 3 (sg 7)] 0 none)
def A57v2 : AC := (.seq (.block 1
  (.seq (.region 4 [mv 8 0, o1 9 (cs 61 [8] [3]), mv 10 3, o1 11 (cs 78 [9, 10] [3, 3]), o1 12 (bk .eql 3 11 0)] 0 none) []
    (.cond (tm 12)
    (.seq (.region 5 [mv 13 3, o1 2 (sg 13)] 0 none) []
      (.ret (0 :: 1 :: (rl 3 11 []))))
    .skip))) (2 :: (rl 8 6 []))
  A57v1)
def A57v3 : AC := (.seq (.seq (.region 2 [mv 4 3, o1 5 (bk .lss 3 4 24)] 0 none) []
  (.cond (tm 5)
  .skip
  (.exit 0 (rl 0 14 [])))) [4, 5]
  A57v2)
def A57v4 : AC := (.seq (.region 6 [o1 2 (sk 0)] 0 none) []
  (.ret (0 :: 1 :: (rl 3 11 []))))
def A57 : AF := ⟨14, [.tmp 2],
  (.seq (.region 0 [o1 2 (sk 0)] 0 none) []
  (.seq (.seq (.region 1 [o1 3 (sk 0)] 0 none) []
  (.block 0
  (.loop [] (1 :: 2 :: (rl 4 10 []))
    A57v3))) (rl 2 12 [])
  A57v4))⟩
def B145v1 (C : Oracle) (fuel : Nat) {ρ : Type} : St → (Ex → St → Option ρ) → Option ρ := fun st k => evalC C fuel A57v3 st k
def N145v1 : St → Option St := fun s => s.norm (1 :: 2 :: (rl 4 10 [])) 0
def s145v0 (x5 x6 : Int) : St := ⟨(vxi x5 :: .u :: .u :: vxi x6 :: (us 10 [])), []⟩
def s145v1 (x9 : Int) : St := ⟨(.u :: .u :: vxi x9 :: (us 11 [])), []⟩
def s145v2 : St := ⟨(us 14 []), []⟩
def L145v1 {ρ : Type} (fuel : Nat) (x5 : Int) : Nat → Int → (Int → Option ρ) → (Option ρ) → Option ρ
  | 0, _, _, _ => none
  | m + 1, x6, k0, k1 =>
    (bif (decide (x6 < 24)) then (ob (F140 fuel x5) fun x7 => (ob (F144 fuel x7 x6) fun x8 => (bif (x8 == 0) then (k0 x6) else (L145v1 fuel x5 m (w64 (x6 + 1)) k0 k1)))) else k1)
theorem nl145v1 {ρ σ : Type} (fuel : Nat) (x5 : Int) (g : ρ → Option σ) : ∀ (m : Nat) (x6 : Int) (k0 : Int → Option ρ) (k1 : Option ρ), ob (L145v1 fuel x5 m x6 k0 k1) g = L145v1 fuel x5 m x6 (fun x9 => ob (k0 x9) g) (ob k1 g)
  | 0, _, _, _ => rfl
  | m + 1, x6, k0, k1 => by
    simp only [L145v1, ob_bif, ob_ob, ob_none, nl145v1 fuel x5 g m]
theorem r145v1 (fuel : Nat) (m : Nat) {ρ : Type} (k : Ex → St → Option ρ) (x5 x6 : Int) :
    loopH (B145v1 (C88 fuel) fuel) N145v1 (m + 1) (s145v0 x5 x6) k =
    (bif (decide (x6 < 24)) then (ob (F140 fuel x5) fun x7 => (ob (F144 fuel x7 x6) fun x8 => (bif (x8 == 0) then (k .ret (s145v1 x6)) else (loopH (B145v1 (C88 fuel) fuel) N145v1 m (s145v0 x5 (w64 (x6 + 1))) k)))) else (k (.exit 0) s145v2)) := by kernel_rfl
theorem q145v1 (fuel : Nat) (x5 : Int) {ρ : Type} (k : Ex → St → Option ρ) : ∀ (m : Nat) (x6 : Int),
    loopH (B145v1 (C88 fuel) fuel) N145v1 m (s145v0 x5 x6) k = L145v1 fuel x5 m x6 (fun x9 => k .ret (s145v1 x9)) (k (.exit 0) s145v2)
  | 0, _ => rfl
  | m + 1, x6 => by
    rw [r145v1]
    simp only [L145v1, q145v1 fuel x5 k m]
def D145 {ρ : Type} (fuel : Nat) (x1 : Int) (k : Int → Option ρ) : Option ρ :=
  (L145v1 fuel x1 fuel 0
    (fun x10 => (k x10))
    (k 0))
def F145 (fuel : Nat) (x1 : Int) : Option (Int) := D145 fuel x1 some
theorem f145 {ρ : Type} (fuel : Nat) (x1 : Int) (k : (Int) → Option ρ) : D145 fuel x1 k = ob (F145 fuel x1) k := by
  simp only [F145, D145, ob_bif, ob_ob, ob_none, ob_some, nl145v1]
def s145v3 (x1 : Int) : St := ⟨[vxi x1, .undef, vxi 0, vxi 0, .undef, .undef, .undef, .undef, .undef, .undef, .undef, .undef, .undef, .undef], []⟩
theorem walk145 (fuel : Nat) (x1 : Int) :
    evalF (C88 fuel) fuel A57 [.v (vi x1)] =
    (loopN (B145v1 (C88 fuel) fuel) N145v1 fuel (s145v3 x1) (kBlk 0 (kSeq (C88 fuel) fuel (rl 2 12 []) A57v4 (finish A57)))) := by kernel_rfl
theorem t145v1 (fuel : Nat) {ρ : Type} (k : Ex → St → Option ρ) (x1 : Int) :
    loopN (B145v1 (C88 fuel) fuel) N145v1 fuel (s145v3 x1) k =
    L145v1 fuel x1 fuel 0 (fun x9 => k .ret (s145v1 x9)) (k (.exit 0) s145v2) :=
  (loopN_at (st' := (s145v0 x1 0)) (by kernel_rfl)).trans (q145v1 fuel x1 k fuel 0)
theorem g145v2 (fuel : Nat) (x10 : Int) :
    (kBlk 0 (kSeq (C88 fuel) fuel (rl 2 12 []) A57v4 (finish A57))) .ret (s145v1 x10) =
    (some [.v (vi x10)]) := by kernel_rfl
theorem g145v3 (fuel : Nat) :
    (kBlk 0 (kSeq (C88 fuel) fuel (rl 2 12 []) A57v4 (finish A57))) (.exit 0) s145v2 =
    (some [.v (vi 0)]) := by kernel_rfl
theorem e145 (fuel : Nat) (x1 : Int) : evalF (C88 fuel) fuel A57 [.v (vi x1)] = ob (F145 fuel x1) fun t => some [.v (vi t)] := by
  rw [walk145, ← f145]
  simp only [D145, t145v1, g145v2, g145v3]
def O145 (fuel : Nat) : Ora where
  o := fun args {ρ} K =>
    wcI .i64 args fun y4 l2 =>
    wn l2 <|
    (ob (F145 fuel y4) fun t => K [.v (vi t)])
  nat := fun args {ρ} K => by
    simp only [bind_wcI, bind_wn, bind_ob, Option.bind_some]
theorem d145 {P : Program} (fuel : Nat) (hmix : P.follows .mixedOrders = true) (hC : Sound P (C88 fuel)) (hF : FFits P 57 A57) (args res : List A) (h : (O145 fuel).o args some = some res) : Den P 57 args res := by
  obtain ⟨a1, y4, l2, rfl, h3, z0⟩ := inv_wcI h
  obtain ⟨hn, z1⟩ := inv_wn z0
  cases hn
  exact Den.weaken (.cons h3 .nil) (evalF_sound hmix hC hF ((e145 fuel y4).trans z1))
def C89 (fuel : Nat) : Oracle := (C88 fuel).add 57 (fun _ => true) (O145 fuel)
def A32v1 : AC := (.seq (.region 3 [o1 9 (fa 29 1 1 3), o1 10 (lo 3 9), o1 11 (cs 57 [10] [3]), o1 3 (sg 11)] 0 none) []
  (.seq (.region 4 [o1 12 (.build 27 [vci 0, vci 0, vci 0] [(0, 1), (1, 1), (2, 1)] 0 []), o1 13 (fa 29 1 0 0), o1 14 (ln 27 3 13), mv 15 3, o1 16 (cs 59 [14, 15] [27, 3]), o1 17 (cs 58 [12, 16] [27, 27]), mv 18 3, o1 19 (.build 29 [vci 0, vci 0, vci 0, vci 0] [(0, 3), (3, 1)] 0 [(0, (tm 17)), (1, (tm 18))]), o0 (.store 29 4 (tm 2) (tm 19))] 0 none) []
  (.ret (0 :: 1 :: (rl 3 17 [])))))
def A32 : AF := ⟨20, [.cell 2 29 (some 4)],
  (.seq (.region 0 [o1 1 (bx 0 29 0), o1 2 (.alloc 1 29 [vci 0, vci 0, vci 0, vci 0])] 2 none) []
  (.seq (.seq (.region 1 [o1 4 (fa 29 1 0 0), o1 5 (ln 27 3 4), o1 6 (cs 56 [5] [27]), o1 7 (.unOp .not 4 (tm 6))] 0 none) []
  (.cond (tm 7)
  (.seq (.region 2 [o1 8 (.build 29 [vci 0, vci 0, vci 0, vci 0] [(0, 3), (3, 1)] 0 []), o0 (.store 29 4 (tm 2) (tm 8))] 0 none) []
    (.ret (0 :: 1 :: (rl 3 17 []))))
  .skip)) (rl 4 5 [])
  A32v1))⟩
def D146 {ρ : Type} (fuel : Nat) (x1 x2 x3 x4 : Int) (k : (Int × Int × Int × Int) → Option ρ) : Option ρ :=
  (ob (F136 fuel x1 x2 x3) fun x5 => (bif (!x5) then (k (0, 0, 0, 0)) else (ob (F145 fuel x4) fun x6 => (ob (F143 fuel x1 x2 x3 x6) fun x7 => (ob (F137 fuel 0 0 0 x7.1 x7.2.1 x7.2.2) fun x8 => (k (x8.1, x8.2.1, x8.2.2, x6)))))))
def F146 (fuel : Nat) (x1 x2 x3 x4 : Int) : Option (Int × Int × Int × Int) := D146 fuel x1 x2 x3 x4 some
theorem f146 {ρ : Type} (fuel : Nat) (x1 x2 x3 x4 : Int) (k : (Int × Int × Int × Int) → Option ρ) : D146 fuel x1 x2 x3 x4 k = ob (F146 fuel x1 x2 x3 x4) k := by
  simp only [F146, D146, ob_bif, ob_ob, ob_none, ob_some]
theorem walk146 (fuel : Nat) (x1 x2 x3 x4 : Int) :
    evalF (C89 fuel) fuel A32 [.agg [(vi x1), (vi x2), (vi x3), (vi x4)]] =
    (ob (F136 fuel x1 x2 x3) fun x5 => (bif (!x5) then (some [.agg [(vi 0), (vi 0), (vi 0), (vi 0)]]) else (ob (F145 fuel x4) fun x6 => (ob (F143 fuel x1 x2 x3 x6) fun x7 => (ob (F137 fuel 0 0 0 x7.1 x7.2.1 x7.2.2) fun x8 => (some [.agg [(vi x8.1), (vi x8.2.1), (vi x8.2.2), (vi x6)]])))))) := by kernel_rfl
theorem e146 (fuel : Nat) (x1 x2 x3 x4 : Int) : evalF (C89 fuel) fuel A32 [.agg [(vi x1), (vi x2), (vi x3), (vi x4)]] = ob (F146 fuel x1 x2 x3 x4) fun t => some [.agg [(vi t.1), (vi t.2.1), (vi t.2.2.1), (vi t.2.2.2)]] := by
  rw [walk146, ← f146]
  simp only [D146]
def O146 (fuel : Nat) : Ora where
  o := fun args {ρ} K =>
    wc args fun a1 l2 =>
    wagg a1 fun l3 =>
    wdI .i64 l3 fun y7 l5 =>
    wdI .i64 l5 fun y11 l9 =>
    wdI .i64 l9 fun y15 l13 =>
    wdI .i64 l13 fun y19 l17 =>
    wn l17 <|
    wn l2 <|
    (ob (F146 fuel y7 y11 y15 y19) fun t => K [.agg [(vi t.1), (vi t.2.1), (vi t.2.2.1), (vi t.2.2.2)]])
  nat := fun args {ρ} K => by
    simp only [bind_wagg, bind_wc, bind_wdI, bind_wn, bind_ob, Option.bind_some]
theorem d146 {P : Program} (fuel : Nat) (hmix : P.follows .mixedOrders = true) (hC : Sound P (C89 fuel)) (hF : FFits P 32 A32) (args res : List A) (h : (O146 fuel).o args some = some res) : Den P 32 args res := by
  obtain ⟨a1, l2, rfl, z0⟩ := inv_wc h
  obtain ⟨l3, rfl, z1⟩ := inv_wagg z0
  obtain ⟨a4, y7, l5, rfl, h6, z2⟩ := inv_wdI z1
  obtain ⟨a8, y11, l9, rfl, h10, z3⟩ := inv_wdI z2
  obtain ⟨a12, y15, l13, rfl, h14, z4⟩ := inv_wdI z3
  obtain ⟨a16, y19, l17, rfl, h18, z5⟩ := inv_wdI z4
  obtain ⟨hn, z6⟩ := inv_wn z5
  cases hn
  obtain ⟨hn, z7⟩ := inv_wn z6
  cases hn
  exact Den.weaken (.cons (WkA.agg (.cons h6 (.cons h10 (.cons h14 (.cons h18 .nil))))) .nil) (evalF_sound hmix hC hF ((e146 fuel y7 y11 y15 y19).trans z7))
def C90 (fuel : Nat) : Oracle := (C89 fuel).add 32 (fun _ => true) (O146 fuel)
def A60 : AF := ⟨21, [.cell 4 27 (some 3)],
  (.seq (.region 0 [o1 2 (bx 0 27 0), o1 3 (bx 1 27 1), o1 4 (.alloc 2 27 [vci 0, vci 0, vci 0])] 3 none) []
  (.seq (.region 1 [o1 5 (fa 27 2 0 0), o1 6 (lo 3 5), o1 7 (fa 27 3 0 0), o1 8 (lo 3 7), o1 9 (bt .add 3 6 8), o1 10 (fa 27 2 1 1), o1 11 (lo 3 10), o1 12 (fa 27 3 1 1), o1 13 (lo 3 12), o1 14 (bt .add 3 11 13), o1 15 (fa 27 2 2 2), o1 16 (lo 3 15), o1 17 (fa 27 3 2 2), o1 18 (lo 3 17), o1 19 (bt .add 3 16 18), o1 20 (.build 27 [vci 0, vci 0, vci 0] [(0, 1), (1, 1), (2, 1)] 0 [(0, (tm 9)), (1, (tm 14)), (2, (tm 19))]), o0 (.store 27 3 (tm 4) (tm 20))] 0 none) []
  (.ret (rl 0 4 (rl 5 16 [])))))⟩
def D147 {ρ : Type} (fuel : Nat) (x1 x2 x3 x4 x5 x6 : Int) (k : (Int × Int × Int) → Option ρ) : Option ρ :=
  (k ((w64 (x1 + x4)), (w64 (x2 + x5)), (w64 (x3 + x6))))
def F147 (fuel : Nat) (x1 x2 x3 x4 x5 x6 : Int) : Option (Int × Int × Int) := D147 fuel x1 x2 x3 x4 x5 x6 some
theorem f147 {ρ : Type} (fuel : Nat) (x1 x2 x3 x4 x5 x6 : Int) (k : (Int × Int × Int) → Option ρ) : D147 fuel x1 x2 x3 x4 x5 x6 k = ob (F147 fuel x1 x2 x3 x4 x5 x6) k := by
  simp only [F147, D147, ob_bif, ob_ob, ob_none, ob_some]
theorem walk147 (fuel : Nat) (x1 x2 x3 x4 x5 x6 : Int) :
    evalF (C90 fuel) fuel A60 [.agg [(vi x1), (vi x2), (vi x3)], .agg [(vi x4), (vi x5), (vi x6)]] =
    (some [.agg [(vi (w64 (x1 + x4))), (vi (w64 (x2 + x5))), (vi (w64 (x3 + x6)))]]) := by kernel_rfl
theorem e147 (fuel : Nat) (x1 x2 x3 x4 x5 x6 : Int) : evalF (C90 fuel) fuel A60 [.agg [(vi x1), (vi x2), (vi x3)], .agg [(vi x4), (vi x5), (vi x6)]] = ob (F147 fuel x1 x2 x3 x4 x5 x6) fun t => some [.agg [(vi t.1), (vi t.2.1), (vi t.2.2)]] := by
  rw [walk147, ← f147]
  simp only [D147]
def O147 (fuel : Nat) : Ora where
  o := fun args {ρ} K =>
    wc args fun a1 l2 =>
    wagg a1 fun l3 =>
    wdI .i64 l3 fun y7 l5 =>
    wdI .i64 l5 fun y11 l9 =>
    wdI .i64 l9 fun y15 l13 =>
    wn l13 <|
    wc l2 fun a16 l17 =>
    wagg a16 fun l18 =>
    wdI .i64 l18 fun y22 l20 =>
    wdI .i64 l20 fun y26 l24 =>
    wdI .i64 l24 fun y30 l28 =>
    wn l28 <|
    wn l17 <|
    (ob (F147 fuel y7 y11 y15 y22 y26 y30) fun t => K [.agg [(vi t.1), (vi t.2.1), (vi t.2.2)]])
  nat := fun args {ρ} K => by
    simp only [bind_wagg, bind_wc, bind_wdI, bind_wn, bind_ob, Option.bind_some]
theorem d147 {P : Program} (fuel : Nat) (hmix : P.follows .mixedOrders = true) (hC : Sound P (C90 fuel)) (hF : FFits P 60 A60) (args res : List A) (h : (O147 fuel).o args some = some res) : Den P 60 args res := by
  obtain ⟨a1, l2, rfl, z0⟩ := inv_wc h
  obtain ⟨l3, rfl, z1⟩ := inv_wagg z0
  obtain ⟨a4, y7, l5, rfl, h6, z2⟩ := inv_wdI z1
  obtain ⟨a8, y11, l9, rfl, h10, z3⟩ := inv_wdI z2
  obtain ⟨a12, y15, l13, rfl, h14, z4⟩ := inv_wdI z3
  obtain ⟨hn, z5⟩ := inv_wn z4
  cases hn
  obtain ⟨a16, l17, rfl, z6⟩ := inv_wc z5
  obtain ⟨l18, rfl, z7⟩ := inv_wagg z6
  obtain ⟨a19, y22, l20, rfl, h21, z8⟩ := inv_wdI z7
  obtain ⟨a23, y26, l24, rfl, h25, z9⟩ := inv_wdI z8
  obtain ⟨a27, y30, l28, rfl, h29, z10⟩ := inv_wdI z9
  obtain ⟨hn, z11⟩ := inv_wn z10
  cases hn
  obtain ⟨hn, z12⟩ := inv_wn z11
  cases hn
  exact Den.weaken (.cons (WkA.agg (.cons h6 (.cons h10 (.cons h14 .nil)))) (.cons (WkA.agg (.cons h21 (.cons h25 (.cons h29 .nil)))) .nil)) (evalF_sound hmix hC hF ((e147 fuel y7 y11 y15 y22 y26 y30).trans z12))
def C91 (fuel : Nat) : Oracle := (C90 fuel).add 60 (fun _ => true) (O147 fuel)
def A33v1 : AC := (.seq (.region 3 [o1 15 (ln 27 3 3), o1 16 (fa 29 2 1 3), o1 17 (lo 3 16), o1 18 (cs 61 [17] [3]), o1 19 (cs 59 [15, 18] [27, 3]), o1 20 (fa 29 2 0 0), o1 21 (ln 27 3 20), o1 22 (cs 60 [19, 21] [27, 27]), o0 (.store 27 3 (tm 4) (tm 22))] 0 (some [[], [], [1], [1, 2], (rl 0 4 []), [], [5], (rl 0 7 []), (rl 0 8 [])])) []
  (.ret (rl 0 4 (rl 5 18 []))))
def A33 : AF := ⟨23, [.cell 4 27 (some 3)],
  (.seq (.region 0 [o1 2 (bx 0 29 0), o1 3 (bx 1 27 1), o1 4 (.alloc 2 27 [vci 0, vci 0, vci 0])] 3 none) []
  (.seq (.seq (.region 1 [o1 5 (fa 29 2 0 0), o1 6 (ln 27 3 5), o1 7 (cs 56 [6] [27]), o1 8 (.unOp .not 4 (tm 7)), mv 9 8, og 10 (ln 27 3 3) 9 false, og 11 (cs 56 [10] [27]) 9 false, og 12 (.unOp .not 4 (tm 11)) 9 false, o1 13 (pa 9 12)] 0 none) []
  (.cond (tm 13)
  (.seq (.region 2 [o1 14 (.build 27 [vci 0, vci 0, vci 0] [(0, 1), (1, 1), (2, 1)] 0 []), o0 (.store 27 3 (tm 4) (tm 14))] 0 none) []
    (.ret (rl 0 4 (rl 5 18 []))))
  .skip)) (rl 5 10 [])
  A33v1))⟩
def D148 {ρ : Type} (fuel : Nat) (x1 x2 x3 x4 x5 x6 x7 : Int) (k : (Int × Int × Int) → Option ρ) : Option ρ :=
  (ob (F136 fuel x1 x2 x3) fun x8 => (bif ((!x8) == false) then (ob (F136 fuel x5 x6 x7) fun x9 => (bif (!x9) then (k (0, 0, 0)) else (ob (F140 fuel x4) fun x13 => (ob (F143 fuel x5 x6 x7 x13) fun x14 => (ob (F147 fuel x14.1 x14.2.1 x14.2.2 x1 x2 x3) fun x15 => (k (x15.1, x15.2.1, x15.2.2))))))) else (k (0, 0, 0))))
def F148 (fuel : Nat) (x1 x2 x3 x4 x5 x6 x7 : Int) : Option (Int × Int × Int) := D148 fuel x1 x2 x3 x4 x5 x6 x7 some
theorem f148 {ρ : Type} (fuel : Nat) (x1 x2 x3 x4 x5 x6 x7 : Int) (k : (Int × Int × Int) → Option ρ) : D148 fuel x1 x2 x3 x4 x5 x6 x7 k = ob (F148 fuel x1 x2 x3 x4 x5 x6 x7) k := by
  simp only [F148, D148, ob_bif, ob_ob, ob_none, ob_some]
theorem walk148 (fuel : Nat) (x1 x2 x3 x4 x5 x6 x7 : Int) :
    evalF (C91 fuel) fuel A33 [.agg [(vi x1), (vi x2), (vi x3), (vi x4)], .agg [(vi x5), (vi x6), (vi x7)]] =
    (ob (F136 fuel x1 x2 x3) fun x8 => (bif ((!x8) == false) then (ob (F136 fuel x5 x6 x7) fun x9 => (bif (!x9) then (some [.agg [(vi 0), (vi 0), (vi 0)]]) else (ob (F140 fuel x4) fun x13 => (ob (F143 fuel x5 x6 x7 x13) fun x14 => (ob (F147 fuel x14.1 x14.2.1 x14.2.2 x1 x2 x3) fun x15 => (some [.agg [(vi x15.1), (vi x15.2.1), (vi x15.2.2)]])))))) else (some [.agg [(vi 0), (vi 0), (vi 0)]]))) := by kernel_rfl
theorem e148 (fuel : Nat) (x1 x2 x3 x4 x5 x6 x7 : Int) : evalF (C91 fuel) fuel A33 [.agg [(vi x1), (vi x2), (vi x3), (vi x4)], .agg [(vi x5), (vi x6), (vi x7)]] = ob (F148 fuel x1 x2 x3 x4 x5 x6 x7) fun t => some [.agg [(vi t.1), (vi t.2.1), (vi t.2.2)]] := by
  rw [walk148, ← f148]
  simp only [D148]
def O148 (fuel : Nat) : Ora where
  o := fun args {ρ} K =>
    wc args fun a1 l2 =>
    wagg a1 fun l3 =>
    wdI .i64 l3 fun y7 l5 =>
    wdI .i64 l5 fun y11 l9 =>
    wdI .i64 l9 fun y15 l13 =>
    wdI .i64 l13 fun y19 l17 =>
    wn l17 <|
    wc l2 fun a20 l21 =>
    wagg a20 fun l22 =>
    wdI .i64 l22 fun y26 l24 =>
    wdI .i64 l24 fun y30 l28 =>
    wdI .i64 l28 fun y34 l32 =>
    wn l32 <|
    wn l21 <|
    (ob (F148 fuel y7 y11 y15 y19 y26 y30 y34) fun t => K [.agg [(vi t.1), (vi t.2.1), (vi t.2.2)]])
  nat := fun args {ρ} K => by
    simp only [bind_wagg, bind_wc, bind_wdI, bind_wn, bind_ob, Option.bind_some]
theorem d148 {P : Program} (fuel : Nat) (hmix : P.follows .mixedOrders = true) (hC : Sound P (C91 fuel)) (hF : FFits P 33 A33) (args res : List A) (h : (O148 fuel).o args some = some res) : Den P 33 args res := by
  obtain ⟨a1, l2, rfl, z0⟩ := inv_wc h
  obtain ⟨l3, rfl, z1⟩ := inv_wagg z0
  obtain ⟨a4, y7, l5, rfl, h6, z2⟩ := inv_wdI z1
  obtain ⟨a8, y11, l9, rfl, h10, z3⟩ := inv_wdI z2
  obtain ⟨a12, y15, l13, rfl, h14, z4⟩ := inv_wdI z3
  obtain ⟨a16, y19, l17, rfl, h18, z5⟩ := inv_wdI z4
  obtain ⟨hn, z6⟩ := inv_wn z5
  cases hn
  obtain ⟨a20, l21, rfl, z7⟩ := inv_wc z6
  obtain ⟨l22, rfl, z8⟩ := inv_wagg z7
  obtain ⟨a23, y26, l24, rfl, h25, z9⟩ := inv_wdI z8
  obtain ⟨a27, y30, l28, rfl, h29, z10⟩ := inv_wdI z9
  obtain ⟨a31, y34, l32, rfl, h33, z11⟩ := inv_wdI z10
  obtain ⟨hn, z12⟩ := inv_wn z11
  cases hn
  obtain ⟨hn, z13⟩ := inv_wn z12
  cases hn
  exact Den.weaken (.cons (WkA.agg (.cons h6 (.cons h10 (.cons h14 (.cons h18 .nil))))) (.cons (WkA.agg (.cons h25 (.cons h29 (.cons h33 .nil)))) .nil)) (evalF_sound hmix hC hF ((e148 fuel y7 y11 y15 y19 y26 y30 y34).trans z13))
def C92 (fuel : Nat) : Oracle := (C91 fuel).add 33 (fun _ => true) (O148 fuel)
def A34v1 : AC := (.seq (.block 1
  (.region 7 [mv 21 5, o1 22 (fa 25 2 1 1), o1 23 (lo 23 22), mv 24 6, o1 25 (.indexAddr 23 22 1 (tm 23) (tm 24)), o1 26 (lo 22 25), o1 27 (ln 40 2 3), o1 28 (cs 62 [26, 27] [22, 40]), o1 29 (.unOp .neg 3 (tm 28)), o1 30 (.mm false [(tm 21), (tm 29)] [3, 3]), o1 5 (sg 30)] 0 (some [[], [], [1], [], [1, 2, 3], (rl 1 4 []), [], (rl 1 6 []), (rl 1 7 []), (rl 0 9 []), (rl 0 10 [])]))) []
  (.region 6 [mv 19 6, o1 20 (bk .add 3 19 1), o1 6 (sg 20)] 0 none))
def A34v2 : AC := (.seq (.seq (.region 5 [mv 14 6, o1 15 (fa 25 2 1 1), o1 16 (lo 23 15), o1 17 (.len 23 false (tm 16)), o1 18 (bt .lss 3 14 17)] 0 none) []
  (.cond (tm 18)
  .skip
  (.exit 0 (rl 0 5 (rl 6 26 []))))) (rl 14 5 [])
  A34v1)
def A34v3 : AC := (.seq (.region 8 [mv 31 5, o1 4 (sg 31)] 0 none) []
  (.ret (rl 0 4 (rl 5 27 []))))
def A34v4 : AC := (.seq (.region 3 [o1 10 (fa 25 2 0 0), o1 11 (lo 22 10), o1 12 (ln 40 2 3), o1 13 (cs 62 [11, 12] [22, 40]), o1 5 (sg 13)] 0 none) []
  (.seq (.seq (.region 4 [o1 6 (sk 0)] 0 none) []
  (.block 0
  (.loop [] (0 :: 1 :: 4 :: (rl 7 25 []))
    A34v2))) (6 :: (rl 14 17 []))
  A34v3))
def A34 : AF := ⟨32, [.tmp 4],
  (.seq (.region 0 [o1 2 (bx 0 25 0), o1 3 (bx 1 40 1), o1 4 (sk 0)] 2 none) []
  (.seq (.seq (.region 1 [o1 7 (ln 25 2 2), o1 8 (cs 54 [7] [25]), o1 9 (bk .neq 79 8 0)] 0 none) []
  (.cond (tm 9)
  (.seq (.region 2 [o1 4 (sk (-1))] 0 none) []
    (.ret (rl 0 4 (rl 5 27 []))))
  .skip)) [4, 7, 8, 9]
  A34v4))⟩
def B23v1 (C : Oracle) (fuel : Nat) {ρ : Type} : St → (Ex → St → Option ρ) → Option ρ := fun st k => evalC C fuel A34v2 st k
def N23v1 : St → Option St := fun s => s.norm (0 :: 1 :: 4 :: (rl 7 25 [])) 2
def s23v0 (x18 x19 : Int) (x20 : Nat) (x21 : FF) (x22 : Nat) (x23 : FF) (x24 x25 : Int) : St := ⟨(.u :: .u :: .x (.ptr 0 0) :: .x (.ptr 1 0) :: .u :: vxi x18 :: vxi x19 :: (us 25 [])), [.box [(.c (.ro false kP x20 x21)), (.c (.ro false (.pr (.sl kP) .nil) x22 x23))], .box [(vci x24), (vci x25)]]⟩
def s23v1 (x27 : Int) (x20 : Nat) (x21 : FF) (x22 : Nat) (x23 : FF) (x24 x25 : Int) : St := ⟨(us 5 (vxi x27 :: (us 26 []))), [.box [(.c (.ro false kP x20 x21)), (.c (.ro false (.pr (.sl kP) .nil) x22 x23))], .box [(vci x24), (vci x25)]]⟩
def L23v1 {ρ : Type} (fuel : Nat) (x20 : Nat) (x21 : FF) (x22 : Nat) (x23 : FF) (x24 x25 : Int) : Nat → Int → Int → (Int → Option ρ) → Option ρ
  | 0, _, _, _ => none
  | m + 1, x18, x19, k0 =>
    (bif (decide (x19 < (Int.ofNat x22))) then (bif (inb x19 x22) then (ob (F40 fuel (CV.len (x23 (Int.toNat x19) 0)) (CV.el (x23 (Int.toNat x19) 0)) x24 x25) fun x26 => (L23v1 fuel x20 x21 x22 x23 x24 x25 m (if (w64 (0 - x26)) < x18 then (w64 (0 - x26)) else x18) (w64 (x19 + 1)) k0)) else none) else (k0 x18))
theorem nl23v1 {ρ σ : Type} (fuel : Nat) (x20 : Nat) (x21 : FF) (x22 : Nat) (x23 : FF) (x24 x25 : Int) (g : ρ → Option σ) : ∀ (m : Nat) (x18 x19 : Int) (k0 : Int → Option ρ), ob (L23v1 fuel x20 x21 x22 x23 x24 x25 m x18 x19 k0) g = L23v1 fuel x20 x21 x22 x23 x24 x25 m x18 x19 (fun x27 => ob (k0 x27) g)
  | 0, _, _, _ => rfl
  | m + 1, x18, x19, k0 => by
    simp only [L23v1, ob_bif, ob_ob, ob_none, nl23v1 fuel x20 x21 x22 x23 x24 x25 g m]
theorem r23v1 (fuel : Nat) (m : Nat) {ρ : Type} (k : Ex → St → Option ρ) (x20 : Nat) (x21 : FF) (x22 : Nat) (x23 : FF) (x24 x25 x18 x19 : Int) :
    loopH (B23v1 (C92 fuel) fuel) N23v1 (m + 1) (s23v0 x18 x19 x20 x21 x22 x23 x24 x25) k =
    (bif (decide (x19 < (Int.ofNat x22))) then (bif (inb x19 x22) then (ob (F40 fuel (CV.len (x23 (Int.toNat x19) 0)) (CV.el (x23 (Int.toNat x19) 0)) x24 x25) fun x26 => (loopH (B23v1 (C92 fuel) fuel) N23v1 m (s23v0 (if (w64 (0 - x26)) < x18 then (w64 (0 - x26)) else x18) (w64 (x19 + 1)) x20 x21 x22 x23 x24 x25) k)) else none) else (k (.exit 0) (s23v1 x18 x20 x21 x22 x23 x24 x25))) := by kernel_rfl
theorem q23v1 (fuel : Nat) (x20 : Nat) (x21 : FF) (x22 : Nat) (x23 : FF) (x24 x25 : Int) {ρ : Type} (k : Ex → St → Option ρ) : ∀ (m : Nat) (x18 x19 : Int),
    loopH (B23v1 (C92 fuel) fuel) N23v1 m (s23v0 x18 x19 x20 x21 x22 x23 x24 x25) k = L23v1 fuel x20 x21 x22 x23 x24 x25 m x18 x19 (fun x27 => k (.exit 0) (s23v1 x27 x20 x21 x22 x23 x24 x25))
  | 0, _, _ => rfl
  | m + 1, x18, x19 => by
    rw [r23v1]
    simp only [L23v1, q23v1 fuel x20 x21 x22 x23 x24 x25 k m]
def D23 {ρ : Type} (fuel : Nat) (x1 : Nat) (x2 : FF) (x3 : Nat) (x4 : FF) (x5 x6 : Int) (k : Int → Option ρ) : Option ρ :=
  (ob (F14 fuel x1 x2 x3 x4) fun x7 => (bif (x7 != 0) then (k (-1)) else (ob (F40 fuel x1 x2 x5 x6) fun x8 => (L23v1 fuel x1 x2 x3 x4 x5 x6 fuel x8 0
    (fun x28 => (k x28))))))
def F23 (fuel : Nat) (x1 : Nat) (x2 : FF) (x3 : Nat) (x4 : FF) (x5 x6 : Int) : Option (Int) := D23 fuel x1 x2 x3 x4 x5 x6 some
theorem f23 {ρ : Type} (fuel : Nat) (x1 : Nat) (x2 : FF) (x3 : Nat) (x4 : FF) (x5 x6 : Int) (k : (Int) → Option ρ) : D23 fuel x1 x2 x3 x4 x5 x6 k = ob (F23 fuel x1 x2 x3 x4 x5 x6) k := by
  simp only [F23, D23, ob_bif, ob_ob, ob_none, ob_some, nl23v1]
def s23v2 (x1 : Nat) (x2 : FF) (x3 : Nat) (x4 : FF) (x5 x6 x8 : Int) : St := ⟨(.agg [(.c (.ro false kP x1 x2)), (.c (.ro false (.pr (.sl kP) .nil) x3 x4))] :: .agg [(vci x5), (vci x6)] :: .x (.ptr 0 0) :: .x (.ptr 1 0) :: .u :: vxi x8 :: vxi 0 :: (us 3 [.x (.ptr 0 0), .x (.c (.ro false kP x1 x2)), .agg [(vci x5), (vci x6)], vxi x8, .undef, .undef, .undef, .undef, .undef, .undef, .undef, .undef, .undef, .undef, .undef, .undef, .undef, .undef, .undef, .undef, .undef, .undef])), [.box [(.c (.ro false kP x1 x2)), (.c (.ro false (.pr (.sl kP) .nil) x3 x4))], .box [(vci x5), (vci x6)]]⟩
theorem walk23 (fuel : Nat) (x1 : Nat) (x2 : FF) (x3 : Nat) (x4 : FF) (x5 x6 : Int) :
    evalF (C92 fuel) fuel A34 [.agg [(.ro false kP x1 x2), (.ro false (.pr (.sl kP) .nil) x3 x4)], .agg [(vi x5), (vi x6)]] =
    (ob (F14 fuel x1 x2 x3 x4) fun x7 => (bif (x7 != 0) then (some [.v (vi (-1))]) else (ob (F40 fuel x1 x2 x5 x6) fun x8 => (loopN (B23v1 (C92 fuel) fuel) N23v1 fuel (s23v2 x1 x2 x3 x4 x5 x6 x8) (kBlk 0 (kSeq (C92 fuel) fuel (6 :: (rl 14 17 [])) A34v3 (finish A34))))))) := by kernel_rfl
theorem t23v1 (fuel : Nat) {ρ : Type} (k : Ex → St → Option ρ) (x1 : Nat) (x2 : FF) (x3 : Nat) (x4 : FF) (x5 x6 x8 : Int) :
    loopN (B23v1 (C92 fuel) fuel) N23v1 fuel (s23v2 x1 x2 x3 x4 x5 x6 x8) k =
    L23v1 fuel x1 x2 x3 x4 x5 x6 fuel x8 0 (fun x27 => k (.exit 0) (s23v1 x27 x1 x2 x3 x4 x5 x6)) :=
  (loopN_at (st' := (s23v0 x8 0 x1 x2 x3 x4 x5 x6)) (by kernel_rfl)).trans (q23v1 fuel x1 x2 x3 x4 x5 x6 k fuel x8 0)
theorem g23v2 (fuel : Nat) (x28 : Int) (x1 : Nat) (x2 : FF) (x3 : Nat) (x4 : FF) (x5 x6 : Int) :
    (kBlk 0 (kSeq (C92 fuel) fuel (6 :: (rl 14 17 [])) A34v3 (finish A34))) (.exit 0) (s23v1 x28 x1 x2 x3 x4 x5 x6) =
    (some [.v (vi x28)]) := by kernel_rfl
theorem e23 (fuel : Nat) (x1 : Nat) (x2 : FF) (x3 : Nat) (x4 : FF) (x5 x6 : Int) : evalF (C92 fuel) fuel A34 [.agg [(.ro false kP x1 x2), (.ro false (.pr (.sl kP) .nil) x3 x4)], .agg [(vi x5), (vi x6)]] = ob (F23 fuel x1 x2 x3 x4 x5 x6) fun t => some [.v (vi t)] := by
  rw [walk23, ← f23]
  simp only [D23, t23v1, g23v2]
def O23 (fuel : Nat) : Ora where
  o := fun args {ρ} K =>
    wc args fun a1 l2 =>
    wagg a1 fun l3 =>
    wdL kP l3 fun y7 y8 l5 =>
    wdL (.pr (.sl kP) .nil) l5 fun y12 y13 l10 =>
    wn l10 <|
    wc l2 fun a14 l15 =>
    wagg a14 fun l16 =>
    wdI .i64 l16 fun y20 l18 =>
    wdI .i64 l18 fun y24 l22 =>
    wn l22 <|
    wn l15 <|
    (ob (F23 fuel y7 y8 y12 y13 y20 y24) fun t => K [.v (vi t)])
  nat := fun args {ρ} K => by
    simp only [bind_wagg, bind_wc, bind_wdI, bind_wdL, bind_wn, bind_ob, Option.bind_some]
theorem d23 {P : Program} (fuel : Nat) (hmix : P.follows .mixedOrders = true) (hC : Sound P (C92 fuel)) (hF : FFits P 34 A34) (args res : List A) (h : (O23 fuel).o args some = some res) : Den P 34 args res := by
  obtain ⟨a1, l2, rfl, z0⟩ := inv_wc h
  obtain ⟨l3, rfl, z1⟩ := inv_wagg z0
  obtain ⟨a4, y7, y8, l5, rfl, h6, z2⟩ := inv_wdL z1
  obtain ⟨a9, y12, y13, l10, rfl, h11, z3⟩ := inv_wdL z2
  obtain ⟨hn, z4⟩ := inv_wn z3
  cases hn
  obtain ⟨a14, l15, rfl, z5⟩ := inv_wc z4
  obtain ⟨l16, rfl, z6⟩ := inv_wagg z5
  obtain ⟨a17, y20, l18, rfl, h19, z7⟩ := inv_wdI z6
  obtain ⟨a21, y24, l22, rfl, h23, z8⟩ := inv_wdI z7
  obtain ⟨hn, z9⟩ := inv_wn z8
  cases hn
  obtain ⟨hn, z10⟩ := inv_wn z9
  cases hn
  exact Den.weaken (.cons (WkA.agg (.cons h6 (.cons h11 .nil))) (.cons (WkA.agg (.cons h19 (.cons h23 .nil))) .nil)) (evalF_sound hmix hC hF ((e23 fuel y7 y8 y12 y13 y20 y24).trans z10))
def C93 (fuel : Nat) : Oracle := (C92 fuel).add 34 (fun _ => true) (O23 fuel)
def A13v1 : AC := (.seq (.block 3
  (.region 15 [mv 92 13, mv 93 92, og 94 (.move (tm 7)) 93 false, og 95 (.move (tm 14)) 93 false, og 96 (.indexAddr 36 42 4 (tm 94) (tm 95)) 93 false, og 97 (fa 42 96 1 1) 93 false, og 98 (ln 40 2 97) 93 false, og 99 (ln 40 2 12) 93 false, og 100 (.eqA false kP 40 (tm 98) (tm 99) 40) 93 false, o1 101 (pa 93 100), o1 13 (sg 101)] 0 (some [[], [0], [0, 1], [0, 1], (rl 0 4 []), (rl 0 5 []), (rl 0 6 []), [0, 1], (rl 0 8 []), (rl 0 9 []), (rl 0 10 [])]))) []
  (.region 14 [mv 90 14, o1 91 (bk .add 3 90 1), o1 14 (sg 91)] 0 none))
def A13v2 : AC := (.seq (.seq (.region 13 [mv 86 14, mv 87 7, o1 88 (.len 36 false (tm 87)), o1 89 (bt .lss 3 86 88)] 0 none) []
  (.cond (tm 89)
  .skip
  (.exit 2 (0 :: 4 :: 5 :: 6 :: 10 :: 11 :: (rl 14 99 []))))) (rl 86 4 [])
  A13v1)
def A13v3 : AC := (.seq (.region 16 [mv 102 13, o1 103 (.unOp .not 4 (tm 102))] 0 none) []
  (.cond (tm 103)
  (.region 17 [mv 104 7, o1 105 (fa 31 3 0 0), o1 106 (lo 9 105), o1 107 (ln 40 2 12), mv 108 2, o1 109 (.build 42 [vcs ByteArray.empty, vci 0, vci 0, vci 0] [(0, 1), (1, 2), (3, 1)] 0 [(0, (tm 106)), (1, (tm 107)), (2, (tm 108))]), o1 110 (.buildSlice 0 36 42 (.pr .str kV) 1 [vcs ByteArray.empty, vci 0, vci 0, vci 0] [(0, (tm 109))]), o1 111 (.append 1 36 42 (.pr .str kV) 40 (tm 104) (tm 110)), o1 7 (sg 111)] 2 none)
  .skip))
def A13v4 : AC := (.seq (.region 11 [o1 13 (sb false)] 0 none) []
  (.seq (.seq (.region 12 [o1 14 (sk 0)] 0 none) []
  (.block 2
  (.loop [] (0 :: 4 :: 5 :: 6 :: 10 :: 11 :: (rl 15 98 []))
    A13v2))) (14 :: (rl 86 16 []))
  A13v3))
def A13v5 : AC := (.region 7 [mv 31 9, o1 32 (bk .add 3 31 1), o1 9 (sg 32)] 0 none)
def A13v6 : AC := (.seq (.block 1
  (.seq (.region 8 [o1 33 (ln 29 4 8), mv 34 1, mv 35 9, o1 36 (bk .sub 3 35 1), o1 37 (.indexAddr 32 27 3 (tm 34) (tm 36)), o1 38 (ln 27 3 37), o1 39 (cs 33 [33, 38] [29, 27]), o1 40 (ln 29 4 8), mv 41 1, mv 42 9, o1 43 (.indexAddr 32 27 3 (tm 41) (tm 42)), o1 44 (ln 27 3 43), o1 45 (cs 33 [40, 44] [29, 27]), o1 10 (.alloc 0 27 [vci 0, vci 0, vci 0]), o1 11 (.alloc 1 27 [vci 0, vci 0, vci 0]), o0 (.store 27 3 (tm 10) (tm 39)), o0 (.store 27 3 (tm 11) (tm 45))] 2 (some [[], [], [], [2], [1, 2, 3], (rl 1 4 []), (rl 0 6 []), [], [], [], [8, 9], [8, 9, 10], (rl 0 12 []), [], [], (rl 0 15 []), (rl 0 16 [])])) []
    (.seq (.region 9 [o1 46 (fa 27 10 0 0), o1 47 (lo 3 46), o1 48 (fa 27 10 1 1), o1 49 (lo 3 48), o1 50 (.build 40 [vci 0, vci 0] [(0, 1), (1, 1)] 0 [(0, (tm 47)), (1, (tm 49))]), o1 12 (.alloc 0 40 [vci 0, vci 0]), o0 (.store 40 2 (tm 12) (tm 50))] 1 none) []
    (.seq (.seq (.region 10 [o1 51 (fa 27 10 0 0), o1 52 (lo 3 51), o1 53 (fa 27 11 0 0), o1 54 (lo 3 53), o1 55 (bt .neq 3 52 54), mv 56 55, og 57 (fa 27 10 1 1) 56 false, og 58 (lo 3 57) 56 false, og 59 (fa 27 11 1 1) 56 false, og 60 (lo 3 59) 56 false, og 61 (bt .neq 3 58 60) 56 false, o1 62 (pa 56 61), mv 63 62, og 64 (fa 27 10 2 2) 63 false, og 65 (lo 3 64) 63 false, og 66 (fa 27 11 2 2) 63 false, og 67 (lo 3 66) 63 false, og 68 (.mm false [(tm 65), (tm 67)] [3, 3]) 63 false, og 69 (bk .gtr 3 68 0) 63 false, o1 70 (pa 63 69), mv 71 70, og 72 (fa 27 10 2 2) 71 false, og 73 (lo 3 72) 71 false, og 74 (fa 27 11 2 2) 71 false, og 75 (lo 3 74) 71 false, og 76 (.mm true [(tm 73), (tm 75)] [3, 3]) 71 false, og 77 (bk .lss 3 76 0) 71 false, o1 78 (pa 71 77), mv 79 78, og 80 (ln 31 18 3) 79 false, og 81 (cf 35 [80] [31]) 79 false, og 82 (ln 40 2 12) 79 false, og 83 (cs 34 [81, 82] [25, 40]) 79 false, og 84 (bk .lss 3 83 0) 79 false, o1 85 (pa 79 84)] 0 (some [[], [0], [], [2], (rl 0 4 []), (rl 0 5 []), (rl 0 6 []), (rl 0 7 []), (rl 0 6 []), (rl 0 6 [8]), (rl 0 10 []), (rl 0 11 []), (rl 0 12 []), (rl 0 13 []), (rl 0 14 []), (rl 0 13 []), (rl 0 13 [15]), (rl 0 17 []), (rl 0 18 []), (rl 0 19 []), (rl 0 20 []), (rl 0 21 []), (rl 0 22 []), (rl 0 21 []), (rl 0 21 [23]), (rl 0 25 []), (rl 0 26 []), (rl 0 27 []), (rl 0 28 []), (rl 0 29 []), (rl 0 30 []), (rl 0 29 []), (rl 0 32 []), (rl 0 33 []), (rl 0 34 [])])) []
    (.cond (tm 85)
    (.exit 1 (0 :: 4 :: 5 :: 6 :: (rl 10 103 [])))
    .skip)) (rl 51 35 [])
    A13v4)))) (rl 10 5 (rl 33 79 []))
  A13v5)
def A13v7 : AC := (.seq (.seq (.region 6 [mv 27 9, mv 28 1, o1 29 (.len 32 false (tm 28)), o1 30 (bt .lss 3 27 29)] 0 none) []
  (.cond (tm 30)
  .skip
  (.exit 0 (rl 0 7 (rl 8 105 []))))) (rl 27 4 [])
  A13v6)
def A13v8 : AC := (.seq (.region 18 [mv 112 7, o1 6 (sg 112)] 0 none) []
  (.ret (rl 0 6 (rl 7 106 []))))
def A13v9 : AC := (.seq (.region 3 [o1 7 (.assign (.const (.slice none 0 0)))] 0 none) []
  (.seq (.region 4 [o1 24 (fa 31 3 11 14), o1 25 (ln 29 4 24), o1 26 (cs 32 [25] [29]), o1 8 (.alloc 0 29 [vci 0, vci 0, vci 0, vci 0]), o0 (.store 29 4 (tm 8) (tm 26))] 1 none) []
  (.seq (.seq (.region 5 [o1 9 (sk 1)] 0 none) []
  (.block 0
  (.loop [.slot 7 (.pr .str kV)] (0 :: 4 :: 5 :: 6 :: (rl 10 103 []))
    A13v7))) (rl 9 6 (rl 27 85 []))
  A13v8)))
def A13 : AF := ⟨113, [.tmp 6],
  (.seq (.region 0 [o1 3 (bx 0 31 0), o1 6 (.assign (.const (.slice none 0 0)))] 1 none) []
  (.seq (.seq (.region 1 [o1 15 (ln 31 18 3), o1 16 (cs 30 [15] [31]), o1 17 (.unOp .not 4 (tm 16)), mv 18 17, og 19 (.move (tm 1)) 18 false, og 20 (.move (tm 2)) 18 false, og 21 (cs 31 [19, 20] [32, 3]) 18 false, og 22 (.unOp .not 4 (tm 21)) 18 false, o1 23 (pa 18 22)] 0 none) []
  (.cond (tm 23)
  (.seq (.region 2 [o1 6 (.assign (.const (.slice none 0 0)))] 0 none) []
    (.ret (rl 0 6 (rl 7 106 []))))
  .skip)) (6 :: (rl 15 9 []))
  A13v9))⟩
def B149v2 (C : Oracle) (fuel : Nat) {ρ : Type} : St → (Ex → St → Option ρ) → Option ρ := fun st k => evalC C fuel A13v2 st k
def N149v2 : St → Option St := fun s => s.norm (0 :: 4 :: 5 :: 6 :: 10 :: 11 :: (rl 15 98 [])) 6
def s149v0 (x70 : Nat) (x71 : FF) (x72 : Int) (x73 : Nat) (x74 : Int) (x75 : Bool) (x76 : Int) (x77 : Nat → CV) (x78 x79 x80 x81 : Int) (x82 : FF) (x83 x84 x85 x86 x87 x88 : Int) : St := ⟨(.u :: .x (.c (.ro false kV x70 x71)) :: vxi x72 :: .x (.ptr 0 0) :: (us 3 (.x (.own 2 0 x73) :: .x (.ptr 1 0) :: vxi x74 :: .u :: .u :: .x (.ptr 5 0) :: vxb x75 :: vxi x76 :: (us 98 [])))), [.box (pjc kR0 x77), .box [(vci x78), (vci x79), (vci x80), (vci x81)], .arr (.pr .str kV) x73 x82, .box [(vci x83), (vci x84), (vci x85)], .box [(vci x86), (vci x87), (vci x88)], .box [(vci x83), (vci x84)]]⟩
def s149v1 (x70 : Nat) (x71 : FF) (x72 : Int) (x73 : Nat) (x74 : Int) (x89 : Bool) (x77 : Nat → CV) (x78 x79 x80 x81 : Int) (x82 : FF) (x83 x84 x85 x86 x87 x88 : Int) : St := ⟨(.u :: .x (.c (.ro false kV x70 x71)) :: vxi x72 :: .x (.ptr 0 0) :: (us 3 (.x (.own 2 0 x73) :: .x (.ptr 1 0) :: vxi x74 :: .u :: .u :: .x (.ptr 5 0) :: vxb x89 :: (us 99 [])))), [.box (pjc kR0 x77), .box [(vci x78), (vci x79), (vci x80), (vci x81)], .arr (.pr .str kV) x73 x82, .box [(vci x83), (vci x84), (vci x85)], .box [(vci x86), (vci x87), (vci x88)], .box [(vci x83), (vci x84)]]⟩
def L149v2 {ρ : Type} (fuel : Nat) (x70 : Nat) (x71 : FF) (x72 : Int) (x73 : Nat) (x74 : Int) (x77 : Nat → CV) (x78 x79 x80 x81 : Int) (x82 : FF) (x83 x84 x85 x86 x87 x88 : Int) : Nat → Bool → Int → (Bool → Option ρ) → Option ρ
  | 0, _, _, _ => none
  | m + 1, x75, x76, k0 =>
    (bif (decide (x76 < (Int.ofNat x73))) then (bif (x75 == false) then (bif (inb x76 x73) then (L149v2 fuel x70 x71 x72 x73 x74 x77 x78 x79 x80 x81 x82 x83 x84 x85 x86 x87 x88 m (((CV.int (x82 (0 + (Int.toNat x76)) 1)) == x83) && (((CV.int (x82 (0 + (Int.toNat x76)) 2)) == x84) && true)) (w64 (x76 + 1)) k0) else none) else (L149v2 fuel x70 x71 x72 x73 x74 x77 x78 x79 x80 x81 x82 x83 x84 x85 x86 x87 x88 m true (w64 (x76 + 1)) k0)) else (k0 x75))
theorem nl149v2 {ρ σ : Type} (fuel : Nat) (x70 : Nat) (x71 : FF) (x72 : Int) (x73 : Nat) (x74 : Int) (x77 : Nat → CV) (x78 x79 x80 x81 : Int) (x82 : FF) (x83 x84 x85 x86 x87 x88 : Int) (g : ρ → Option σ) : ∀ (m : Nat) (x75 : Bool) (x76 : Int) (k0 : Bool → Option ρ), ob (L149v2 fuel x70 x71 x72 x73 x74 x77 x78 x79 x80 x81 x82 x83 x84 x85 x86 x87 x88 m x75 x76 k0) g = L149v2 fuel x70 x71 x72 x73 x74 x77 x78 x79 x80 x81 x82 x83 x84 x85 x86 x87 x88 m x75 x76 (fun x89 => ob (k0 x89) g)
  | 0, _, _, _ => rfl
  | m + 1, x75, x76, k0 => by
    simp only [L149v2, ob_bif, ob_ob, ob_none, nl149v2 fuel x70 x71 x72 x73 x74 x77 x78 x79 x80 x81 x82 x83 x84 x85 x86 x87 x88 g m]
theorem r149v2 (fuel : Nat) (m : Nat) {ρ : Type} (k : Ex → St → Option ρ) (x70 : Nat) (x71 : FF) (x72 : Int) (x73 : Nat) (x74 : Int) (x77 : Nat → CV) (x78 x79 x80 x81 : Int) (x82 : FF) (x83 x84 x85 x86 x87 x88 : Int) (x75 : Bool) (x76 : Int) :
    loopH (B149v2 (C93 fuel) fuel) N149v2 (m + 1) (s149v0 x70 x71 x72 x73 x74 x75 x76 x77 x78 x79 x80 x81 x82 x83 x84 x85 x86 x87 x88) k =
    (bif (decide (x76 < (Int.ofNat x73))) then (bif (x75 == false) then (bif (inb x76 x73) then (loopH (B149v2 (C93 fuel) fuel) N149v2 m (s149v0 x70 x71 x72 x73 x74 (((CV.int (x82 (0 + (Int.toNat x76)) 1)) == x83) && (((CV.int (x82 (0 + (Int.toNat x76)) 2)) == x84) && true)) (w64 (x76 + 1)) x77 x78 x79 x80 x81 x82 x83 x84 x85 x86 x87 x88) k) else none) else (loopH (B149v2 (C93 fuel) fuel) N149v2 m (s149v0 x70 x71 x72 x73 x74 true (w64 (x76 + 1)) x77 x78 x79 x80 x81 x82 x83 x84 x85 x86 x87 x88) k)) else (k (.exit 2) (s149v1 x70 x71 x72 x73 x74 x75 x77 x78 x79 x80 x81 x82 x83 x84 x85 x86 x87 x88))) := by kernel_rfl
theorem q149v2 (fuel : Nat) (x70 : Nat) (x71 : FF) (x72 : Int) (x73 : Nat) (x74 : Int) (x77 : Nat → CV) (x78 x79 x80 x81 : Int) (x82 : FF) (x83 x84 x85 x86 x87 x88 : Int) {ρ : Type} (k : Ex → St → Option ρ) : ∀ (m : Nat) (x75 : Bool) (x76 : Int),
    loopH (B149v2 (C93 fuel) fuel) N149v2 m (s149v0 x70 x71 x72 x73 x74 x75 x76 x77 x78 x79 x80 x81 x82 x83 x84 x85 x86 x87 x88) k = L149v2 fuel x70 x71 x72 x73 x74 x77 x78 x79 x80 x81 x82 x83 x84 x85 x86 x87 x88 m x75 x76 (fun x89 => k (.exit 2) (s149v1 x70 x71 x72 x73 x74 x89 x77 x78 x79 x80 x81 x82 x83 x84 x85 x86 x87 x88))
  | 0, _, _ => rfl
  | m + 1, x75, x76 => by
    rw [r149v2]
    simp only [L149v2, q149v2 fuel x70 x71 x72 x73 x74 x77 x78 x79 x80 x81 x82 x83 x84 x85 x86 x87 x88 k m]
def B149v3 (C : Oracle) (fuel : Nat) {ρ : Type} : St → (Ex → St → Option ρ) → Option ρ := fun st k => evalC C fuel A13v7 st k
def N149v3 : St → Option St := fun s => s.norm (0 :: 4 :: 5 :: 6 :: (rl 10 103 [])) 3
def s149v2 (x38 : Nat) (x39 : FF) (x40 : Int) (x41 : Nat) (x42 : Int) (x43 : Nat → CV) (x44 x45 x46 x47 : Int) (x48 : FF) : St := ⟨(.u :: .x (.c (.ro false kV x38 x39)) :: vxi x40 :: .x (.ptr 0 0) :: (us 3 (.x (.own 2 0 x41) :: .x (.ptr 1 0) :: vxi x42 :: (us 103 [])))), [.box (pjc kR0 x43), .box [(vci x44), (vci x45), (vci x46), (vci x47)], .arr (.pr .str kV) x41 x48]⟩
def s149v3 (x91 : Nat) (x43 : Nat → CV) (x44 x45 x46 x47 : Int) (x92 : FF) : St := ⟨(us 7 (.x (.own 2 0 x91) :: (us 105 []))), [.box (pjc kR0 x43), .box [(vci x44), (vci x45), (vci x46), (vci x47)], .arr (.pr .str kV) x91 x92]⟩
def L149v3 {ρ : Type} (fuel : Nat) (x38 : Nat) (x39 : FF) (x40 : Int) (x43 : Nat → CV) (x44 x45 x46 x47 : Int) : Nat → Nat → Int → FF → (Nat → FF → Option ρ) → Option ρ
  | 0, _, _, _, _ => none
  | m + 1, x41, x42, x48, k0 =>
    (bif (decide (x42 < (Int.ofNat x38))) then (bif (inb (w64 (x42 - 1)) x38) then (ob (F148 fuel x44 x45 x46 x47 (CV.int (x39 (Int.toNat (w64 (x42 - 1))) 0)) (CV.int (x39 (Int.toNat (w64 (x42 - 1))) 1)) (CV.int (x39 (Int.toNat (w64 (x42 - 1))) 2))) fun x49 => (bif (inb x42 x38) then (ob (F148 fuel x44 x45 x46 x47 (CV.int (x39 (Int.toNat x42) 0)) (CV.int (x39 (Int.toNat x42) 1)) (CV.int (x39 (Int.toNat x42) 2))) fun x50 => (bif ((x49.1 != x50.1) == false) then (bif ((x49.2.1 != x50.2.1) == false) then (bif ((decide ((if x50.2.2 < x49.2.2 then x50.2.2 else x49.2.2) > 0)) == false) then (bif ((decide ((if x50.2.2 > x49.2.2 then x50.2.2 else x49.2.2) < 0)) == false) then (ob (F134 fuel (listF (pj kR0 x43))) fun x51 => (ob (F23 fuel x51.1 x51.2.1 x51.2.2.1 x51.2.2.2 x49.1 x49.2.1) fun x52 => (bif (decide (x52 < 0)) then (L149v3 fuel x38 x39 x40 x43 x44 x45 x46 x47 m x41 (w64 (x42 + 1)) x48 k0) else (L149v2 fuel x38 x39 x40 x41 x42 x43 x44 x45 x46 x47 x48 x49.1 x49.2.1 x49.2.2 x50.1 x50.2.1 x50.2.2 fuel false 0
    (fun x90 => (bif (!x90) then (bif (Nat.ble (x41 + 1) 1073741824) then (L149v3 fuel x38 x39 x40 x43 x44 x45 x46 x47 m (x41 + 1) (w64 (x42 + 1)) (joinF x41 x48 (rowsF 4 [(.s (CV.str (x43 0))), (.i .i64 x49.1), (.i .i64 x49.2.1), (.i .i64 x40)])) k0) else none) else (L149v3 fuel x38 x39 x40 x43 x44 x45 x46 x47 m x41 (w64 (x42 + 1)) x48 k0))))))) else (L149v3 fuel x38 x39 x40 x43 x44 x45 x46 x47 m x41 (w64 (x42 + 1)) x48 k0)) else (L149v3 fuel x38 x39 x40 x43 x44 x45 x46 x47 m x41 (w64 (x42 + 1)) x48 k0)) else (L149v3 fuel x38 x39 x40 x43 x44 x45 x46 x47 m x41 (w64 (x42 + 1)) x48 k0)) else (L149v3 fuel x38 x39 x40 x43 x44 x45 x46 x47 m x41 (w64 (x42 + 1)) x48 k0))) else none)) else none) else (k0 x41 x48))
theorem nl149v3 {ρ σ : Type} (fuel : Nat) (x38 : Nat) (x39 : FF) (x40 : Int) (x43 : Nat → CV) (x44 x45 x46 x47 : Int) (g : ρ → Option σ) : ∀ (m : Nat) (x41 : Nat) (x42 : Int) (x48 : FF) (k0 : Nat → FF → Option ρ), ob (L149v3 fuel x38 x39 x40 x43 x44 x45 x46 x47 m x41 x42 x48 k0) g = L149v3 fuel x38 x39 x40 x43 x44 x45 x46 x47 m x41 x42 x48 (fun x91 x92 => ob (k0 x91 x92) g)
  | 0, _, _, _, _ => rfl
  | m + 1, x41, x42, x48, k0 => by
    simp only [L149v3, ob_bif, ob_ob, ob_none, nl149v3 fuel x38 x39 x40 x43 x44 x45 x46 x47 g m, nl149v2]
def s149v4 (x38 : Nat) (x39 : FF) (x40 : Int) (x41 : Nat) (x42 x44 x45 x46 x47 : Int) (x49 x50 : Int × Int × Int) (x43 : Nat → CV) (x48 : FF) : St := ⟨(.u :: .x (.c (.ro false kV x38 x39)) :: vxi x40 :: .x (.ptr 0 0) :: (us 3 (.x (.own 2 0 x41) :: .x (.ptr 1 0) :: vxi x42 :: .x (.ptr 3 0) :: .x (.ptr 4 0) :: .x (.ptr 5 0) :: vxb false :: vxi 0 :: (us 18 (.agg [(vci x44), (vci x45), (vci x46), (vci x47)] :: .x (.c (.ro false kV x38 x39)) :: vxi x42 :: vxi (w64 (x42 - 1)) :: .x (.c (.rp kV (x39 (Int.toNat (w64 (x42 - 1)))))) :: .agg [(vci (CV.int (x39 (Int.toNat (w64 (x42 - 1))) 0))), (vci (CV.int (x39 (Int.toNat (w64 (x42 - 1))) 1))), (vci (CV.int (x39 (Int.toNat (w64 (x42 - 1))) 2)))] :: .agg [(vci x49.1), (vci x49.2.1), (vci x49.2.2)] :: .agg [(vci x44), (vci x45), (vci x46), (vci x47)] :: .x (.c (.ro false kV x38 x39)) :: vxi x42 :: .x (.c (.rp kV (x39 (Int.toNat x42)))) :: .agg [(vci (CV.int (x39 (Int.toNat x42) 0))), (vci (CV.int (x39 (Int.toNat x42) 1))), (vci (CV.int (x39 (Int.toNat x42) 2)))] :: .agg [(vci x50.1), (vci x50.2.1), (vci x50.2.2)] :: .x (.ptr 3 0) :: vxi x49.1 :: .x (.ptr 3 1) :: vxi x49.2.1 :: .agg [(vci x49.1), (vci x49.2.1)] :: (us 62 [])))))), [.box (pjc kR0 x43), .box [(vci x44), (vci x45), (vci x46), (vci x47)], .arr (.pr .str kV) x41 x48, .box [(vci x49.1), (vci x49.2.1), (vci x49.2.2)], .box [(vci x50.1), (vci x50.2.1), (vci x50.2.2)], .box [(vci x49.1), (vci x49.2.1)]]⟩
theorem r149v3 (fuel : Nat) (m : Nat) {ρ : Type} (k : Ex → St → Option ρ) (x38 : Nat) (x39 : FF) (x40 : Int) (x43 : Nat → CV) (x44 x45 x46 x47 : Int) (x41 : Nat) (x42 : Int) (x48 : FF) :
    loopH (B149v3 (C93 fuel) fuel) N149v3 (m + 1) (s149v2 x38 x39 x40 x41 x42 x43 x44 x45 x46 x47 x48) k =
    (bif (decide (x42 < (Int.ofNat x38))) then (bif (inb (w64 (x42 - 1)) x38) then (ob (F148 fuel x44 x45 x46 x47 (CV.int (x39 (Int.toNat (w64 (x42 - 1))) 0)) (CV.int (x39 (Int.toNat (w64 (x42 - 1))) 1)) (CV.int (x39 (Int.toNat (w64 (x42 - 1))) 2))) fun x49 => (bif (inb x42 x38) then (ob (F148 fuel x44 x45 x46 x47 (CV.int (x39 (Int.toNat x42) 0)) (CV.int (x39 (Int.toNat x42) 1)) (CV.int (x39 (Int.toNat x42) 2))) fun x50 => (bif ((x49.1 != x50.1) == false) then (bif ((x49.2.1 != x50.2.1) == false) then (bif ((decide ((if x50.2.2 < x49.2.2 then x50.2.2 else x49.2.2) > 0)) == false) then (bif ((decide ((if x50.2.2 > x49.2.2 then x50.2.2 else x49.2.2) < 0)) == false) then (ob (F134 fuel (listF (pj kR0 x43))) fun x51 => (ob (F23 fuel x51.1 x51.2.1 x51.2.2.1 x51.2.2.2 x49.1 x49.2.1) fun x52 => (bif (decide (x52 < 0)) then (loopH (B149v3 (C93 fuel) fuel) N149v3 m (s149v2 x38 x39 x40 x41 (w64 (x42 + 1)) x43 x44 x45 x46 x47 x48) k) else (loopN (B149v2 (C93 fuel) fuel) N149v2 fuel (s149v4 x38 x39 x40 x41 x42 x44 x45 x46 x47 x49 x50 x43 x48) (kBlk 2 (kSeq (C93 fuel) fuel (14 :: (rl 86 16 [])) A13v3 (kBlk 1 (kSeq (C93 fuel) fuel (rl 10 5 (rl 33 79 [])) A13v5 (kLoop (B149v3 (C93 fuel) fuel) N149v3 m k))))))))) else (loopH (B149v3 (C93 fuel) fuel) N149v3 m (s149v2 x38 x39 x40 x41 (w64 (x42 + 1)) x43 x44 x45 x46 x47 x48) k)) else (loopH (B149v3 (C93 fuel) fuel) N149v3 m (s149v2 x38 x39 x40 x41 (w64 (x42 + 1)) x43 x44 x45 x46 x47 x48) k)) else (loopH (B149v3 (C93 fuel) fuel) N149v3 m (s149v2 x38 x39 x40 x41 (w64 (x42 + 1)) x43 x44 x45 x46 x47 x48) k)) else (loopH (B149v3 (C93 fuel) fuel) N149v3 m (s149v2 x38 x39 x40 x41 (w64 (x42 + 1)) x43 x44 x45 x46 x47 x48) k))) else none)) else none) else (k (.exit 0) (s149v3 x41 x43 x44 x45 x46 x47 x48))) := by kernel_rfl
theorem t149v1 (fuel : Nat) {ρ : Type} (k : Ex → St → Option ρ) (x38 : Nat) (x39 : FF) (x40 : Int) (x41 : Nat) (x42 x44 x45 x46 x47 : Int) (x49 x50 : Int × Int × Int) (x43 : Nat → CV) (x48 : FF) :
    loopN (B149v2 (C93 fuel) fuel) N149v2 fuel (s149v4 x38 x39 x40 x41 x42 x44 x45 x46 x47 x49 x50 x43 x48) k =
    L149v2 fuel x38 x39 x40 x41 x42 x43 x44 x45 x46 x47 x48 x49.1 x49.2.1 x49.2.2 x50.1 x50.2.1 x50.2.2 fuel false 0 (fun x89 => k (.exit 2) (s149v1 x38 x39 x40 x41 x42 x89 x43 x44 x45 x46 x47 x48 x49.1 x49.2.1 x49.2.2 x50.1 x50.2.1 x50.2.2)) :=
  (loopN_at (st' := (s149v0 x38 x39 x40 x41 x42 false 0 x43 x44 x45 x46 x47 x48 x49.1 x49.2.1 x49.2.2 x50.1 x50.2.1 x50.2.2)) (by kernel_rfl)).trans (q149v2 fuel x38 x39 x40 x41 x42 x43 x44 x45 x46 x47 x48 x49.1 x49.2.1 x49.2.2 x50.1 x50.2.1 x50.2.2 k fuel false 0)
theorem g149v2 (fuel : Nat) (m : Nat) {ρ : Type} (k : Ex → St → Option ρ) (x38 : Nat) (x39 : FF) (x40 : Int) (x41 : Nat) (x42 : Int) (x90 : Bool) (x43 : Nat → CV) (x44 x45 x46 x47 : Int) (x48 : FF) (x49 x50 : Int × Int × Int) :
    (kBlk 2 (kSeq (C93 fuel) fuel (14 :: (rl 86 16 [])) A13v3 (kBlk 1 (kSeq (C93 fuel) fuel (rl 10 5 (rl 33 79 [])) A13v5 (kLoop (B149v3 (C93 fuel) fuel) N149v3 m k))))) (.exit 2) (s149v1 x38 x39 x40 x41 x42 x90 x43 x44 x45 x46 x47 x48 x49.1 x49.2.1 x49.2.2 x50.1 x50.2.1 x50.2.2) =
    (bif (!x90) then (bif (Nat.ble (x41 + 1) 1073741824) then (loopH (B149v3 (C93 fuel) fuel) N149v3 m (s149v2 x38 x39 x40 (x41 + 1) (w64 (x42 + 1)) x43 x44 x45 x46 x47 (joinF x41 x48 (rowsF 4 [(.s (CV.str (x43 0))), (vi x49.1), (vi x49.2.1), (vi x40)]))) k) else none) else (loopH (B149v3 (C93 fuel) fuel) N149v3 m (s149v2 x38 x39 x40 x41 (w64 (x42 + 1)) x43 x44 x45 x46 x47 x48) k)) := by kernel_rfl
theorem q149v3 (fuel : Nat) (x38 : Nat) (x39 : FF) (x40 : Int) (x43 : Nat → CV) (x44 x45 x46 x47 : Int) {ρ : Type} (k : Ex → St → Option ρ) : ∀ (m : Nat) (x41 : Nat) (x42 : Int) (x48 : FF),
    loopH (B149v3 (C93 fuel) fuel) N149v3 m (s149v2 x38 x39 x40 x41 x42 x43 x44 x45 x46 x47 x48) k = L149v3 fuel x38 x39 x40 x43 x44 x45 x46 x47 m x41 x42 x48 (fun x91 x92 => k (.exit 0) (s149v3 x91 x43 x44 x45 x46 x47 x92))
  | 0, _, _, _ => rfl
  | m + 1, x41, x42, x48 => by
    rw [r149v3]
    simp only [L149v3, q149v3 fuel x38 x39 x40 x43 x44 x45 x46 x47 k m, t149v1, g149v2]
def D149 {ρ : Type} (fuel : Nat) (x1 : Nat → CV) (x2 : Nat) (x3 : FF) (x4 : Int) (k : (Bool × Nat × FF) → Option ρ) : Option ρ :=
  (ob (F135 fuel (listF (pj kR0 x1))) fun x5 => (bif ((!x5) == false) then (ob (F139 fuel x2 x3 x4) fun x6 => (bif (!x6) then (k (true, 0, (fun _ _ => .any))) else (ob (F146 fuel (CV.int (x1 14)) (CV.int (x1 15)) (CV.int (x1 16)) (CV.int (x1 17))) fun x7 => (L149v3 fuel x2 x3 x4 x1 x7.1 x7.2.1 x7.2.2.1 x7.2.2.2 fuel 0 1 (fun _ _ => .any)
    (fun x93 x94 => (k (false, x93, x94))))))) else (k (true, 0, (fun _ _ => .any)))))
def FT149 (fuel : Nat) (x1 : Nat → CV) (x2 : Nat) (x3 : FF) (x4 : Int) : Option (Bool × Nat × FF) := D149 fuel x1 x2 x3 x4 some
theorem f149 {ρ : Type} (fuel : Nat) (x1 : Nat → CV) (x2 : Nat) (x3 : FF) (x4 : Int) (k : (Bool × Nat × FF) → Option ρ) : D149 fuel x1 x2 x3 x4 k = ob (FT149 fuel x1 x2 x3 x4) k := by
  simp only [FT149, D149, ob_bif, ob_ob, ob_none, ob_some, nl149v3]
def s149v5 (x1 : Nat → CV) (x2 : Nat) (x3 : FF) (x4 : Int) (x7 : Int × Int × Int × Int) : St := ⟨(.agg (pjc kR0 x1) :: .x (.c (.ro false kV x2 x3)) :: vxi x4 :: .x (.ptr 0 0) :: .undef :: .undef :: .u :: .x (.own 2 0 0) :: .x (.ptr 1 0) :: vxi 1 :: .undef :: .undef :: .undef :: .undef :: .undef :: (us 9 [.x (.ptr 0 14), .agg [(vci (CV.int (x1 14))), (vci (CV.int (x1 15))), (vci (CV.int (x1 16))), (vci (CV.int (x1 17)))], .agg [(vci x7.1), (vci x7.2.1), (vci x7.2.2.1), (vci x7.2.2.2)], .undef, .undef, .undef, .undef, .undef, .undef, .undef, .undef, .undef, .undef, .undef, .undef, .undef, .undef, .undef, .undef, .undef, .undef, .undef, .undef, .undef, .undef, .undef, .undef, .undef, .undef, .undef, .undef, .undef, .undef, .undef, .undef, .undef, .undef, .undef, .undef, .undef, .undef, .undef, .undef, .undef, .undef, .undef, .undef, .undef, .undef, .undef, .undef, .undef, .undef, .undef, .undef, .undef, .undef, .undef, .undef, .undef, .undef, .undef, .undef, .undef, .undef, .undef, .undef, .undef, .undef, .undef, .undef, .undef, .undef, .undef, .undef, .undef, .undef, .undef, .undef, .undef, .undef, .undef, .undef, .undef, .undef, .undef, .undef, .undef, .undef])), [.box (pjc kR0 x1), .box [(vci x7.1), (vci x7.2.1), (vci x7.2.2.1), (vci x7.2.2.2)], .arr (.pr .str kV) 0 nilF]⟩
theorem walk149 (fuel : Nat) (x1 : Nat → CV) (x2 : Nat) (x3 : FF) (x4 : Int) :
    evalF (C93 fuel) fuel A13 [.agg (pj kR0 x1), .v (.ro false kV x2 x3), .v (vi x4)] =
    (ob (F135 fuel (listF (pj kR0 x1))) fun x5 => (bif ((!x5) == false) then (ob (F139 fuel x2 x3 x4) fun x6 => (bif (!x6) then (some [.v (.ro true .nil 0 nilF)]) else (ob (F146 fuel (CV.int (x1 14)) (CV.int (x1 15)) (CV.int (x1 16)) (CV.int (x1 17))) fun x7 => (loopN (B149v3 (C93 fuel) fuel) N149v3 fuel (s149v5 x1 x2 x3 x4 x7) (kBlk 0 (kSeq (C93 fuel) fuel (rl 9 6 (rl 27 85 [])) A13v8 (finish A13))))))) else (some [.v (.ro true .nil 0 nilF)]))) := by kernel_rfl
theorem t149v3 (fuel : Nat) {ρ : Type} (k : Ex → St → Option ρ) (x1 : Nat → CV) (x2 : Nat) (x3 : FF) (x4 : Int) (x7 : Int × Int × Int × Int) :
    loopN (B149v3 (C93 fuel) fuel) N149v3 fuel (s149v5 x1 x2 x3 x4 x7) k =
    L149v3 fuel x2 x3 x4 x1 x7.1 x7.2.1 x7.2.2.1 x7.2.2.2 fuel 0 1 nilF (fun x91 x92 => k (.exit 0) (s149v3 x91 x1 x7.1 x7.2.1 x7.2.2.1 x7.2.2.2 x92)) :=
  (loopN_at (st' := (s149v2 x2 x3 x4 0 1 x1 x7.1 x7.2.1 x7.2.2.1 x7.2.2.2 nilF)) (by kernel_rfl)).trans (q149v3 fuel x2 x3 x4 x1 x7.1 x7.2.1 x7.2.2.1 x7.2.2.2 k fuel 0 1 nilF)
theorem g149v4 (fuel : Nat) (x93 : Nat) (x1 : Nat → CV) (x7 : Int × Int × Int × Int) (x94 : FF) :
    (kBlk 0 (kSeq (C93 fuel) fuel (rl 9 6 (rl 27 85 [])) A13v8 (finish A13))) (.exit 0) (s149v3 x93 x1 x7.1 x7.2.1 x7.2.2.1 x7.2.2.2 x94) =
    (some [.v (.ro false (.pr .str kV) x93 x94)]) := by kernel_rfl
theorem e149 (fuel : Nat) (x1 : Nat → CV) (x2 : Nat) (x3 : FF) (x4 : Int) : evalF (C93 fuel) fuel A13 [.agg (pj kR0 x1), .v (.ro false kV x2 x3), .v (vi x4)] = ob (FT149 fuel x1 x2 x3 x4) fun t => some (bif t.1 then [.v (.ro true .nil 0 nilF)] else [.v (.ro false (.pr .str kV) t.2.1 t.2.2)]) := by
  rw [walk149, ← f149]
  simp only [D149, t149v3, g149v4, cond_true, cond_false]
def F149 (fuel : Nat) (x1 : Nat → CV) (x2 : Nat) (x3 : FF) (x4 : Int) : Option (Nat × FF) := ob (FT149 fuel x1 x2 x3 x4) fun t => some (bif t.1 then (0, (fun _ _ => .any)) else (t.2.1, t.2.2))
def O149 (fuel : Nat) : Ora where
  o := fun args {ρ} K =>
    wc args fun a1 l2 =>
    wrow kR0 a1 fun y3 =>
    wcL kV l2 fun y8 y9 l6 =>
    wcI .i64 l6 fun y13 l11 =>
    wn l11 <|
    (ob (F149 fuel y3 y8 y9 y13) fun t => K [.v (.ro false (.pr .str kV) t.1 t.2)])
  nat := fun args {ρ} K => by
    simp only [bind_wc, bind_wcI, bind_wcL, bind_wn, bind_wrow, bind_ob, Option.bind_some]
theorem d149 {P : Program} (fuel : Nat) (hmix : P.follows .mixedOrders = true) (hC : Sound P (C93 fuel)) (hF : FFits P 13 A13) (args res : List A) (h : (O149 fuel).o args some = some res) : Den P 13 args res := by
  obtain ⟨a1, l2, rfl, z0⟩ := inv_wc h
  obtain ⟨y3, h4, z1⟩ := inv_wrow z0
  obtain ⟨a5, y8, y9, l6, rfl, h7, z2⟩ := inv_wcL z1
  obtain ⟨a10, y13, l11, rfl, h12, z3⟩ := inv_wcI z2
  obtain ⟨hn, z4⟩ := inv_wn z3
  cases hn
  obtain ⟨u, hu, hr⟩ := ob_inv z4
  cases hr
  obtain ⟨t, ht, hv⟩ := ob_inv (show ob (FT149 fuel y3 y8 y9 y13) _ = some u from hu)
  cases hv
  refine Den.results ?_ (Den.weaken (.cons h4 (.cons h7 (.cons h12 .nil))) (evalF_sound hmix hC hF ((e149 fuel y3 y8 y9 y13).trans (by rw [ht]; rfl))))
  obtain ⟨b, t⟩ := t
  cases b with
  | true => exact (.cons (WkA.v (Wk.ro (by rfl))) .nil)
  | false =>
    exact (.cons (WkA.v (Wk.refl _)) .nil)
def C94 (fuel : Nat) : Oracle := (C93 fuel).add 13 (fun _ => true) (O149 fuel)
def A3v1 : AC := (.seq (.region 3 [o1 16 (ln 31 18 3), mv 17 1, mv 18 2, o1 19 (cf 12 [16, 17, 18] [31, 32, 3]), o1 20 (ln 31 18 3), mv 21 1, mv 22 2, o1 23 (cf 13 [20, 21, 22] [31, 32, 3]), o1 24 (cs 11 [19, 23] [36, 36]), mv 25 24, og 26 (cs 10 [] []) 25 true, o1 27 (po 25 26), o1 6 (sg 27)] 0 (some [[], [], [], [0, 1, 2], [], [], [], (rl 0 7 []), (rl 0 8 []), (rl 0 9 []), (rl 0 10 []), (rl 0 11 []), (rl 0 12 [])])) []
  (.ret (rl 0 6 (rl 7 21 []))))
def A3 : AF := ⟨28, [.tmp 6],
  (.seq (.region 0 [o1 3 (bx 0 31 0), o1 6 (sb false)] 1 none) []
  (.seq (.seq (.region 1 [o1 7 (ln 31 18 3), o1 8 (cs 9 [7] [31]), o1 9 (.unOp .not 4 (tm 8)), mv 10 9, og 11 (.move (tm 1)) 10 false, og 12 (.len 32 false (tm 11)) 10 false, og 13 (bk .gtr 3 12 40) 10 false, o1 14 (pa 10 13)] 0 none) []
  (.cond (tm 14)
  (.seq (.region 2 [o1 15 (cs 10 [] []), o1 6 (sg 15)] 0 none) []
    (.ret (rl 0 6 (rl 7 21 []))))
  .skip)) (rl 6 10 [])
  A3v1))⟩
def D150 {ρ : Type} (fuel : Nat) (x1 : Nat → CV) (x2 : Nat) (x3 : FF) (x4 : Int) (k : Bool → Option ρ) : Option ρ :=
  (ob (F100 fuel (listF (pj kR0 x1))) fun x5 => (bif ((!x5) == false) then (bif (decide ((Int.ofNat x2) > 40)) then (ob (F132 fuel) fun x6 => (k x6)) else (ob (F121 fuel (listF (pj kR0 x1)) x2 x3 x4) fun x11 => (ob (F149 fuel (listF (pj kR0 x1)) x2 x3 x4) fun x12 => (ob (F131 fuel x11.1 x11.2 x12.1 x12.2) fun x13 => (bif (x13 == true) then (ob (F132 fuel) fun x14 => (k x14)) else (k false)))))) else (ob (F132 fuel) fun x15 => (k x15))))
def F150 (fuel : Nat) (x1 : Nat → CV) (x2 : Nat) (x3 : FF) (x4 : Int) : Option (Bool) := D150 fuel x1 x2 x3 x4 some
theorem f150 {ρ : Type} (fuel : Nat) (x1 : Nat → CV) (x2 : Nat) (x3 : FF) (x4 : Int) (k : (Bool) → Option ρ) : D150 fuel x1 x2 x3 x4 k = ob (F150 fuel x1 x2 x3 x4) k := by
  simp only [F150, D150, ob_bif, ob_ob, ob_none, ob_some]
theorem walk150 (fuel : Nat) (x1 : Nat → CV) (x2 : Nat) (x3 : FF) (x4 : Int) :
    evalF (C94 fuel) fuel A3 [.agg (pj kR0 x1), .v (.ro false kV x2 x3), .v (vi x4)] =
    (ob (F100 fuel (listF (pj kR0 x1))) fun x5 => (bif ((!x5) == false) then (bif (decide ((Int.ofNat x2) > 40)) then (ob (F132 fuel) fun x6 => (some [.v (.b x6)])) else (ob (F121 fuel (listF (pj kR0 x1)) x2 x3 x4) fun x11 => (ob (F149 fuel (listF (pj kR0 x1)) x2 x3 x4) fun x12 => (ob (F131 fuel x11.1 x11.2 x12.1 x12.2) fun x13 => (bif (x13 == true) then (ob (F132 fuel) fun x14 => (some [.v (.b x14)])) else (some [.v (.b false)])))))) else (ob (F132 fuel) fun x15 => (some [.v (.b x15)])))) := by kernel_rfl
theorem e150 (fuel : Nat) (x1 : Nat → CV) (x2 : Nat) (x3 : FF) (x4 : Int) : evalF (C94 fuel) fuel A3 [.agg (pj kR0 x1), .v (.ro false kV x2 x3), .v (vi x4)] = ob (F150 fuel x1 x2 x3 x4) fun t => some [.v (.b t)] := by
  rw [walk150, ← f150]
  simp only [D150]
def O150 (fuel : Nat) : Ora where
  o := fun args {ρ} K =>
    wc args fun a1 l2 =>
    wrow kR0 a1 fun y3 =>
    wcL kV l2 fun y8 y9 l6 =>
    wcI .i64 l6 fun y13 l11 =>
    wn l11 <|
    (ob (F150 fuel y3 y8 y9 y13) fun t => K [.v (.b t)])
  nat := fun args {ρ} K => by
    simp only [bind_wc, bind_wcI, bind_wcL, bind_wn, bind_wrow, bind_ob, Option.bind_some]
theorem d150 {P : Program} (fuel : Nat) (hmix : P.follows .mixedOrders = true) (hC : Sound P (C94 fuel)) (hF : FFits P 3 A3) (args res : List A) (h : (O150 fuel).o args some = some res) : Den P 3 args res := by
  obtain ⟨a1, l2, rfl, z0⟩ := inv_wc h
  obtain ⟨y3, h4, z1⟩ := inv_wrow z0
  obtain ⟨a5, y8, y9, l6, rfl, h7, z2⟩ := inv_wcL z1
  obtain ⟨a10, y13, l11, rfl, h12, z3⟩ := inv_wcI z2
  obtain ⟨hn, z4⟩ := inv_wn z3
  cases hn
  exact Den.weaken (.cons h4 (.cons h7 (.cons h12 .nil))) (evalF_sound hmix hC hF ((e150 fuel y3 y8 y9 y13).trans z4))
/- Functions that the plain texts alone name. -/
end Go.Eng.R13
