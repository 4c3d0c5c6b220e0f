/-
  The functions of the program, run on symbols; printed by decomp.py.
-/
import Derived.Test.YtnpgipmbionmgaaDecT0
set_option linter.all false
set_option maxRecDepth 1000000
set_option maxHeartbeats 4000000
namespace Go.Eng.R13
open Go Go.RowKit Go.Eng
def D50b {ρ : Type} (fuel : Nat) (x1 : Nat) (x2 : Nat → Nat → CV) (x3 : Nat → CV) (k : Bool → Option ρ) : Option ρ :=
  (ob (F73b fuel x1 x2 x3) fun x4 => (k (decide (x4 ≥ 0))))

def F50b (fuel : Nat) (x1 : Nat) (x2 : Nat → Nat → CV) (x3 : Nat → CV) : Option (Bool) := D50b fuel x1 x2 x3 some

theorem n50b {ρ σ : Type} (fuel : Nat) (x1 : Nat) (x2 : Nat → Nat → CV) (x3 : Nat → CV) (k : (Bool) → Option ρ) (g : ρ → Option σ) : ob (D50b fuel x1 x2 x3 k) g = D50b fuel x1 x2 x3 fun t => ob (k t) g := by
  simp only [D50b, ob_bif, ob_ob, ob_none]

theorem f50b {ρ : Type} (fuel : Nat) (x1 : Nat) (x2 : Nat → Nat → CV) (x3 : Nat → CV) (k : (Bool) → Option ρ) : D50b fuel x1 x2 x3 k = ob (F50b fuel x1 x2 x3) k := by
  unfold F50b
  rw [n50b]
  simp only [ob_some]

theorem walk50b (fuel : Nat) (x1 : Nat) (x2 : Nat → Nat → CV) (x3 : Nat → CV) :
    evalF (C23 fuel) fuel A50 [.v (.ro false (.pr (.int .i64) (.pr (.int .i64) .nil)) x1 x2), .v (.fn 64 1 (listF [(.rp (.pr (.sl (.pr (.int .i64) (.pr (.int .i64) .nil))) .nil) x3)]))] =
    (ob (F73b fuel x1 x2 x3) fun x4 => (some [.v (.b (decide (x4 ≥ 0)))])) := by kernel_rfl

theorem e50b (fuel : Nat) (x1 : Nat) (x2 : Nat → Nat → CV) (x3 : Nat → CV) : evalF (C23 fuel) fuel A50 [.v (.ro false (.pr (.int .i64) (.pr (.int .i64) .nil)) x1 x2), .v (.fn 64 1 (listF [(.rp (.pr (.sl (.pr (.int .i64) (.pr (.int .i64) .nil))) .nil) x3)]))] = ob (F50b fuel x1 x2 x3) fun t => some [.v (.b t)] := by
  rw [walk50b, ← f50b]
  simp only [D50b]

def O50b (fuel : Nat) : Ora where
  o := fun args {ρ} K =>
    wc args fun a1 l2 =>
    wv a1 fun c3 =>
    wL (.pr (.int .i64) (.pr (.int .i64) .nil)) c3 fun y4 y5 =>
    wc l2 fun a7 l8 =>
    wv a7 fun c9 =>
    wFn 64 1 c9 fun y10 =>
    wP (.pr (.sl (.pr (.int .i64) (.pr (.int .i64) .nil))) .nil) (y10 0) fun y12 =>
    wn l8 <|
    (ob (F50b fuel y4 y5 y12) fun t => K [.v (.b t)])
  nat := fun args {ρ} K => by
    simp only [bind_wc, bind_wn, bind_wv, bind_wagg, bind_wI, bind_wB, bind_wS, bind_wL, bind_wP, bind_wFn, bind_ob, Option.bind_some]

theorem d50b {P : Program} (fuel : Nat) (hmix : P.follows .mixedOrders = true) (hC : Sound P (C23 fuel)) (hF : FFits P 50 A50) (args res : List A) (h : (O50b fuel).o args some = some res) : Den P 50 args res := by
  obtain ⟨a1, l2, rfl, z0⟩ := inv_wc h
  obtain ⟨c3, rfl, z1⟩ := inv_wv z0
  obtain ⟨y4, y5, h6, z2⟩ := inv_wL z1
  obtain ⟨a7, l8, rfl, z3⟩ := inv_wc z2
  obtain ⟨c9, rfl, z4⟩ := inv_wv z3
  obtain ⟨y10, h11, z5⟩ := inv_wFn z4
  obtain ⟨y12, h13, z6⟩ := inv_wP z5
  obtain ⟨hn, z7⟩ := inv_wn z6
  cases hn
  exact Den.weaken (.cons (WkA.v h6) (.cons (WkA.v (wk_fn1 h11 (wk_rp h13))) .nil)) (evalF_sound hmix hC hF ((e50b fuel y4 y5 y12).trans z7))

def C24 (fuel : Nat) : Oracle := (C23 fuel).add 50 (fun l => isFn 64 l 1) (O50b fuel)

/-- shipyard/region.within -/
def A35 : AF := ⟨15, [.tmp 4],
  (.seq (.region 0 [
  ⟨(some 3), .box 0 22 (.tmp 1), none⟩,
  ⟨(some 4), .assign (.const (.bool false)), none⟩] 1 none) []
  (.seq (.region 1 [
  ⟨(some 5), .move (.tmp 0), none⟩,
  ⟨(some 6), .load 22 none (.tmp 3), none⟩,
  ⟨(some 7), .call 58 [(.tmp 5), (.tmp 6), (.func 56)] [22, 22, 67] .snap, none⟩,
  ⟨(some 8), .unOp .not 4 (.tmp 7), none⟩,
  ⟨(some 9), .move (.tmp 8), none⟩,
  ⟨(some 10), .move (.tmp 0), (some (9, true))⟩,
  ⟨(some 11), .mkfn 64 [(.tmp 3)], (some (9, true))⟩,
  ⟨(some 12), .call 50 [(.tmp 10), (.tmp 11)] [22, 62] .snap, (some (9, true))⟩,
  ⟨(some 13), .unOp .not 4 (.tmp 12), (some (9, true))⟩,
  ⟨(some 14), .pick (.tmp 9) (.tmp 13) (.const (.bool false)), none⟩,
  ⟨(some 4), .assign (.tmp 14), none⟩] 0 none) []
  (.ret [0, 1, 2, 3, 5, 6, 7, 8, 9, 10, 11, 12, 13, 14])))⟩

def D35 {ρ : Type} (fuel : Nat) (x1 : Nat) (x2 : Nat → Nat → CV) (x3 : Nat) (x4 : Nat → Nat → CV) (k : Bool → Option ρ) : Option ρ :=
  (ob (F58 fuel x1 x2 x3 x4) fun x5 => (bif ((!x5) == true) then (ob (F50b fuel x1 x2 (listF [(.ro false (.pr (.int .i64) (.pr (.int .i64) .nil)) x3 x4)])) fun x6 => (k (!x6))) else (k false)))

def F35 (fuel : Nat) (x1 : Nat) (x2 : Nat → Nat → CV) (x3 : Nat) (x4 : Nat → Nat → CV) : Option (Bool) := D35 fuel x1 x2 x3 x4 some

theorem n35 {ρ σ : Type} (fuel : Nat) (x1 : Nat) (x2 : Nat → Nat → CV) (x3 : Nat) (x4 : Nat → Nat → CV) (k : (Bool) → Option ρ) (g : ρ → Option σ) : ob (D35 fuel x1 x2 x3 x4 k) g = D35 fuel x1 x2 x3 x4 fun t => ob (k t) g := by
  simp only [D35, ob_bif, ob_ob, ob_none]

theorem f35 {ρ : Type} (fuel : Nat) (x1 : Nat) (x2 : Nat → Nat → CV) (x3 : Nat) (x4 : Nat → Nat → CV) (k : (Bool) → Option ρ) : D35 fuel x1 x2 x3 x4 k = ob (F35 fuel x1 x2 x3 x4) k := by
  unfold F35
  rw [n35]
  simp only [ob_some]

theorem walk35 (fuel : Nat) (x1 : Nat) (x2 : Nat → Nat → CV) (x3 : Nat) (x4 : Nat → Nat → CV) :
    evalF (C24 fuel) fuel A35 [.v (.ro false (.pr (.int .i64) (.pr (.int .i64) .nil)) x1 x2), .v (.ro false (.pr (.int .i64) (.pr (.int .i64) .nil)) x3 x4)] =
    (ob (F58 fuel x1 x2 x3 x4) fun x5 => (bif ((!x5) == true) then (ob (F50b fuel x1 x2 (listF [(.ro false (.pr (.int .i64) (.pr (.int .i64) .nil)) x3 x4)])) fun x6 => (some [.v (.b (!x6))])) else (some [.v (.b false)]))) := by kernel_rfl

theorem e35 (fuel : Nat) (x1 : Nat) (x2 : Nat → Nat → CV) (x3 : Nat) (x4 : Nat → Nat → CV) : evalF (C24 fuel) fuel A35 [.v (.ro false (.pr (.int .i64) (.pr (.int .i64) .nil)) x1 x2), .v (.ro false (.pr (.int .i64) (.pr (.int .i64) .nil)) x3 x4)] = ob (F35 fuel x1 x2 x3 x4) fun t => some [.v (.b t)] := by
  rw [walk35, ← f35]
  simp only [D35]

def O35 (fuel : Nat) : Ora where
  o := fun args {ρ} K =>
    wc args fun a1 l2 =>
    wv a1 fun c3 =>
    wL (.pr (.int .i64) (.pr (.int .i64) .nil)) c3 fun y4 y5 =>
    wc l2 fun a7 l8 =>
    wv a7 fun c9 =>
    wL (.pr (.int .i64) (.pr (.int .i64) .nil)) c9 fun y10 y11 =>
    wn l8 <|
    (ob (F35 fuel y4 y5 y10 y11) fun t => K [.v (.b t)])
  nat := fun args {ρ} K => by
    simp only [bind_wc, bind_wn, bind_wv, bind_wagg, bind_wI, bind_wB, bind_wS, bind_wL, bind_wP, bind_wFn, bind_ob, Option.bind_some]

theorem d35 {P : Program} (fuel : Nat) (hmix : P.follows .mixedOrders = true) (hC : Sound P (C24 fuel)) (hF : FFits P 35 A35) (args res : List A) (h : (O35 fuel).o args some = some res) : Den P 35 args res := by
  obtain ⟨a1, l2, rfl, z0⟩ := inv_wc h
  obtain ⟨c3, rfl, z1⟩ := inv_wv z0
  obtain ⟨y4, y5, h6, z2⟩ := inv_wL z1
  obtain ⟨a7, l8, rfl, z3⟩ := inv_wc z2
  obtain ⟨c9, rfl, z4⟩ := inv_wv z3
  obtain ⟨y10, y11, h12, z5⟩ := inv_wL z4
  obtain ⟨hn, z6⟩ := inv_wn z5
  cases hn
  exact Den.weaken (.cons (WkA.v h6) (.cons (WkA.v h12) .nil)) (evalF_sound hmix hC hF ((e35 fuel y4 y5 y10 y11).trans z6))

def C25 (fuel : Nat) : Oracle := (C24 fuel).add 35 (fun _ => true) (O35 fuel)

/-- shipyard/region.apart -/
def A36 : AF := ⟨25, [.tmp 4],
  (.seq (.region 0 [
  ⟨(some 4), .assign (.const (.bool false)), none⟩] 0 none) []
  (.seq (.region 1 [
  ⟨(some 5), .move (.tmp 0), none⟩,
  ⟨(some 6), .move (.tmp 1), none⟩,
  ⟨(some 7), .call 58 [(.tmp 5), (.tmp 6), (.func 56)] [22, 22, 67] .snap, none⟩,
  ⟨(some 8), .unOp .not 4 (.tmp 7), none⟩,
  ⟨(some 9), .move (.tmp 8), none⟩,
  ⟨(some 10), .move (.tmp 0), (some (9, true))⟩,
  ⟨(some 11), .move (.tmp 1), (some (9, true))⟩,
  ⟨(some 12), .indexAddr 22 34 2 (.tmp 11) (.const (.int .i64 0)), (some (9, true))⟩,
  ⟨(some 13), .load 34 (some 2) (.tmp 12), (some (9, true))⟩,
  ⟨(some 14), .call 65 [(.tmp 10), (.tmp 13)] [22, 34] .snap, (some (9, true))⟩,
  ⟨(some 15), .binOp .lss 3 (.tmp 14) (.const (.int .i64 0)) 3, (some (9, true))⟩,
  ⟨(some 16), .pick (.tmp 9) (.tmp 15) (.const (.bool false)), none⟩,
  ⟨(some 17), .move (.tmp 16), none⟩,
  ⟨(some 18), .move (.tmp 1), (some (17, true))⟩,
  ⟨(some 19), .move (.tmp 0), (some (17, true))⟩,
  ⟨(some 20), .indexAddr 22 34 2 (.tmp 19) (.const (.int .i64 0)), (some (17, true))⟩,
  ⟨(some 21), .load 34 (some 2) (.tmp 20), (some (17, true))⟩,
  ⟨(some 22), .call 65 [(.tmp 18), (.tmp 21)] [22, 34] .snap, (some (17, true))⟩,
  ⟨(some 23), .binOp .lss 3 (.tmp 22) (.const (.int .i64 0)) 3, (some (17, true))⟩,
  ⟨(some 24), .pick (.tmp 17) (.tmp 23) (.const (.bool false)), none⟩,
  ⟨(some 4), .assign (.tmp 24), none⟩] 0 none) []
  (.ret [0, 1, 2, 3, 5, 6, 7, 8, 9, 10, 11, 12, 13, 14, 15, 16, 17, 18, 19, 20, 21, 22, 23, 24])))⟩

def D36 {ρ : Type} (fuel : Nat) (x1 : Nat) (x2 : Nat → Nat → CV) (x3 : Nat) (x4 : Nat → Nat → CV) (k : Bool → Option ρ) : Option ρ :=
  (ob (F58 fuel x1 x2 x3 x4) fun x5 => (bif ((!x5) == true) then (bif (inb 0 x3) then (ob (F65 fuel x1 x2 (CV.int (x4 0 0)) (CV.int (x4 0 1))) fun x6 => (bif ((decide (x6 < 0)) == true) then (bif (inb 0 x1) then (ob (F65 fuel x3 x4 (CV.int (x2 0 0)) (CV.int (x2 0 1))) fun x7 => (k (decide (x7 < 0)))) else none) else (k false))) else none) else (k false)))

def F36 (fuel : Nat) (x1 : Nat) (x2 : Nat → Nat → CV) (x3 : Nat) (x4 : Nat → Nat → CV) : Option (Bool) := D36 fuel x1 x2 x3 x4 some

theorem n36 {ρ σ : Type} (fuel : Nat) (x1 : Nat) (x2 : Nat → Nat → CV) (x3 : Nat) (x4 : Nat → Nat → CV) (k : (Bool) → Option ρ) (g : ρ → Option σ) : ob (D36 fuel x1 x2 x3 x4 k) g = D36 fuel x1 x2 x3 x4 fun t => ob (k t) g := by
  simp only [D36, ob_bif, ob_ob, ob_none]

theorem f36 {ρ : Type} (fuel : Nat) (x1 : Nat) (x2 : Nat → Nat → CV) (x3 : Nat) (x4 : Nat → Nat → CV) (k : (Bool) → Option ρ) : D36 fuel x1 x2 x3 x4 k = ob (F36 fuel x1 x2 x3 x4) k := by
  unfold F36
  rw [n36]
  simp only [ob_some]

theorem walk36 (fuel : Nat) (x1 : Nat) (x2 : Nat → Nat → CV) (x3 : Nat) (x4 : Nat → Nat → CV) :
    evalF (C25 fuel) fuel A36 [.v (.ro false (.pr (.int .i64) (.pr (.int .i64) .nil)) x1 x2), .v (.ro false (.pr (.int .i64) (.pr (.int .i64) .nil)) x3 x4)] =
    (ob (F58 fuel x1 x2 x3 x4) fun x5 => (bif ((!x5) == true) then (bif (inb 0 x3) then (ob (F65 fuel x1 x2 (CV.int (x4 0 0)) (CV.int (x4 0 1))) fun x6 => (bif ((decide (x6 < 0)) == true) then (bif (inb 0 x1) then (ob (F65 fuel x3 x4 (CV.int (x2 0 0)) (CV.int (x2 0 1))) fun x7 => (some [.v (.b (decide (x7 < 0)))])) else none) else (some [.v (.b false)]))) else none) else (some [.v (.b false)]))) := by kernel_rfl

theorem e36 (fuel : Nat) (x1 : Nat) (x2 : Nat → Nat → CV) (x3 : Nat) (x4 : Nat → Nat → CV) : evalF (C25 fuel) fuel A36 [.v (.ro false (.pr (.int .i64) (.pr (.int .i64) .nil)) x1 x2), .v (.ro false (.pr (.int .i64) (.pr (.int .i64) .nil)) x3 x4)] = ob (F36 fuel x1 x2 x3 x4) fun t => some [.v (.b t)] := by
  rw [walk36, ← f36]
  simp only [D36]

def O36 (fuel : Nat) : Ora where
  o := fun args {ρ} K =>
    wc args fun a1 l2 =>
    wv a1 fun c3 =>
    wL (.pr (.int .i64) (.pr (.int .i64) .nil)) c3 fun y4 y5 =>
    wc l2 fun a7 l8 =>
    wv a7 fun c9 =>
    wL (.pr (.int .i64) (.pr (.int .i64) .nil)) c9 fun y10 y11 =>
    wn l8 <|
    (ob (F36 fuel y4 y5 y10 y11) fun t => K [.v (.b t)])
  nat := fun args {ρ} K => by
    simp only [bind_wc, bind_wn, bind_wv, bind_wagg, bind_wI, bind_wB, bind_wS, bind_wL, bind_wP, bind_wFn, bind_ob, Option.bind_some]

theorem d36 {P : Program} (fuel : Nat) (hmix : P.follows .mixedOrders = true) (hC : Sound P (C25 fuel)) (hF : FFits P 36 A36) (args res : List A) (h : (O36 fuel).o args some = some res) : Den P 36 args res := by
  obtain ⟨a1, l2, rfl, z0⟩ := inv_wc h
  obtain ⟨c3, rfl, z1⟩ := inv_wv z0
  obtain ⟨y4, y5, h6, z2⟩ := inv_wL z1
  obtain ⟨a7, l8, rfl, z3⟩ := inv_wc z2
  obtain ⟨c9, rfl, z4⟩ := inv_wv z3
  obtain ⟨y10, y11, h12, z5⟩ := inv_wL z4
  obtain ⟨hn, z6⟩ := inv_wn z5
  cases hn
  exact Den.weaken (.cons (WkA.v h6) (.cons (WkA.v h12) .nil)) (evalF_sound hmix hC hF ((e36 fuel y4 y5 y10 y11).trans z6))

def C26 (fuel : Nat) : Oracle := (C25 fuel).add 36 (fun _ => true) (O36 fuel)

/-- shipyard/region.Check -/
def A13v1 : AC := (.region 21 [
  ⟨(some 59), .binOp .add 3 (.tmp 51) (.const (.int .i64 1)) 3, none⟩,
  ⟨(some 51), .move (.tmp 59), none⟩] 0 none)
def A13v2 : AC := (.seq (.block 3
  (.seq (.region 18 [
    ⟨(some 53), .indexAddr 23 22 1 (.tmp 49) (.tmp 51), none⟩,
    ⟨(some 54), .load 22 none (.tmp 53), none⟩,
    ⟨(some 8), .assign (.tmp 54), none⟩] 0 none) []
    (.seq (.region 19 [
    ⟨(some 55), .move (.tmp 5), none⟩,
    ⟨(some 56), .move (.tmp 8), none⟩,
    ⟨(some 57), .call 36 [(.tmp 55), (.tmp 56)] [22, 22] .snap, none⟩,
    ⟨(some 58), .unOp .not 4 (.tmp 57), none⟩] 0 none) []
    (.cond (.tmp 58)
    (.seq (.region 20 [
      ⟨(some 2), .assign (.const (.int .i64 17)), none⟩] 0 none) []
      (.ret [0, 1, 3, 4, 5, 6, 7, 8, 9, 10, 11, 12, 13, 14, 15, 16, 17, 18, 19, 20, 21, 22, 23, 24, 25, 26, 27, 28, 29, 30, 31, 32, 33, 34, 35, 36, 37, 38, 39, 40, 41, 42, 43, 44, 45, 46, 47, 48, 49, 50, 51, 52, 53, 54, 55, 56, 57, 58, 59, 60]))
    .skip)))) [2, 8, 53, 54, 55, 56, 57, 58]
  A13v1)
def A13v3 : AC := (.seq (.region 17 [
  ⟨(some 52), .binOp .lss 3 (.tmp 51) (.tmp 50) 3, none⟩] 0 none) []
  (.seq (.cond (.tmp 52)
  .skip
  (.exit 2 [0, 2, 3, 4, 5, 6, 7, 8, 9, 10, 11, 12, 13, 14, 15, 16, 17, 18, 19, 20, 21, 22, 23, 27, 28, 29, 30, 31, 32, 33, 34, 35, 36, 37, 38, 39, 40, 41, 42, 43, 44, 45, 46, 47, 48, 49, 50, 51, 52, 53, 54, 55, 56, 57, 58, 59, 60])) []
  A13v2))
def A13v4 : AC := (.seq (.region 16 [
  ⟨(some 46), .fieldAddr 25 (.tmp 1) 1 1, none⟩,
  ⟨(some 47), .load 23 none (.tmp 46), none⟩,
  ⟨(some 48), .move (.tmp 4), none⟩,
  ⟨(some 49), .slice 23 22 1 (.tmp 47) none (some (.tmp 48)) none, none⟩,
  ⟨(some 50), .len 23 false (.tmp 49), none⟩,
  ⟨(some 51), .move (.const (.int .i64 0)), none⟩] 0 none) []
  (.block 2
  (.loop [] [0, 2, 3, 4, 6, 7, 8, 9, 10, 11, 12, 13, 14, 15, 16, 17, 18, 19, 20, 21, 22, 23, 27, 28, 29, 30, 31, 32, 33, 34, 35, 36, 37, 38, 39, 40, 41, 42, 43, 44, 45, 46, 47, 48, 52, 53, 54, 55, 56, 57, 58, 59, 60]
    A13v3)))
def A13v5 : AC := (.seq (.seq (.region 14 [
  ⟨(some 36), .move (.tmp 5), none⟩,
  ⟨(some 37), .call 34 [(.tmp 36)] [22] .snap, none⟩,
  ⟨(some 38), .binOp .geq 3 (.tmp 37) (.const (.int .i64 0)) 3, none⟩,
  ⟨(some 39), .move (.tmp 38), none⟩,
  ⟨(some 40), .move (.tmp 5), (some (39, false))⟩,
  ⟨(some 41), .fieldAddr 25 (.tmp 1) 0 0, (some (39, false))⟩,
  ⟨(some 42), .load 22 none (.tmp 41), (some (39, false))⟩,
  ⟨(some 43), .call 35 [(.tmp 40), (.tmp 42)] [22, 22] .snap, (some (39, false))⟩,
  ⟨(some 44), .unOp .not 4 (.tmp 43), (some (39, false))⟩,
  ⟨(some 45), .pick (.tmp 39) (.const (.bool true)) (.tmp 44), none⟩] 0 none) []
  (.cond (.tmp 45)
  (.seq (.region 15 [
    ⟨(some 2), .assign (.const (.int .i64 17)), none⟩] 0 none) []
    (.ret [0, 1, 3, 4, 5, 6, 7, 8, 9, 10, 11, 12, 13, 14, 15, 16, 17, 18, 19, 20, 21, 22, 23, 24, 25, 26, 27, 28, 29, 30, 31, 32, 33, 34, 35, 36, 37, 38, 39, 40, 41, 42, 43, 44, 45, 46, 47, 48, 49, 50, 51, 52, 53, 54, 55, 56, 57, 58, 59, 60]))
  .skip)) [2, 36, 37, 38, 39, 40, 41, 42, 43, 44, 45]
  A13v4)
def A13v6 : AC := (.region 22 [
  ⟨(some 60), .binOp .add 3 (.tmp 26) (.const (.int .i64 1)) 3, none⟩,
  ⟨(some 26), .move (.tmp 60), none⟩] 0 none)
def A13v7 : AC := (.seq (.block 1
  (.seq (.region 10 [
    ⟨(some 28), .move (.tmp 26), none⟩,
    ⟨(some 29), .indexAddr 23 22 1 (.tmp 24) (.tmp 26), none⟩,
    ⟨(some 30), .load 22 none (.tmp 29), none⟩,
    ⟨(some 4), .assign (.tmp 28), none⟩,
    ⟨(some 5), .assign (.tmp 30), none⟩] 0 none) []
    (.seq (.seq (.region 11 [
    ⟨(some 31), .move (.tmp 5), none⟩,
    ⟨(some 32), .call 33 [(.tmp 31)] [22] .snap, none⟩,
    ⟨(some 6), .assign (.tmp 32), none⟩] 0 none) []
    (.seq (.region 12 [
    ⟨(some 33), .move (.tmp 6), none⟩,
    ⟨(some 34), .binOp .neq 27 (.tmp 33) (.const (.int .i64 0)) 27, none⟩] 0 none) []
    (.cond (.tmp 34)
    (.seq (.region 13 [
      ⟨(some 35), .move (.tmp 6), none⟩,
      ⟨(some 2), .assign (.tmp 35), none⟩] 0 none) []
      (.ret [0, 1, 3, 4, 5, 6, 7, 8, 9, 10, 11, 12, 13, 14, 15, 16, 17, 18, 19, 20, 21, 22, 23, 24, 25, 26, 27, 28, 29, 30, 31, 32, 33, 34, 35, 36, 37, 38, 39, 40, 41, 42, 43, 44, 45, 46, 47, 48, 49, 50, 51, 52, 53, 54, 55, 56, 57, 58, 59, 60]))
    .skip))) [2, 6, 31, 32, 33, 34, 35]
    A13v5))) [2, 4, 5, 6, 8, 28, 29, 30, 31, 32, 33, 34, 35, 36, 37, 38, 39, 40, 41, 42, 43, 44, 45, 46, 47, 48, 49, 50, 51, 52, 53, 54, 55, 56, 57, 58, 59]
  A13v6)
def A13v8 : AC := (.seq (.region 9 [
  ⟨(some 27), .binOp .lss 3 (.tmp 26) (.tmp 25) 3, none⟩] 0 none) []
  (.seq (.cond (.tmp 27)
  .skip
  (.exit 0 [0, 1, 2, 3, 4, 5, 6, 7, 8, 9, 10, 11, 12, 13, 14, 15, 16, 17, 18, 19, 20, 21, 22, 23, 24, 25, 26, 27, 28, 29, 30, 31, 32, 33, 34, 35, 36, 37, 38, 39, 40, 41, 42, 43, 44, 45, 46, 47, 48, 49, 50, 51, 52, 53, 54, 55, 56, 57, 58, 59, 60])) []
  A13v7))
def A13v9 : AC := (.seq (.region 23 [
  ⟨(some 2), .assign (.const (.int .i64 0)), none⟩] 0 none) []
  (.ret [0, 1, 3, 4, 5, 6, 7, 8, 9, 10, 11, 12, 13, 14, 15, 16, 17, 18, 19, 20, 21, 22, 23, 24, 25, 26, 27, 28, 29, 30, 31, 32, 33, 34, 35, 36, 37, 38, 39, 40, 41, 42, 43, 44, 45, 46, 47, 48, 49, 50, 51, 52, 53, 54, 55, 56, 57, 58, 59, 60]))
def A13v10 : AC := (.seq (.seq (.region 8 [
  ⟨(some 23), .fieldAddr 25 (.tmp 1) 1 1, none⟩,
  ⟨(some 24), .load 23 none (.tmp 23), none⟩,
  ⟨(some 25), .len 23 false (.tmp 24), none⟩,
  ⟨(some 26), .move (.const (.int .i64 0)), none⟩] 0 none) []
  (.block 0
  (.loop [] [0, 2, 3, 4, 5, 6, 7, 8, 9, 10, 11, 12, 13, 14, 15, 16, 17, 18, 19, 20, 21, 22, 23, 27, 28, 29, 30, 31, 32, 33, 34, 35, 36, 37, 38, 39, 40, 41, 42, 43, 44, 45, 46, 47, 48, 49, 50, 51, 52, 53, 54, 55, 56, 57, 58, 59, 60]
    A13v8))) [2, 4, 5, 6, 8, 23, 24, 25, 26, 27, 28, 29, 30, 31, 32, 33, 34, 35, 36, 37, 38, 39, 40, 41, 42, 43, 44, 45, 46, 47, 48, 49, 50, 51, 52, 53, 54, 55, 56, 57, 58, 59, 60]
  A13v9)
def A13v11 : AC := (.seq (.seq (.region 6 [
  ⟨(some 19), .fieldAddr 25 (.tmp 1) 0 0, none⟩,
  ⟨(some 20), .load 22 none (.tmp 19), none⟩,
  ⟨(some 21), .call 34 [(.tmp 20)] [22] .snap, none⟩,
  ⟨(some 22), .binOp .leq 3 (.tmp 21) (.const (.int .i64 0)) 3, none⟩] 0 none) []
  (.cond (.tmp 22)
  (.seq (.region 7 [
    ⟨(some 2), .assign (.const (.int .i64 17)), none⟩] 0 none) []
    (.ret [0, 1, 3, 4, 5, 6, 7, 8, 9, 10, 11, 12, 13, 14, 15, 16, 17, 18, 19, 20, 21, 22, 23, 24, 25, 26, 27, 28, 29, 30, 31, 32, 33, 34, 35, 36, 37, 38, 39, 40, 41, 42, 43, 44, 45, 46, 47, 48, 49, 50, 51, 52, 53, 54, 55, 56, 57, 58, 59, 60]))
  .skip)) [2, 19, 20, 21, 22]
  A13v10)
def A13v12 : AC := (.seq (.seq (.region 3 [
  ⟨(some 13), .fieldAddr 25 (.tmp 1) 0 0, none⟩,
  ⟨(some 14), .load 22 none (.tmp 13), none⟩,
  ⟨(some 15), .call 33 [(.tmp 14)] [22] .snap, none⟩,
  ⟨(some 3), .assign (.tmp 15), none⟩] 0 none) []
  (.seq (.region 4 [
  ⟨(some 16), .move (.tmp 3), none⟩,
  ⟨(some 17), .binOp .neq 27 (.tmp 16) (.const (.int .i64 0)) 27, none⟩] 0 none) []
  (.cond (.tmp 17)
  (.seq (.region 5 [
    ⟨(some 18), .move (.tmp 3), none⟩,
    ⟨(some 2), .assign (.tmp 18), none⟩] 0 none) []
    (.ret [0, 1, 3, 4, 5, 6, 7, 8, 9, 10, 11, 12, 13, 14, 15, 16, 17, 18, 19, 20, 21, 22, 23, 24, 25, 26, 27, 28, 29, 30, 31, 32, 33, 34, 35, 36, 37, 38, 39, 40, 41, 42, 43, 44, 45, 46, 47, 48, 49, 50, 51, 52, 53, 54, 55, 56, 57, 58, 59, 60]))
  .skip))) [2, 3, 13, 14, 15, 16, 17, 18]
  A13v11)
def A13 : AF := ⟨61, [.tmp 2],
  (.seq (.region 0 [
  ⟨(some 1), .box 0 25 (.tmp 0), none⟩,
  ⟨(some 2), .assign (.const (.int .i64 0)), none⟩] 1 none) []
  (.seq (.seq (.region 1 [
  ⟨(some 9), .fieldAddr 25 (.tmp 1) 1 1, none⟩,
  ⟨(some 10), .load 23 none (.tmp 9), none⟩,
  ⟨(some 11), .len 23 false (.tmp 10), none⟩,
  ⟨(some 12), .binOp .gtr 3 (.tmp 11) (.const (.int .i64 8)) 3, none⟩] 0 none) []
  (.cond (.tmp 12)
  (.seq (.region 2 [
    ⟨(some 2), .assign (.const (.int .i64 12)), none⟩] 0 none) []
    (.ret [0, 1, 3, 4, 5, 6, 7, 8, 9, 10, 11, 12, 13, 14, 15, 16, 17, 18, 19, 20, 21, 22, 23, 24, 25, 26, 27, 28, 29, 30, 31, 32, 33, 34, 35, 36, 37, 38, 39, 40, 41, 42, 43, 44, 45, 46, 47, 48, 49, 50, 51, 52, 53, 54, 55, 56, 57, 58, 59, 60]))
  .skip)) [2, 9, 10, 11, 12]
  A13v12))⟩

def B13v2 (C : Oracle) (fuel : Nat) {ρ : Type} : St → (Ex → St → Option ρ) → Option ρ := fun st k => evalC C fuel A13v3 st k
def N13v2 : St → Option St := fun s => s.norm [0, 2, 3, 4, 6, 7, 8, 9, 10, 11, 12, 13, 14, 15, 16, 17, 18, 19, 20, 21, 22, 23, 27, 28, 29, 30, 31, 32, 33, 34, 35, 36, 37, 38, 39, 40, 41, 42, 43, 44, 45, 46, 47, 48, 52, 53, 54, 55, 56, 57, 58, 59, 60] 1

def s13v0 (x42 : Nat) (x43 : Nat → Nat → CV) (x44 : Nat) (x45 : Nat → Nat → CV) (x46 : Int) (x47 : Int) (x48 : Nat) (x49 : Int) (x50 : Int) (x51 : Nat) (x52 : Nat → Nat → CV) : St := ⟨[.u, .x (.ptr 0 0), .u, .u, .u, .x (.c (.ro false (.pr (.int .i64) (.pr (.int .i64) .nil)) x42 x43)), .u, .u, .u, .u, .u, .u, .u, .u, .u, .u, .u, .u, .u, .u, .u, .u, .u, .u, .x (.c (.ro false (.pr (.sl (.pr (.int .i64) (.pr (.int .i64) .nil))) .nil) x44 x45)), .x (.c (.i .i64 x46)), .x (.c (.i .i64 x47)), .u, .u, .u, .u, .u, .u, .u, .u, .u, .u, .u, .u, .u, .u, .u, .u, .u, .u, .u, .u, .u, .u, .x (.c (.ro false (.pr (.sl (.pr (.int .i64) (.pr (.int .i64) .nil))) .nil) x48 x45)), .x (.c (.i .i64 x49)), .x (.c (.i .i64 x50)), .u, .u, .u, .u, .u, .u, .u, .u, .u],
    [.box [(.c (.ro false (.pr (.int .i64) (.pr (.int .i64) .nil)) x51 x52)), (.c (.ro false (.pr (.sl (.pr (.int .i64) (.pr (.int .i64) .nil))) .nil) x44 x45))]]⟩

def s13v1 (x51 : Nat) (x52 : Nat → Nat → CV) (x44 : Nat) (x45 : Nat → Nat → CV) : St := ⟨[.u, .u, .x (.c (.i .i64 17)), .u, .u, .u, .u, .u, .u, .u, .u, .u, .u, .u, .u, .u, .u, .u, .u, .u, .u, .u, .u, .u, .u, .u, .u, .u, .u, .u, .u, .u, .u, .u, .u, .u, .u, .u, .u, .u, .u, .u, .u, .u, .u, .u, .u, .u, .u, .u, .u, .u, .u, .u, .u, .u, .u, .u, .u, .u, .u],
    [.box [(.c (.ro false (.pr (.int .i64) (.pr (.int .i64) .nil)) x51 x52)), (.c (.ro false (.pr (.sl (.pr (.int .i64) (.pr (.int .i64) .nil))) .nil) x44 x45))]]⟩

def s13v2 (x44 : Nat) (x45 : Nat → Nat → CV) (x46 : Int) (x47 : Int) (x51 : Nat) (x52 : Nat → Nat → CV) : St := ⟨[.u, .x (.ptr 0 0), .u, .u, .u, .u, .u, .u, .u, .u, .u, .u, .u, .u, .u, .u, .u, .u, .u, .u, .u, .u, .u, .u, .x (.c (.ro false (.pr (.sl (.pr (.int .i64) (.pr (.int .i64) .nil))) .nil) x44 x45)), .x (.c (.i .i64 x46)), .x (.c (.i .i64 x47)), .u, .u, .u, .u, .u, .u, .u, .u, .u, .u, .u, .u, .u, .u, .u, .u, .u, .u, .u, .u, .u, .u, .u, .u, .u, .u, .u, .u, .u, .u, .u, .u, .u, .u],
    [.box [(.c (.ro false (.pr (.int .i64) (.pr (.int .i64) .nil)) x51 x52)), (.c (.ro false (.pr (.sl (.pr (.int .i64) (.pr (.int .i64) .nil))) .nil) x44 x45))]]⟩

def L13v2 {ρ : Type} (fuel : Nat) (x42 : Nat) (x43 : Nat → Nat → CV) (x44 : Nat) (x45 : Nat → Nat → CV) (x46 : Int) (x47 : Int) (x48 : Nat) (x49 : Int) (x51 : Nat) (x52 : Nat → Nat → CV) : Nat → Int → (Option ρ) → (Option ρ) → Option ρ
  | 0, _, _, _ => none
  | m + 1, x50, k0, k1 =>
    (bif (decide (x50 < x49)) then (bif (inb x50 x48) then (ob (F36 fuel x42 x43 (CV.len (x45 (Int.toNat x50) 0)) (CV.el (x45 (Int.toNat x50) 0))) fun x53 => (bif (!x53) then k0 else (L13v2 fuel x42 x43 x44 x45 x46 x47 x48 x49 x51 x52 m (w64 (x50 + 1)) k0 k1))) else none) else k1)

theorem nl13v2 {ρ σ : Type} (fuel : Nat) (x42 : Nat) (x43 : Nat → Nat → CV) (x44 : Nat) (x45 : Nat → Nat → CV) (x46 : Int) (x47 : Int) (x48 : Nat) (x49 : Int) (x51 : Nat) (x52 : Nat → Nat → CV) (g : ρ → Option σ) : ∀ (m : Nat) (x50 : Int) (k0 : Option ρ) (k1 : Option ρ), ob (L13v2 fuel x42 x43 x44 x45 x46 x47 x48 x49 x51 x52 m x50 k0 k1) g = L13v2 fuel x42 x43 x44 x45 x46 x47 x48 x49 x51 x52 m x50 (ob k0 g) (ob k1 g)
  | 0, _, _, _ => rfl
  | m + 1, x50, k0, k1 => by
    simp only [L13v2, ob_bif, ob_ob, ob_none, nl13v2 fuel x42 x43 x44 x45 x46 x47 x48 x49 x51 x52 g m]

theorem r13v2 (fuel : Nat) (m : Nat) {ρ : Type} (k : Ex → St → Option ρ) (x42 : Nat) (x43 : Nat → Nat → CV) (x44 : Nat) (x45 : Nat → Nat → CV) (x46 : Int) (x47 : Int) (x48 : Nat) (x49 : Int) (x51 : Nat) (x52 : Nat → Nat → CV) (x50 : Int) :
    loopH (B13v2 (C26 fuel) fuel) N13v2 (m + 1) (s13v0 x42 x43 x44 x45 x46 x47 x48 x49 x50 x51 x52) k =
    (bif (decide (x50 < x49)) then (bif (inb x50 x48) then (ob (F36 fuel x42 x43 (CV.len (x45 (Int.toNat x50) 0)) (CV.el (x45 (Int.toNat x50) 0))) fun x53 => (bif (!x53) then (k .ret (s13v1 x51 x52 x44 x45)) else (loopH (B13v2 (C26 fuel) fuel) N13v2 m (s13v0 x42 x43 x44 x45 x46 x47 x48 x49 (w64 (x50 + 1)) x51 x52) k))) else none) else (k (.exit 2) (s13v2 x44 x45 x46 x47 x51 x52))) := by kernel_rfl

theorem q13v2 (fuel : Nat) (x42 : Nat) (x43 : Nat → Nat → CV) (x44 : Nat) (x45 : Nat → Nat → CV) (x46 : Int) (x47 : Int) (x48 : Nat) (x49 : Int) (x51 : Nat) (x52 : Nat → Nat → CV) {ρ : Type} (k : Ex → St → Option ρ) : ∀ (m : Nat) (x50 : Int),
    loopH (B13v2 (C26 fuel) fuel) N13v2 m (s13v0 x42 x43 x44 x45 x46 x47 x48 x49 x50 x51 x52) k = L13v2 fuel x42 x43 x44 x45 x46 x47 x48 x49 x51 x52 m x50 (k .ret (s13v1 x51 x52 x44 x45)) (k (.exit 2) (s13v2 x44 x45 x46 x47 x51 x52))
  | 0, _ => rfl
  | m + 1, x50 => by
    rw [r13v2]
    simp only [L13v2, q13v2 fuel x42 x43 x44 x45 x46 x47 x48 x49 x51 x52 k m]

def B13v3 (C : Oracle) (fuel : Nat) {ρ : Type} : St → (Ex → St → Option ρ) → Option ρ := fun st k => evalC C fuel A13v8 st k
def N13v3 : St → Option St := fun s => s.norm [0, 2, 3, 4, 5, 6, 7, 8, 9, 10, 11, 12, 13, 14, 15, 16, 17, 18, 19, 20, 21, 22, 23, 27, 28, 29, 30, 31, 32, 33, 34, 35, 36, 37, 38, 39, 40, 41, 42, 43, 44, 45, 46, 47, 48, 49, 50, 51, 52, 53, 54, 55, 56, 57, 58, 59, 60] 1

def s13v3 (x22 : Nat) (x23 : Nat → Nat → CV) (x24 : Int) (x25 : Int) (x26 : Nat) (x27 : Nat → Nat → CV) : St := ⟨[.u, .x (.ptr 0 0), .u, .u, .u, .u, .u, .u, .u, .u, .u, .u, .u, .u, .u, .u, .u, .u, .u, .u, .u, .u, .u, .u, .x (.c (.ro false (.pr (.sl (.pr (.int .i64) (.pr (.int .i64) .nil))) .nil) x22 x23)), .x (.c (.i .i64 x24)), .x (.c (.i .i64 x25)), .u, .u, .u, .u, .u, .u, .u, .u, .u, .u, .u, .u, .u, .u, .u, .u, .u, .u, .u, .u, .u, .u, .u, .u, .u, .u, .u, .u, .u, .u, .u, .u, .u, .u],
    [.box [(.c (.ro false (.pr (.int .i64) (.pr (.int .i64) .nil)) x26 x27)), (.c (.ro false (.pr (.sl (.pr (.int .i64) (.pr (.int .i64) .nil))) .nil) x22 x23))]]⟩

def s13v4 (x54 : Int) (x26 : Nat) (x27 : Nat → Nat → CV) (x22 : Nat) (x23 : Nat → Nat → CV) : St := ⟨[.u, .u, .x (.c (.i .i64 x54)), .u, .u, .u, .u, .u, .u, .u, .u, .u, .u, .u, .u, .u, .u, .u, .u, .u, .u, .u, .u, .u, .u, .u, .u, .u, .u, .u, .u, .u, .u, .u, .u, .u, .u, .u, .u, .u, .u, .u, .u, .u, .u, .u, .u, .u, .u, .u, .u, .u, .u, .u, .u, .u, .u, .u, .u, .u, .u],
    [.box [(.c (.ro false (.pr (.int .i64) (.pr (.int .i64) .nil)) x26 x27)), (.c (.ro false (.pr (.sl (.pr (.int .i64) (.pr (.int .i64) .nil))) .nil) x22 x23))]]⟩

def s13v5 (x26 : Nat) (x27 : Nat → Nat → CV) (x22 : Nat) (x23 : Nat → Nat → CV) : St := ⟨[.u, .u, .u, .u, .u, .u, .u, .u, .u, .u, .u, .u, .u, .u, .u, .u, .u, .u, .u, .u, .u, .u, .u, .u, .u, .u, .u, .u, .u, .u, .u, .u, .u, .u, .u, .u, .u, .u, .u, .u, .u, .u, .u, .u, .u, .u, .u, .u, .u, .u, .u, .u, .u, .u, .u, .u, .u, .u, .u, .u, .u],
    [.box [(.c (.ro false (.pr (.int .i64) (.pr (.int .i64) .nil)) x26 x27)), (.c (.ro false (.pr (.sl (.pr (.int .i64) (.pr (.int .i64) .nil))) .nil) x22 x23))]]⟩

def L13v3 {ρ : Type} (fuel : Nat) (x22 : Nat) (x23 : Nat → Nat → CV) (x24 : Int) (x26 : Nat) (x27 : Nat → Nat → CV) : Nat → Int → (Int → Option ρ) → (Option ρ) → Option ρ
  | 0, _, _, _ => none
  | m + 1, x25, k0, k1 =>
    (bif (decide (x25 < x24)) then (bif (inb x25 x22) then (ob (F33 fuel (CV.len (x23 (Int.toNat x25) 0)) (CV.el (x23 (Int.toNat x25) 0))) fun x28 => (bif (x28 != 0) then (k0 x28) else (ob (F34 fuel (CV.len (x23 (Int.toNat x25) 0)) (CV.el (x23 (Int.toNat x25) 0))) fun x29 => (bif ((decide (x29 ≥ 0)) == false) then (ob (F35 fuel (CV.len (x23 (Int.toNat x25) 0)) (CV.el (x23 (Int.toNat x25) 0)) x26 x27) fun x30 => (bif (!x30) then (k0 17) else (bif (inbe x25 x22) then (L13v2 fuel (CV.len (x23 (Int.toNat x25) 0)) (CV.el (x23 (Int.toNat x25) 0)) x22 x23 x24 x25 ((Int.toNat x25) - 0) (Int.ofNat ((Int.toNat x25) - 0)) x26 x27 fuel 0
    (k0 17)
    (L13v3 fuel x22 x23 x24 x26 x27 m (w64 (x25 + 1)) k0 k1)) else none))) else (k0 17))))) else none) else k1)

theorem nl13v3 {ρ σ : Type} (fuel : Nat) (x22 : Nat) (x23 : Nat → Nat → CV) (x24 : Int) (x26 : Nat) (x27 : Nat → Nat → CV) (g : ρ → Option σ) : ∀ (m : Nat) (x25 : Int) (k0 : Int → Option ρ) (k1 : Option ρ), ob (L13v3 fuel x22 x23 x24 x26 x27 m x25 k0 k1) g = L13v3 fuel x22 x23 x24 x26 x27 m x25 (fun x54 => ob (k0 x54) g) (ob k1 g)
  | 0, _, _, _ => rfl
  | m + 1, x25, k0, k1 => by
    simp only [L13v3, ob_bif, ob_ob, ob_none, nl13v3 fuel x22 x23 x24 x26 x27 g m, nl13v2]

def s13v6 (x25 : Int) (x23 : Nat → Nat → CV) (x22 : Nat) (x24 : Int) (x26 : Nat) (x27 : Nat → Nat → CV) : St := ⟨[.u, .x (.ptr 0 0), .u, .u, .x (.c (.i .i64 x25)), .x (.c (.ro false (.pr (.int .i64) (.pr (.int .i64) .nil)) (CV.len (x23 (Int.toNat x25) 0)) (CV.el (x23 (Int.toNat x25) 0)))), .u, .u, .u, .u, .u, .u, .u, .u, .u, .u, .u, .u, .u, .u, .u, .u, .u, .u, .x (.c (.ro false (.pr (.sl (.pr (.int .i64) (.pr (.int .i64) .nil))) .nil) x22 x23)), .x (.c (.i .i64 x24)), .x (.c (.i .i64 x25)), .x (.c (.b true)), .x (.c (.i .i64 x25)), .x (.c (.rp (.pr (.sl (.pr (.int .i64) (.pr (.int .i64) .nil))) .nil) (x23 (Int.toNat x25)))), .x (.c (.ro false (.pr (.int .i64) (.pr (.int .i64) .nil)) (CV.len (x23 (Int.toNat x25) 0)) (CV.el (x23 (Int.toNat x25) 0)))), .u, .u, .u, .u, .u, .u, .u, .u, .u, .u, .u, .u, .u, .u, .u, .x (.ptr 0 1), .x (.c (.ro false (.pr (.sl (.pr (.int .i64) (.pr (.int .i64) .nil))) .nil) x22 x23)), .x (.c (.i .i64 x25)), .x (.c (.ro false (.pr (.sl (.pr (.int .i64) (.pr (.int .i64) .nil))) .nil) ((Int.toNat x25) - 0) x23)), .x (.c (.i .i64 (Int.ofNat ((Int.toNat x25) - 0)))), .x (.c (.i .i64 0)), .u, .u, .u, .u, .u, .u, .u, .u, .u],
    [.box [(.c (.ro false (.pr (.int .i64) (.pr (.int .i64) .nil)) x26 x27)), (.c (.ro false (.pr (.sl (.pr (.int .i64) (.pr (.int .i64) .nil))) .nil) x22 x23))]]⟩

theorem r13v3 (fuel : Nat) (m : Nat) {ρ : Type} (k : Ex → St → Option ρ) (x22 : Nat) (x23 : Nat → Nat → CV) (x24 : Int) (x26 : Nat) (x27 : Nat → Nat → CV) (x25 : Int) :
    loopH (B13v3 (C26 fuel) fuel) N13v3 (m + 1) (s13v3 x22 x23 x24 x25 x26 x27) k =
    (bif (decide (x25 < x24)) then (bif (inb x25 x22) then (ob (F33 fuel (CV.len (x23 (Int.toNat x25) 0)) (CV.el (x23 (Int.toNat x25) 0))) fun x28 => (bif (x28 != 0) then (k .ret (s13v4 x28 x26 x27 x22 x23)) else (ob (F34 fuel (CV.len (x23 (Int.toNat x25) 0)) (CV.el (x23 (Int.toNat x25) 0))) fun x29 => (bif ((decide (x29 ≥ 0)) == false) then (ob (F35 fuel (CV.len (x23 (Int.toNat x25) 0)) (CV.el (x23 (Int.toNat x25) 0)) x26 x27) fun x30 => (bif (!x30) then (k .ret (s13v4 17 x26 x27 x22 x23)) else (bif (inbe x25 x22) then (loopN (B13v2 (C26 fuel) fuel) N13v2 fuel (s13v6 x25 x23 x22 x24 x26 x27) (kBlk 2 (kBlk 1 (kSeq (C26 fuel) fuel [2, 4, 5, 6, 8, 28, 29, 30, 31, 32, 33, 34, 35, 36, 37, 38, 39, 40, 41, 42, 43, 44, 45, 46, 47, 48, 49, 50, 51, 52, 53, 54, 55, 56, 57, 58, 59] A13v6 (kLoop (B13v3 (C26 fuel) fuel) N13v3 m k))))) else none))) else (k .ret (s13v4 17 x26 x27 x22 x23)))))) else none) else (k (.exit 0) (s13v5 x26 x27 x22 x23))) := by kernel_rfl

theorem t13v1 (fuel : Nat) {ρ : Type} (k : Ex → St → Option ρ) (x25 : Int) (x23 : Nat → Nat → CV) (x22 : Nat) (x24 : Int) (x26 : Nat) (x27 : Nat → Nat → CV) :
    loopN (B13v2 (C26 fuel) fuel) N13v2 fuel (s13v6 x25 x23 x22 x24 x26 x27) k =
    L13v2 fuel (CV.len (x23 (Int.toNat x25) 0)) (CV.el (x23 (Int.toNat x25) 0)) x22 x23 x24 x25 ((Int.toNat x25) - 0) (Int.ofNat ((Int.toNat x25) - 0)) x26 x27 fuel 0 (k .ret (s13v1 x26 x27 x22 x23)) (k (.exit 2) (s13v2 x22 x23 x24 x25 x26 x27)) :=
  (loopN_at (st' := (s13v0 (CV.len (x23 (Int.toNat x25) 0)) (CV.el (x23 (Int.toNat x25) 0)) x22 x23 x24 x25 ((Int.toNat x25) - 0) (Int.ofNat ((Int.toNat x25) - 0)) 0 x26 x27)) (by kernel_rfl)).trans (q13v2 fuel (CV.len (x23 (Int.toNat x25) 0)) (CV.el (x23 (Int.toNat x25) 0)) x22 x23 x24 x25 ((Int.toNat x25) - 0) (Int.ofNat ((Int.toNat x25) - 0)) x26 x27 k fuel 0)

theorem g13v2 (fuel : Nat) (m : Nat) {ρ : Type} (k : Ex → St → Option ρ) (x26 : Nat) (x27 : Nat → Nat → CV) (x22 : Nat) (x23 : Nat → Nat → CV) :
    (kBlk 2 (kBlk 1 (kSeq (C26 fuel) fuel [2, 4, 5, 6, 8, 28, 29, 30, 31, 32, 33, 34, 35, 36, 37, 38, 39, 40, 41, 42, 43, 44, 45, 46, 47, 48, 49, 50, 51, 52, 53, 54, 55, 56, 57, 58, 59] A13v6 (kLoop (B13v3 (C26 fuel) fuel) N13v3 m k)))) .ret (s13v1 x26 x27 x22 x23) =
    (k .ret (s13v4 17 x26 x27 x22 x23)) := by kernel_rfl

theorem g13v3 (fuel : Nat) (m : Nat) {ρ : Type} (k : Ex → St → Option ρ) (x22 : Nat) (x23 : Nat → Nat → CV) (x24 : Int) (x25 : Int) (x26 : Nat) (x27 : Nat → Nat → CV) :
    (kBlk 2 (kBlk 1 (kSeq (C26 fuel) fuel [2, 4, 5, 6, 8, 28, 29, 30, 31, 32, 33, 34, 35, 36, 37, 38, 39, 40, 41, 42, 43, 44, 45, 46, 47, 48, 49, 50, 51, 52, 53, 54, 55, 56, 57, 58, 59] A13v6 (kLoop (B13v3 (C26 fuel) fuel) N13v3 m k)))) (.exit 2) (s13v2 x22 x23 x24 x25 x26 x27) =
    (loopH (B13v3 (C26 fuel) fuel) N13v3 m (s13v3 x22 x23 x24 (w64 (x25 + 1)) x26 x27) k) := by kernel_rfl

theorem q13v3 (fuel : Nat) (x22 : Nat) (x23 : Nat → Nat → CV) (x24 : Int) (x26 : Nat) (x27 : Nat → Nat → CV) {ρ : Type} (k : Ex → St → Option ρ) : ∀ (m : Nat) (x25 : Int),
    loopH (B13v3 (C26 fuel) fuel) N13v3 m (s13v3 x22 x23 x24 x25 x26 x27) k = L13v3 fuel x22 x23 x24 x26 x27 m x25 (fun x54 => k .ret (s13v4 x54 x26 x27 x22 x23)) (k (.exit 0) (s13v5 x26 x27 x22 x23))
  | 0, _ => rfl
  | m + 1, x25 => by
    rw [r13v3]
    simp only [L13v3, q13v3 fuel x22 x23 x24 x26 x27 k m, t13v1, g13v2, g13v3]

def D13 {ρ : Type} (fuel : Nat) (x1 : Nat) (x2 : Nat → Nat → CV) (x3 : Nat) (x4 : Nat → Nat → CV) (k : Int → Option ρ) : Option ρ :=
  (bif (decide ((Int.ofNat x3) > 8)) then (k 12) else (ob (F33 fuel x1 x2) fun x5 => (bif (x5 != 0) then (k x5) else (ob (F34 fuel x1 x2) fun x6 => (bif (decide (x6 ≤ 0)) then (k 17) else (L13v3 fuel x3 x4 (Int.ofNat x3) x1 x2 fuel 0
    (fun x55 => (k x55))
    (k 0)))))))

def F13 (fuel : Nat) (x1 : Nat) (x2 : Nat → Nat → CV) (x3 : Nat) (x4 : Nat → Nat → CV) : Option (Int) := D13 fuel x1 x2 x3 x4 some

theorem n13 {ρ σ : Type} (fuel : Nat) (x1 : Nat) (x2 : Nat → Nat → CV) (x3 : Nat) (x4 : Nat → Nat → CV) (k : (Int) → Option ρ) (g : ρ → Option σ) : ob (D13 fuel x1 x2 x3 x4 k) g = D13 fuel x1 x2 x3 x4 fun t => ob (k t) g := by
  simp only [D13, ob_bif, ob_ob, ob_none, nl13v3]

theorem f13 {ρ : Type} (fuel : Nat) (x1 : Nat) (x2 : Nat → Nat → CV) (x3 : Nat) (x4 : Nat → Nat → CV) (k : (Int) → Option ρ) : D13 fuel x1 x2 x3 x4 k = ob (F13 fuel x1 x2 x3 x4) k := by
  unfold F13
  rw [n13]
  simp only [ob_some]

def s13v7 (x1 : Nat) (x2 : Nat → Nat → CV) (x3 : Nat) (x4 : Nat → Nat → CV) : St := ⟨[.agg [(.c (.ro false (.pr (.int .i64) (.pr (.int .i64) .nil)) x1 x2)), (.c (.ro false (.pr (.sl (.pr (.int .i64) (.pr (.int .i64) .nil))) .nil) x3 x4))], .x (.ptr 0 0), .u, .u, .undef, .undef, .undef, .undef, .undef, .u, .u, .u, .u, .u, .u, .u, .u, .u, .u, .u, .u, .u, .u, .x (.ptr 0 1), .x (.c (.ro false (.pr (.sl (.pr (.int .i64) (.pr (.int .i64) .nil))) .nil) x3 x4)), .x (.c (.i .i64 (Int.ofNat x3))), .x (.c (.i .i64 0)), .undef, .undef, .undef, .undef, .undef, .undef, .undef, .undef, .undef, .undef, .undef, .undef, .undef, .undef, .undef, .undef, .undef, .undef, .undef, .undef, .undef, .undef, .undef, .undef, .undef, .undef, .undef, .undef, .undef, .undef, .undef, .undef, .undef, .undef],
    [.box [(.c (.ro false (.pr (.int .i64) (.pr (.int .i64) .nil)) x1 x2)), (.c (.ro false (.pr (.sl (.pr (.int .i64) (.pr (.int .i64) .nil))) .nil) x3 x4))]]⟩

theorem walk13 (fuel : Nat) (x1 : Nat) (x2 : Nat → Nat → CV) (x3 : Nat) (x4 : Nat → Nat → CV) :
    evalF (C26 fuel) fuel A13 [.agg [(.ro false (.pr (.int .i64) (.pr (.int .i64) .nil)) x1 x2), (.ro false (.pr (.sl (.pr (.int .i64) (.pr (.int .i64) .nil))) .nil) x3 x4)]] =
    (bif (decide ((Int.ofNat x3) > 8)) then (some [.v (.i .i64 12)]) else (ob (F33 fuel x1 x2) fun x5 => (bif (x5 != 0) then (some [.v (.i .i64 x5)]) else (ob (F34 fuel x1 x2) fun x6 => (bif (decide (x6 ≤ 0)) then (some [.v (.i .i64 17)]) else (loopN (B13v3 (C26 fuel) fuel) N13v3 fuel (s13v7 x1 x2 x3 x4) (kBlk 0 (kSeq (C26 fuel) fuel [2, 4, 5, 6, 8, 23, 24, 25, 26, 27, 28, 29, 30, 31, 32, 33, 34, 35, 36, 37, 38, 39, 40, 41, 42, 43, 44, 45, 46, 47, 48, 49, 50, 51, 52, 53, 54, 55, 56, 57, 58, 59, 60] A13v9 (finish A13))))))))) := by kernel_rfl

theorem t13v4 (fuel : Nat) {ρ : Type} (k : Ex → St → Option ρ) (x1 : Nat) (x2 : Nat → Nat → CV) (x3 : Nat) (x4 : Nat → Nat → CV) :
    loopN (B13v3 (C26 fuel) fuel) N13v3 fuel (s13v7 x1 x2 x3 x4) k =
    L13v3 fuel x3 x4 (Int.ofNat x3) x1 x2 fuel 0 (fun x54 => k .ret (s13v4 x54 x1 x2 x3 x4)) (k (.exit 0) (s13v5 x1 x2 x3 x4)) :=
  (loopN_at (st' := (s13v3 x3 x4 (Int.ofNat x3) 0 x1 x2)) (by kernel_rfl)).trans (q13v3 fuel x3 x4 (Int.ofNat x3) x1 x2 k fuel 0)

theorem g13v5 (fuel : Nat) (x55 : Int) (x1 : Nat) (x2 : Nat → Nat → CV) (x3 : Nat) (x4 : Nat → Nat → CV) :
    (kBlk 0 (kSeq (C26 fuel) fuel [2, 4, 5, 6, 8, 23, 24, 25, 26, 27, 28, 29, 30, 31, 32, 33, 34, 35, 36, 37, 38, 39, 40, 41, 42, 43, 44, 45, 46, 47, 48, 49, 50, 51, 52, 53, 54, 55, 56, 57, 58, 59, 60] A13v9 (finish A13))) .ret (s13v4 x55 x1 x2 x3 x4) =
    (some [.v (.i .i64 x55)]) := by kernel_rfl

theorem g13v6 (fuel : Nat) (x1 : Nat) (x2 : Nat → Nat → CV) (x3 : Nat) (x4 : Nat → Nat → CV) :
    (kBlk 0 (kSeq (C26 fuel) fuel [2, 4, 5, 6, 8, 23, 24, 25, 26, 27, 28, 29, 30, 31, 32, 33, 34, 35, 36, 37, 38, 39, 40, 41, 42, 43, 44, 45, 46, 47, 48, 49, 50, 51, 52, 53, 54, 55, 56, 57, 58, 59, 60] A13v9 (finish A13))) (.exit 0) (s13v5 x1 x2 x3 x4) =
    (some [.v (.i .i64 0)]) := by kernel_rfl

theorem e13 (fuel : Nat) (x1 : Nat) (x2 : Nat → Nat → CV) (x3 : Nat) (x4 : Nat → Nat → CV) : evalF (C26 fuel) fuel A13 [.agg [(.ro false (.pr (.int .i64) (.pr (.int .i64) .nil)) x1 x2), (.ro false (.pr (.sl (.pr (.int .i64) (.pr (.int .i64) .nil))) .nil) x3 x4)]] = ob (F13 fuel x1 x2 x3 x4) fun t => some [.v (.i .i64 t)] := by
  rw [walk13, ← f13]
  simp only [D13, t13v4, g13v5, g13v6]

def O13 (fuel : Nat) : Ora where
  o := fun args {ρ} K =>
    wc args fun a1 l2 =>
    wagg a1 fun l3 =>
    wc l3 fun c4 l5 =>
    wL (.pr (.int .i64) (.pr (.int .i64) .nil)) c4 fun y6 y7 =>
    wc l5 fun c9 l10 =>
    wL (.pr (.sl (.pr (.int .i64) (.pr (.int .i64) .nil))) .nil) c9 fun y11 y12 =>
    wn l10 <|
    wn l2 <|
    (ob (F13 fuel y6 y7 y11 y12) fun t => K [.v (.i .i64 t)])
  nat := fun args {ρ} K => by
    simp only [bind_wc, bind_wn, bind_wv, bind_wagg, bind_wI, bind_wB, bind_wS, bind_wL, bind_wP, bind_wFn, bind_ob, Option.bind_some]

theorem d13 {P : Program} (fuel : Nat) (hmix : P.follows .mixedOrders = true) (hC : Sound P (C26 fuel)) (hF : FFits P 13 A13) (args res : List A) (h : (O13 fuel).o args some = some res) : Den P 13 args res := by
  obtain ⟨a1, l2, rfl, z0⟩ := inv_wc h
  obtain ⟨l3, rfl, z1⟩ := inv_wagg z0
  obtain ⟨c4, l5, rfl, z2⟩ := inv_wc z1
  obtain ⟨y6, y7, h8, z3⟩ := inv_wL z2
  obtain ⟨c9, l10, rfl, z4⟩ := inv_wc z3
  obtain ⟨y11, y12, h13, z5⟩ := inv_wL z4
  obtain ⟨hn, z6⟩ := inv_wn z5
  cases hn
  obtain ⟨hn, z7⟩ := inv_wn z6
  cases hn
  exact Den.weaken (.cons (WkA.agg (.cons h8 (.cons h13 .nil))) .nil) (evalF_sound hmix hC hF ((e13 fuel y6 y7 y11 y12).trans z7))

def C27 (fuel : Nat) : Oracle := (C26 fuel).add 13 (fun _ => true) (O13 fuel)

/-- shipyard/shipyardref12.Near -/
def A69 : AF := ⟨21, [.tmp 2],
  (.seq (.region 0 [
  ⟨(some 1), .box 0 34 (.tmp 0), none⟩,
  ⟨(some 2), .assign (.const (.bool false)), none⟩] 1 none) []
  (.seq (.region 1 [
  ⟨(some 3), .fieldAddr 34 (.tmp 1) 0 0, none⟩,
  ⟨(some 4), .load 3 none (.tmp 3), none⟩,
  ⟨(some 5), .binOp .geq 3 (.tmp 4) (.const (.int .i64 (-32768))) 3, none⟩,
  ⟨(some 6), .move (.tmp 5), none⟩,
  ⟨(some 7), .fieldAddr 34 (.tmp 1) 0 0, (some (6, true))⟩,
  ⟨(some 8), .load 3 none (.tmp 7), (some (6, true))⟩,
  ⟨(some 9), .binOp .leq 3 (.tmp 8) (.const (.int .i64 32768)) 3, (some (6, true))⟩,
  ⟨(some 10), .pick (.tmp 6) (.tmp 9) (.const (.bool false)), none⟩,
  ⟨(some 11), .move (.tmp 10), none⟩,
  ⟨(some 12), .fieldAddr 34 (.tmp 1) 1 1, (some (11, true))⟩,
  ⟨(some 13), .load 3 none (.tmp 12), (some (11, true))⟩,
  ⟨(some 14), .binOp .geq 3 (.tmp 13) (.const (.int .i64 (-32768))) 3, (some (11, true))⟩,
  ⟨(some 15), .pick (.tmp 11) (.tmp 14) (.const (.bool false)), none⟩,
  ⟨(some 16), .move (.tmp 15), none⟩,
  ⟨(some 17), .fieldAddr 34 (.tmp 1) 1 1, (some (16, true))⟩,
  ⟨(some 18), .load 3 none (.tmp 17), (some (16, true))⟩,
  ⟨(some 19), .binOp .leq 3 (.tmp 18) (.const (.int .i64 32768)) 3, (some (16, true))⟩,
  ⟨(some 20), .pick (.tmp 16) (.tmp 19) (.const (.bool false)), none⟩,
  ⟨(some 2), .assign (.tmp 20), none⟩] 0 none) []
  (.ret [0, 1, 3, 4, 5, 6, 7, 8, 9, 10, 11, 12, 13, 14, 15, 16, 17, 18, 19, 20])))⟩

def D69 {ρ : Type} (fuel : Nat) (x1 : Int) (x2 : Int) (k : Bool → Option ρ) : Option ρ :=
  (bif ((decide (x1 ≥ (-32768))) == true) then (bif ((decide (x1 ≤ 32768)) == true) then (bif ((decide (x2 ≥ (-32768))) == true) then (k (decide (x2 ≤ 32768))) else (k false)) else (k false)) else (k false))

def F69 (fuel : Nat) (x1 : Int) (x2 : Int) : Option (Bool) := D69 fuel x1 x2 some

theorem n69 {ρ σ : Type} (fuel : Nat) (x1 : Int) (x2 : Int) (k : (Bool) → Option ρ) (g : ρ → Option σ) : ob (D69 fuel x1 x2 k) g = D69 fuel x1 x2 fun t => ob (k t) g := by
  simp only [D69, ob_bif, ob_ob, ob_none]

theorem f69 {ρ : Type} (fuel : Nat) (x1 : Int) (x2 : Int) (k : (Bool) → Option ρ) : D69 fuel x1 x2 k = ob (F69 fuel x1 x2) k := by
  unfold F69
  rw [n69]
  simp only [ob_some]

theorem walk69 (fuel : Nat) (x1 : Int) (x2 : Int) :
    evalF (C27 fuel) fuel A69 [.agg [(.i .i64 x1), (.i .i64 x2)]] =
    (bif ((decide (x1 ≥ (-32768))) == true) then (bif ((decide (x1 ≤ 32768)) == true) then (bif ((decide (x2 ≥ (-32768))) == true) then (some [.v (.b (decide (x2 ≤ 32768)))]) else (some [.v (.b false)])) else (some [.v (.b false)])) else (some [.v (.b false)])) := by kernel_rfl

theorem e69 (fuel : Nat) (x1 : Int) (x2 : Int) : evalF (C27 fuel) fuel A69 [.agg [(.i .i64 x1), (.i .i64 x2)]] = ob (F69 fuel x1 x2) fun t => some [.v (.b t)] := by
  rw [walk69, ← f69]
  simp only [D69]

def O69 (fuel : Nat) : Ora where
  o := fun args {ρ} K =>
    wc args fun a1 l2 =>
    wagg a1 fun l3 =>
    wc l3 fun c4 l5 =>
    wI .i64 c4 fun y6 =>
    wc l5 fun c8 l9 =>
    wI .i64 c8 fun y10 =>
    wn l9 <|
    wn l2 <|
    (ob (F69 fuel y6 y10) fun t => K [.v (.b t)])
  nat := fun args {ρ} K => by
    simp only [bind_wc, bind_wn, bind_wv, bind_wagg, bind_wI, bind_wB, bind_wS, bind_wL, bind_wP, bind_wFn, bind_ob, Option.bind_some]

theorem d69 {P : Program} (fuel : Nat) (hmix : P.follows .mixedOrders = true) (hC : Sound P (C27 fuel)) (hF : FFits P 69 A69) (args res : List A) (h : (O69 fuel).o args some = some res) : Den P 69 args res := by
  obtain ⟨a1, l2, rfl, z0⟩ := inv_wc h
  obtain ⟨l3, rfl, z1⟩ := inv_wagg z0
  obtain ⟨c4, l5, rfl, z2⟩ := inv_wc z1
  obtain ⟨y6, h7, z3⟩ := inv_wI z2
  obtain ⟨c8, l9, rfl, z4⟩ := inv_wc z3
  obtain ⟨y10, h11, z5⟩ := inv_wI z4
  obtain ⟨hn, z6⟩ := inv_wn z5
  cases hn
  obtain ⟨hn, z7⟩ := inv_wn z6
  cases hn
  exact Den.weaken (.cons (WkA.agg (.cons (Wk.i h7) (.cons (Wk.i h11) .nil))) .nil) (evalF_sound hmix hC hF ((e69 fuel y6 y10).trans z7))

def C28 (fuel : Nat) : Oracle := (C27 fuel).add 69 (fun _ => true) (O69 fuel)

/-- shipyard/shipyardref12.near -/
def A66v1 : AC := (.region 3 [
  ⟨(some 8), .move (.tmp 3), none⟩,
  ⟨(some 9), .binOp .add 3 (.tmp 8) (.const (.int .i64 1)) 3, none⟩,
  ⟨(some 3), .assign (.tmp 9), none⟩] 0 none)
def A66v2 : AC := (.seq (.block 1
  (.seq (.region 4 [
    ⟨(some 10), .move (.tmp 0), none⟩,
    ⟨(some 11), .move (.tmp 3), none⟩,
    ⟨(some 12), .indexAddr 22 34 2 (.tmp 10) (.tmp 11), none⟩,
    ⟨(some 13), .load 34 (some 2) (.tmp 12), none⟩,
    ⟨(some 14), .call 69 [(.tmp 13)] [34] .snap, none⟩,
    ⟨(some 15), .unOp .not 4 (.tmp 14), none⟩] 0 none) []
    (.cond (.tmp 15)
    (.seq (.region 5 [
      ⟨(some 2), .assign (.const (.bool false)), none⟩] 0 none) []
      (.ret [0, 1, 3, 4, 5, 6, 7, 8, 9, 10, 11, 12, 13, 14, 15]))
    .skip))) [2, 10, 11, 12, 13, 14, 15]
  A66v1)
def A66v3 : AC := (.seq (.seq (.region 2 [
  ⟨(some 4), .move (.tmp 3), none⟩,
  ⟨(some 5), .move (.tmp 0), none⟩,
  ⟨(some 6), .len 22 false (.tmp 5), none⟩,
  ⟨(some 7), .binOp .lss 3 (.tmp 4) (.tmp 6) 3, none⟩] 0 none) []
  (.cond (.tmp 7)
  .skip
  (.exit 0 [0, 1, 2, 3, 4, 5, 6, 7, 8, 9, 10, 11, 12, 13, 14, 15]))) [4, 5, 6, 7]
  A66v2)
def A66v4 : AC := (.seq (.region 6 [
  ⟨(some 2), .assign (.const (.bool true)), none⟩] 0 none) []
  (.ret [0, 1, 3, 4, 5, 6, 7, 8, 9, 10, 11, 12, 13, 14, 15]))
def A66 : AF := ⟨16, [.tmp 2],
  (.seq (.region 0 [
  ⟨(some 2), .assign (.const (.bool false)), none⟩] 0 none) []
  (.seq (.seq (.region 1 [
  ⟨(some 3), .assign (.const (.int .i64 0)), none⟩] 0 none) []
  (.block 0
  (.loop [] [1, 2, 4, 5, 6, 7, 8, 9, 10, 11, 12, 13, 14, 15]
    A66v3))) [2, 3, 4, 5, 6, 7, 8, 9, 10, 11, 12, 13, 14, 15]
  A66v4))⟩

def B66v1 (C : Oracle) (fuel : Nat) {ρ : Type} : St → (Ex → St → Option ρ) → Option ρ := fun st k => evalC C fuel A66v3 st k
def N66v1 : St → Option St := fun s => s.norm [1, 2, 4, 5, 6, 7, 8, 9, 10, 11, 12, 13, 14, 15] 0

def s66v0 (x6 : Nat) (x7 : Nat → Nat → CV) (x8 : Int) : St := ⟨[.x (.c (.ro false (.pr (.int .i64) (.pr (.int .i64) .nil)) x6 x7)), .u, .u, .x (.c (.i .i64 x8)), .u, .u, .u, .u, .u, .u, .u, .u, .u, .u, .u, .u],
    []⟩

def s66v1 : St := ⟨[.u, .u, .x (.c (.b false)), .u, .u, .u, .u, .u, .u, .u, .u, .u, .u, .u, .u, .u],
    []⟩

def s66v2 : St := ⟨[.u, .u, .u, .u, .u, .u, .u, .u, .u, .u, .u, .u, .u, .u, .u, .u],
    []⟩

def L66v1 {ρ : Type} (fuel : Nat) (x6 : Nat) (x7 : Nat → Nat → CV) : Nat → Int → (Option ρ) → (Option ρ) → Option ρ
  | 0, _, _, _ => none
  | m + 1, x8, k0, k1 =>
    (bif (decide (x8 < (Int.ofNat x6))) then (bif (inb x8 x6) then (ob (F69 fuel (CV.int (x7 (Int.toNat x8) 0)) (CV.int (x7 (Int.toNat x8) 1))) fun x9 => (bif (!x9) then k0 else (L66v1 fuel x6 x7 m (w64 (x8 + 1)) k0 k1))) else none) else k1)

theorem nl66v1 {ρ σ : Type} (fuel : Nat) (x6 : Nat) (x7 : Nat → Nat → CV) (g : ρ → Option σ) : ∀ (m : Nat) (x8 : Int) (k0 : Option ρ) (k1 : Option ρ), ob (L66v1 fuel x6 x7 m x8 k0 k1) g = L66v1 fuel x6 x7 m x8 (ob k0 g) (ob k1 g)
  | 0, _, _, _ => rfl
  | m + 1, x8, k0, k1 => by
    simp only [L66v1, ob_bif, ob_ob, ob_none, nl66v1 fuel x6 x7 g m]

theorem r66v1 (fuel : Nat) (m : Nat) {ρ : Type} (k : Ex → St → Option ρ) (x6 : Nat) (x7 : Nat → Nat → CV) (x8 : Int) :
    loopH (B66v1 (C28 fuel) fuel) N66v1 (m + 1) (s66v0 x6 x7 x8) k =
    (bif (decide (x8 < (Int.ofNat x6))) then (bif (inb x8 x6) then (ob (F69 fuel (CV.int (x7 (Int.toNat x8) 0)) (CV.int (x7 (Int.toNat x8) 1))) fun x9 => (bif (!x9) then (k .ret s66v1) else (loopH (B66v1 (C28 fuel) fuel) N66v1 m (s66v0 x6 x7 (w64 (x8 + 1))) k))) else none) else (k (.exit 0) s66v2)) := by kernel_rfl

theorem q66v1 (fuel : Nat) (x6 : Nat) (x7 : Nat → Nat → CV) {ρ : Type} (k : Ex → St → Option ρ) : ∀ (m : Nat) (x8 : Int),
    loopH (B66v1 (C28 fuel) fuel) N66v1 m (s66v0 x6 x7 x8) k = L66v1 fuel x6 x7 m x8 (k .ret s66v1) (k (.exit 0) s66v2)
  | 0, _ => rfl
  | m + 1, x8 => by
    rw [r66v1]
    simp only [L66v1, q66v1 fuel x6 x7 k m]

def D66 {ρ : Type} (fuel : Nat) (x1 : Nat) (x2 : Nat → Nat → CV) (k : Bool → Option ρ) : Option ρ :=
  (L66v1 fuel x1 x2 fuel 0
    (k false)
    (k true))

def F66 (fuel : Nat) (x1 : Nat) (x2 : Nat → Nat → CV) : Option (Bool) := D66 fuel x1 x2 some

theorem n66 {ρ σ : Type} (fuel : Nat) (x1 : Nat) (x2 : Nat → Nat → CV) (k : (Bool) → Option ρ) (g : ρ → Option σ) : ob (D66 fuel x1 x2 k) g = D66 fuel x1 x2 fun t => ob (k t) g := by
  simp only [D66, ob_bif, ob_ob, ob_none, nl66v1]

theorem f66 {ρ : Type} (fuel : Nat) (x1 : Nat) (x2 : Nat → Nat → CV) (k : (Bool) → Option ρ) : D66 fuel x1 x2 k = ob (F66 fuel x1 x2) k := by
  unfold F66
  rw [n66]
  simp only [ob_some]

def s66v3 (x1 : Nat) (x2 : Nat → Nat → CV) : St := ⟨[.x (.c (.ro false (.pr (.int .i64) (.pr (.int .i64) .nil)) x1 x2)), .undef, .x (.c (.b false)), .x (.c (.i .i64 0)), .undef, .undef, .undef, .undef, .undef, .undef, .undef, .undef, .undef, .undef, .undef, .undef],
    []⟩

theorem walk66 (fuel : Nat) (x1 : Nat) (x2 : Nat → Nat → CV) :
    evalF (C28 fuel) fuel A66 [.v (.ro false (.pr (.int .i64) (.pr (.int .i64) .nil)) x1 x2)] =
    (loopN (B66v1 (C28 fuel) fuel) N66v1 fuel (s66v3 x1 x2) (kBlk 0 (kSeq (C28 fuel) fuel [2, 3, 4, 5, 6, 7, 8, 9, 10, 11, 12, 13, 14, 15] A66v4 (finish A66)))) := by kernel_rfl

theorem t66v1 (fuel : Nat) {ρ : Type} (k : Ex → St → Option ρ) (x1 : Nat) (x2 : Nat → Nat → CV) :
    loopN (B66v1 (C28 fuel) fuel) N66v1 fuel (s66v3 x1 x2) k =
    L66v1 fuel x1 x2 fuel 0 (k .ret s66v1) (k (.exit 0) s66v2) :=
  (loopN_at (st' := (s66v0 x1 x2 0)) (by kernel_rfl)).trans (q66v1 fuel x1 x2 k fuel 0)

theorem g66v2 (fuel : Nat) :
    (kBlk 0 (kSeq (C28 fuel) fuel [2, 3, 4, 5, 6, 7, 8, 9, 10, 11, 12, 13, 14, 15] A66v4 (finish A66))) .ret s66v1 =
    (some [.v (.b false)]) := by kernel_rfl

theorem g66v3 (fuel : Nat) :
    (kBlk 0 (kSeq (C28 fuel) fuel [2, 3, 4, 5, 6, 7, 8, 9, 10, 11, 12, 13, 14, 15] A66v4 (finish A66))) (.exit 0) s66v2 =
    (some [.v (.b true)]) := by kernel_rfl

theorem e66 (fuel : Nat) (x1 : Nat) (x2 : Nat → Nat → CV) : evalF (C28 fuel) fuel A66 [.v (.ro false (.pr (.int .i64) (.pr (.int .i64) .nil)) x1 x2)] = ob (F66 fuel x1 x2) fun t => some [.v (.b t)] := by
  rw [walk66, ← f66]
  simp only [D66, t66v1, g66v2, g66v3]

def O66 (fuel : Nat) : Ora where
  o := fun args {ρ} K =>
    wc args fun a1 l2 =>
    wv a1 fun c3 =>
    wL (.pr (.int .i64) (.pr (.int .i64) .nil)) c3 fun y4 y5 =>
    wn l2 <|
    (ob (F66 fuel y4 y5) fun t => K [.v (.b t)])
  nat := fun args {ρ} K => by
    simp only [bind_wc, bind_wn, bind_wv, bind_wagg, bind_wI, bind_wB, bind_wS, bind_wL, bind_wP, bind_wFn, bind_ob, Option.bind_some]

theorem d66 {P : Program} (fuel : Nat) (hmix : P.follows .mixedOrders = true) (hC : Sound P (C28 fuel)) (hF : FFits P 66 A66) (args res : List A) (h : (O66 fuel).o args some = some res) : Den P 66 args res := by
  obtain ⟨a1, l2, rfl, z0⟩ := inv_wc h
  obtain ⟨c3, rfl, z1⟩ := inv_wv z0
  obtain ⟨y4, y5, h6, z2⟩ := inv_wL z1
  obtain ⟨hn, z3⟩ := inv_wn z2
  cases hn
  exact Den.weaken (.cons (WkA.v h6) .nil) (evalF_sound hmix hC hF ((e66 fuel y4 y5).trans z3))

def C29 (fuel : Nat) : Oracle := (C28 fuel).add 66 (fun _ => true) (O66 fuel)

/-- shipyard/shipyardref12.Turn -/
def A71 : AF := ⟨30, [.tmp 6],
  (.seq (.region 0 [
  ⟨(some 3), .box 0 34 (.tmp 0), none⟩,
  ⟨(some 4), .box 1 34 (.tmp 1), none⟩,
  ⟨(some 5), .box 2 34 (.tmp 2), none⟩,
  ⟨(some 6), .assign (.const (.int .i64 0)), none⟩] 3 none) []
  (.seq (.region 1 [
  ⟨(some 7), .fieldAddr 34 (.tmp 4) 0 0, none⟩,
  ⟨(some 8), .load 3 none (.tmp 7), none⟩,
  ⟨(some 9), .fieldAddr 34 (.tmp 3) 0 0, none⟩,
  ⟨(some 10), .load 3 none (.tmp 9), none⟩,
  ⟨(some 11), .binOp .sub 3 (.tmp 8) (.tmp 10) 3, none⟩,
  ⟨(some 12), .fieldAddr 34 (.tmp 5) 1 1, none⟩,
  ⟨(some 13), .load 3 none (.tmp 12), none⟩,
  ⟨(some 14), .fieldAddr 34 (.tmp 3) 1 1, none⟩,
  ⟨(some 15), .load 3 none (.tmp 14), none⟩,
  ⟨(some 16), .binOp .sub 3 (.tmp 13) (.tmp 15) 3, none⟩,
  ⟨(some 17), .binOp .mul 3 (.tmp 11) (.tmp 16) 3, none⟩,
  ⟨(some 18), .fieldAddr 34 (.tmp 4) 1 1, none⟩,
  ⟨(some 19), .load 3 none (.tmp 18), none⟩,
  ⟨(some 20), .fieldAddr 34 (.tmp 3) 1 1, none⟩,
  ⟨(some 21), .load 3 none (.tmp 20), none⟩,
  ⟨(some 22), .binOp .sub 3 (.tmp 19) (.tmp 21) 3, none⟩,
  ⟨(some 23), .fieldAddr 34 (.tmp 5) 0 0, none⟩,
  ⟨(some 24), .load 3 none (.tmp 23), none⟩,
  ⟨(some 25), .fieldAddr 34 (.tmp 3) 0 0, none⟩,
  ⟨(some 26), .load 3 none (.tmp 25), none⟩,
  ⟨(some 27), .binOp .sub 3 (.tmp 24) (.tmp 26) 3, none⟩,
  ⟨(some 28), .binOp .mul 3 (.tmp 22) (.tmp 27) 3, none⟩,
  ⟨(some 29), .binOp .sub 3 (.tmp 17) (.tmp 28) 3, none⟩,
  ⟨(some 6), .assign (.tmp 29), none⟩] 0 none) []
  (.ret [0, 1, 2, 3, 4, 5, 7, 8, 9, 10, 11, 12, 13, 14, 15, 16, 17, 18, 19, 20, 21, 22, 23, 24, 25, 26, 27, 28, 29])))⟩

def D71 {ρ : Type} (fuel : Nat) (x1 : Int) (x2 : Int) (x3 : Int) (x4 : Int) (x5 : Int) (x6 : Int) (k : Int → Option ρ) : Option ρ :=
  (k (w64 ((w64 ((w64 (x3 - x1)) * (w64 (x6 - x2)))) - (w64 ((w64 (x4 - x2)) * (w64 (x5 - x1)))))))

def F71 (fuel : Nat) (x1 : Int) (x2 : Int) (x3 : Int) (x4 : Int) (x5 : Int) (x6 : Int) : Option (Int) := D71 fuel x1 x2 x3 x4 x5 x6 some

theorem n71 {ρ σ : Type} (fuel : Nat) (x1 : Int) (x2 : Int) (x3 : Int) (x4 : Int) (x5 : Int) (x6 : Int) (k : (Int) → Option ρ) (g : ρ → Option σ) : ob (D71 fuel x1 x2 x3 x4 x5 x6 k) g = D71 fuel x1 x2 x3 x4 x5 x6 fun t => ob (k t) g := by
  simp only [D71, ob_bif, ob_ob, ob_none]

theorem f71 {ρ : Type} (fuel : Nat) (x1 : Int) (x2 : Int) (x3 : Int) (x4 : Int) (x5 : Int) (x6 : Int) (k : (Int) → Option ρ) : D71 fuel x1 x2 x3 x4 x5 x6 k = ob (F71 fuel x1 x2 x3 x4 x5 x6) k := by
  unfold F71
  rw [n71]
  simp only [ob_some]

theorem walk71 (fuel : Nat) (x1 : Int) (x2 : Int) (x3 : Int) (x4 : Int) (x5 : Int) (x6 : Int) :
    evalF (C29 fuel) fuel A71 [.agg [(.i .i64 x1), (.i .i64 x2)], .agg [(.i .i64 x3), (.i .i64 x4)], .agg [(.i .i64 x5), (.i .i64 x6)]] =
    (some [.v (.i .i64 (w64 ((w64 ((w64 (x3 - x1)) * (w64 (x6 - x2)))) - (w64 ((w64 (x4 - x2)) * (w64 (x5 - x1)))))))]) := by kernel_rfl

theorem e71 (fuel : Nat) (x1 : Int) (x2 : Int) (x3 : Int) (x4 : Int) (x5 : Int) (x6 : Int) : evalF (C29 fuel) fuel A71 [.agg [(.i .i64 x1), (.i .i64 x2)], .agg [(.i .i64 x3), (.i .i64 x4)], .agg [(.i .i64 x5), (.i .i64 x6)]] = ob (F71 fuel x1 x2 x3 x4 x5 x6) fun t => some [.v (.i .i64 t)] := by
  rw [walk71, ← f71]
  simp only [D71]

def O71 (fuel : Nat) : Ora where
  o := fun args {ρ} K =>
    wc args fun a1 l2 =>
    wagg a1 fun l3 =>
    wc l3 fun c4 l5 =>
    wI .i64 c4 fun y6 =>
    wc l5 fun c8 l9 =>
    wI .i64 c8 fun y10 =>
    wn l9 <|
    wc l2 fun a12 l13 =>
    wagg a12 fun l14 =>
    wc l14 fun c15 l16 =>
    wI .i64 c15 fun y17 =>
    wc l16 fun c19 l20 =>
    wI .i64 c19 fun y21 =>
    wn l20 <|
    wc l13 fun a23 l24 =>
    wagg a23 fun l25 =>
    wc l25 fun c26 l27 =>
    wI .i64 c26 fun y28 =>
    wc l27 fun c30 l31 =>
    wI .i64 c30 fun y32 =>
    wn l31 <|
    wn l24 <|
    (ob (F71 fuel y6 y10 y17 y21 y28 y32) fun t => K [.v (.i .i64 t)])
  nat := fun args {ρ} K => by
    simp only [bind_wc, bind_wn, bind_wv, bind_wagg, bind_wI, bind_wB, bind_wS, bind_wL, bind_wP, bind_wFn, bind_ob, Option.bind_some]

theorem d71 {P : Program} (fuel : Nat) (hmix : P.follows .mixedOrders = true) (hC : Sound P (C29 fuel)) (hF : FFits P 71 A71) (args res : List A) (h : (O71 fuel).o args some = some res) : Den P 71 args res := by
  obtain ⟨a1, l2, rfl, z0⟩ := inv_wc h
  obtain ⟨l3, rfl, z1⟩ := inv_wagg z0
  obtain ⟨c4, l5, rfl, z2⟩ := inv_wc z1
  obtain ⟨y6, h7, z3⟩ := inv_wI z2
  obtain ⟨c8, l9, rfl, z4⟩ := inv_wc z3
  obtain ⟨y10, h11, z5⟩ := inv_wI z4
  obtain ⟨hn, z6⟩ := inv_wn z5
  cases hn
  obtain ⟨a12, l13, rfl, z7⟩ := inv_wc z6
  obtain ⟨l14, rfl, z8⟩ := inv_wagg z7
  obtain ⟨c15, l16, rfl, z9⟩ := inv_wc z8
  obtain ⟨y17, h18, z10⟩ := inv_wI z9
  obtain ⟨c19, l20, rfl, z11⟩ := inv_wc z10
  obtain ⟨y21, h22, z12⟩ := inv_wI z11
  obtain ⟨hn, z13⟩ := inv_wn z12
  cases hn
  obtain ⟨a23, l24, rfl, z14⟩ := inv_wc z13
  obtain ⟨l25, rfl, z15⟩ := inv_wagg z14
  obtain ⟨c26, l27, rfl, z16⟩ := inv_wc z15
  obtain ⟨y28, h29, z17⟩ := inv_wI z16
  obtain ⟨c30, l31, rfl, z18⟩ := inv_wc z17
  obtain ⟨y32, h33, z19⟩ := inv_wI z18
  obtain ⟨hn, z20⟩ := inv_wn z19
  cases hn
  obtain ⟨hn, z21⟩ := inv_wn z20
  cases hn
  exact Den.weaken (.cons (WkA.agg (.cons (Wk.i h7) (.cons (Wk.i h11) .nil))) (.cons (WkA.agg (.cons (Wk.i h18) (.cons (Wk.i h22) .nil))) (.cons (WkA.agg (.cons (Wk.i h29) (.cons (Wk.i h33) .nil))) .nil))) (evalF_sound hmix hC hF ((e71 fuel y6 y10 y17 y21 y28 y32).trans z21))

def C30 (fuel : Nat) : Oracle := (C29 fuel).add 71 (fun _ => true) (O71 fuel)

/-- shipyard/shipyardref12.On -/
def A70 : AF := ⟨52, [.tmp 6],
  (.seq (.region 0 [
  ⟨(some 3), .box 0 34 (.tmp 0), none⟩,
  ⟨(some 4), .box 1 34 (.tmp 1), none⟩,
  ⟨(some 5), .box 2 34 (.tmp 2), none⟩,
  ⟨(some 6), .assign (.const (.bool false)), none⟩] 3 none) []
  (.seq (.region 1 [
  ⟨(some 7), .load 34 (some 2) (.tmp 4), none⟩,
  ⟨(some 8), .load 34 (some 2) (.tmp 5), none⟩,
  ⟨(some 9), .load 34 (some 2) (.tmp 3), none⟩,
  ⟨(some 10), .call 71 [(.tmp 7), (.tmp 8), (.tmp 9)] [34, 34, 34] .snap, none⟩,
  ⟨(some 11), .binOp .eql 3 (.tmp 10) (.const (.int .i64 0)) 3, none⟩,
  ⟨(some 12), .move (.tmp 11), none⟩,
  ⟨(some 13), .fieldAddr 34 (.tmp 4) 0 0, (some (12, true))⟩,
  ⟨(some 14), .load 3 none (.tmp 13), (some (12, true))⟩,
  ⟨(some 15), .fieldAddr 34 (.tmp 5) 0 0, (some (12, true))⟩,
  ⟨(some 16), .load 3 none (.tmp 15), (some (12, true))⟩,
  ⟨(some 17), .mm false [(.tmp 14), (.tmp 16)] [3, 3], (some (12, true))⟩,
  ⟨(some 18), .fieldAddr 34 (.tmp 3) 0 0, (some (12, true))⟩,
  ⟨(some 19), .load 3 none (.tmp 18), (some (12, true))⟩,
  ⟨(some 20), .binOp .leq 3 (.tmp 17) (.tmp 19) 3, (some (12, true))⟩,
  ⟨(some 21), .pick (.tmp 12) (.tmp 20) (.const (.bool false)), none⟩,
  ⟨(some 22), .move (.tmp 21), none⟩,
  ⟨(some 23), .fieldAddr 34 (.tmp 3) 0 0, (some (22, true))⟩,
  ⟨(some 24), .load 3 none (.tmp 23), (some (22, true))⟩,
  ⟨(some 25), .fieldAddr 34 (.tmp 4) 0 0, (some (22, true))⟩,
  ⟨(some 26), .load 3 none (.tmp 25), (some (22, true))⟩,
  ⟨(some 27), .fieldAddr 34 (.tmp 5) 0 0, (some (22, true))⟩,
  ⟨(some 28), .load 3 none (.tmp 27), (some (22, true))⟩,
  ⟨(some 29), .mm true [(.tmp 26), (.tmp 28)] [3, 3], (some (22, true))⟩,
  ⟨(some 30), .binOp .leq 3 (.tmp 24) (.tmp 29) 3, (some (22, true))⟩,
  ⟨(some 31), .pick (.tmp 22) (.tmp 30) (.const (.bool false)), none⟩,
  ⟨(some 32), .move (.tmp 31), none⟩,
  ⟨(some 33), .fieldAddr 34 (.tmp 4) 1 1, (some (32, true))⟩,
  ⟨(some 34), .load 3 none (.tmp 33), (some (32, true))⟩,
  ⟨(some 35), .fieldAddr 34 (.tmp 5) 1 1, (some (32, true))⟩,
  ⟨(some 36), .load 3 none (.tmp 35), (some (32, true))⟩,
  ⟨(some 37), .mm false [(.tmp 34), (.tmp 36)] [3, 3], (some (32, true))⟩,
  ⟨(some 38), .fieldAddr 34 (.tmp 3) 1 1, (some (32, true))⟩,
  ⟨(some 39), .load 3 none (.tmp 38), (some (32, true))⟩,
  ⟨(some 40), .binOp .leq 3 (.tmp 37) (.tmp 39) 3, (some (32, true))⟩,
  ⟨(some 41), .pick (.tmp 32) (.tmp 40) (.const (.bool false)), none⟩,
  ⟨(some 42), .move (.tmp 41), none⟩,
  ⟨(some 43), .fieldAddr 34 (.tmp 3) 1 1, (some (42, true))⟩,
  ⟨(some 44), .load 3 none (.tmp 43), (some (42, true))⟩,
  ⟨(some 45), .fieldAddr 34 (.tmp 4) 1 1, (some (42, true))⟩,
  ⟨(some 46), .load 3 none (.tmp 45), (some (42, true))⟩,
  ⟨(some 47), .fieldAddr 34 (.tmp 5) 1 1, (some (42, true))⟩,
  ⟨(some 48), .load 3 none (.tmp 47), (some (42, true))⟩,
  ⟨(some 49), .mm true [(.tmp 46), (.tmp 48)] [3, 3], (some (42, true))⟩,
  ⟨(some 50), .binOp .leq 3 (.tmp 44) (.tmp 49) 3, (some (42, true))⟩,
  ⟨(some 51), .pick (.tmp 42) (.tmp 50) (.const (.bool false)), none⟩,
  ⟨(some 6), .assign (.tmp 51), none⟩] 0 none) []
  (.ret [0, 1, 2, 3, 4, 5, 7, 8, 9, 10, 11, 12, 13, 14, 15, 16, 17, 18, 19, 20, 21, 22, 23, 24, 25, 26, 27, 28, 29, 30, 31, 32, 33, 34, 35, 36, 37, 38, 39, 40, 41, 42, 43, 44, 45, 46, 47, 48, 49, 50, 51])))⟩

def D70 {ρ : Type} (fuel : Nat) (x1 : Int) (x2 : Int) (x3 : Int) (x4 : Int) (x5 : Int) (x6 : Int) (k : Bool → Option ρ) : Option ρ :=
  (ob (F71 fuel x3 x4 x5 x6 x1 x2) fun x7 => (bif ((x7 == 0) == true) then (bif ((decide ((if x5 < x3 then x5 else x3) ≤ x1)) == true) then (bif ((decide (x1 ≤ (if x5 > x3 then x5 else x3))) == true) then (bif ((decide ((if x6 < x4 then x6 else x4) ≤ x2)) == true) then (k (decide (x2 ≤ (if x6 > x4 then x6 else x4)))) else (k false)) else (k false)) else (k false)) else (k false)))

def F70 (fuel : Nat) (x1 : Int) (x2 : Int) (x3 : Int) (x4 : Int) (x5 : Int) (x6 : Int) : Option (Bool) := D70 fuel x1 x2 x3 x4 x5 x6 some

theorem n70 {ρ σ : Type} (fuel : Nat) (x1 : Int) (x2 : Int) (x3 : Int) (x4 : Int) (x5 : Int) (x6 : Int) (k : (Bool) → Option ρ) (g : ρ → Option σ) : ob (D70 fuel x1 x2 x3 x4 x5 x6 k) g = D70 fuel x1 x2 x3 x4 x5 x6 fun t => ob (k t) g := by
  simp only [D70, ob_bif, ob_ob, ob_none]

theorem f70 {ρ : Type} (fuel : Nat) (x1 : Int) (x2 : Int) (x3 : Int) (x4 : Int) (x5 : Int) (x6 : Int) (k : (Bool) → Option ρ) : D70 fuel x1 x2 x3 x4 x5 x6 k = ob (F70 fuel x1 x2 x3 x4 x5 x6) k := by
  unfold F70
  rw [n70]
  simp only [ob_some]

theorem walk70 (fuel : Nat) (x1 : Int) (x2 : Int) (x3 : Int) (x4 : Int) (x5 : Int) (x6 : Int) :
    evalF (C30 fuel) fuel A70 [.agg [(.i .i64 x1), (.i .i64 x2)], .agg [(.i .i64 x3), (.i .i64 x4)], .agg [(.i .i64 x5), (.i .i64 x6)]] =
    (ob (F71 fuel x3 x4 x5 x6 x1 x2) fun x7 => (bif ((x7 == 0) == true) then (bif ((decide ((if x5 < x3 then x5 else x3) ≤ x1)) == true) then (bif ((decide (x1 ≤ (if x5 > x3 then x5 else x3))) == true) then (bif ((decide ((if x6 < x4 then x6 else x4) ≤ x2)) == true) then (some [.v (.b (decide (x2 ≤ (if x6 > x4 then x6 else x4))))]) else (some [.v (.b false)])) else (some [.v (.b false)])) else (some [.v (.b false)])) else (some [.v (.b false)]))) := by kernel_rfl

theorem e70 (fuel : Nat) (x1 : Int) (x2 : Int) (x3 : Int) (x4 : Int) (x5 : Int) (x6 : Int) : evalF (C30 fuel) fuel A70 [.agg [(.i .i64 x1), (.i .i64 x2)], .agg [(.i .i64 x3), (.i .i64 x4)], .agg [(.i .i64 x5), (.i .i64 x6)]] = ob (F70 fuel x1 x2 x3 x4 x5 x6) fun t => some [.v (.b t)] := by
  rw [walk70, ← f70]
  simp only [D70]

def O70 (fuel : Nat) : Ora where
  o := fun args {ρ} K =>
    wc args fun a1 l2 =>
    wagg a1 fun l3 =>
    wc l3 fun c4 l5 =>
    wI .i64 c4 fun y6 =>
    wc l5 fun c8 l9 =>
    wI .i64 c8 fun y10 =>
    wn l9 <|
    wc l2 fun a12 l13 =>
    wagg a12 fun l14 =>
    wc l14 fun c15 l16 =>
    wI .i64 c15 fun y17 =>
    wc l16 fun c19 l20 =>
    wI .i64 c19 fun y21 =>
    wn l20 <|
    wc l13 fun a23 l24 =>
    wagg a23 fun l25 =>
    wc l25 fun c26 l27 =>
    wI .i64 c26 fun y28 =>
    wc l27 fun c30 l31 =>
    wI .i64 c30 fun y32 =>
    wn l31 <|
    wn l24 <|
    (ob (F70 fuel y6 y10 y17 y21 y28 y32) fun t => K [.v (.b t)])
  nat := fun args {ρ} K => by
    simp only [bind_wc, bind_wn, bind_wv, bind_wagg, bind_wI, bind_wB, bind_wS, bind_wL, bind_wP, bind_wFn, bind_ob, Option.bind_some]

theorem d70 {P : Program} (fuel : Nat) (hmix : P.follows .mixedOrders = true) (hC : Sound P (C30 fuel)) (hF : FFits P 70 A70) (args res : List A) (h : (O70 fuel).o args some = some res) : Den P 70 args res := by
  obtain ⟨a1, l2, rfl, z0⟩ := inv_wc h
  obtain ⟨l3, rfl, z1⟩ := inv_wagg z0
  obtain ⟨c4, l5, rfl, z2⟩ := inv_wc z1
  obtain ⟨y6, h7, z3⟩ := inv_wI z2
  obtain ⟨c8, l9, rfl, z4⟩ := inv_wc z3
  obtain ⟨y10, h11, z5⟩ := inv_wI z4
  obtain ⟨hn, z6⟩ := inv_wn z5
  cases hn
  obtain ⟨a12, l13, rfl, z7⟩ := inv_wc z6
  obtain ⟨l14, rfl, z8⟩ := inv_wagg z7
  obtain ⟨c15, l16, rfl, z9⟩ := inv_wc z8
  obtain ⟨y17, h18, z10⟩ := inv_wI z9
  obtain ⟨c19, l20, rfl, z11⟩ := inv_wc z10
  obtain ⟨y21, h22, z12⟩ := inv_wI z11
  obtain ⟨hn, z13⟩ := inv_wn z12
  cases hn
  obtain ⟨a23, l24, rfl, z14⟩ := inv_wc z13
  obtain ⟨l25, rfl, z15⟩ := inv_wagg z14
  obtain ⟨c26, l27, rfl, z16⟩ := inv_wc z15
  obtain ⟨y28, h29, z17⟩ := inv_wI z16
  obtain ⟨c30, l31, rfl, z18⟩ := inv_wc z17
  obtain ⟨y32, h33, z19⟩ := inv_wI z18
  obtain ⟨hn, z20⟩ := inv_wn z19
  cases hn
  obtain ⟨hn, z21⟩ := inv_wn z20
  cases hn
  exact Den.weaken (.cons (WkA.agg (.cons (Wk.i h7) (.cons (Wk.i h11) .nil))) (.cons (WkA.agg (.cons (Wk.i h18) (.cons (Wk.i h22) .nil))) (.cons (WkA.agg (.cons (Wk.i h29) (.cons (Wk.i h33) .nil))) .nil))) (evalF_sound hmix hC hF ((e70 fuel y6 y10 y17 y21 y28 y32).trans z21))

def C31 (fuel : Nat) : Oracle := (C30 fuel).add 70 (fun _ => true) (O70 fuel)

/-- shipyard/shipyardref12.sign -/
def A88v1 : AC := (.seq (.region 5 [
  ⟨(some 2), .assign (.const (.int .i64 0)), none⟩] 0 none) []
  (.ret [0, 1, 3, 4, 5, 6, 7, 8]))
def A88 : AF := ⟨9, [.tmp 2],
  (.seq (.region 0 [
  ⟨(some 2), .assign (.const (.int .i64 0)), none⟩] 0 none) []
  (.seq (.block 0
  (.seq (.region 1 [
    ⟨(some 4), .move (.tmp 0), none⟩,
    ⟨(some 5), .binOp .lss 3 (.tmp 4) (.const (.int .i64 0)) 3, none⟩,
    ⟨(some 3), .assign (.tmp 5), none⟩] 0 none) []
    (.cond (.tmp 3)
    (.seq (.region 2 [
      ⟨(some 2), .assign (.const (.int .i64 (-1))), none⟩] 0 none) []
      (.ret [0, 1, 3, 4, 5, 6, 7, 8]))
    (.seq (.region 3 [
      ⟨(some 7), .move (.tmp 0), none⟩,
      ⟨(some 8), .binOp .gtr 3 (.tmp 7) (.const (.int .i64 0)) 3, none⟩,
      ⟨(some 6), .assign (.tmp 8), none⟩] 0 none) []
      (.cond (.tmp 6)
      (.seq (.region 4 [
        ⟨(some 2), .assign (.const (.int .i64 1)), none⟩] 0 none) []
        (.ret [0, 1, 3, 4, 5, 6, 7, 8]))
      .skip))))) [2, 3, 4, 5, 6, 7, 8]
  A88v1))⟩

def D88 {ρ : Type} (fuel : Nat) (x1 : Int) (k : Int → Option ρ) : Option ρ :=
  (bif (decide (x1 < 0)) then (k (-1)) else (bif (decide (x1 > 0)) then (k 1) else (k 0)))

def F88 (fuel : Nat) (x1 : Int) : Option (Int) := D88 fuel x1 some

theorem n88 {ρ σ : Type} (fuel : Nat) (x1 : Int) (k : (Int) → Option ρ) (g : ρ → Option σ) : ob (D88 fuel x1 k) g = D88 fuel x1 fun t => ob (k t) g := by
  simp only [D88, ob_bif, ob_ob, ob_none]

theorem f88 {ρ : Type} (fuel : Nat) (x1 : Int) (k : (Int) → Option ρ) : D88 fuel x1 k = ob (F88 fuel x1) k := by
  unfold F88
  rw [n88]
  simp only [ob_some]

theorem walk88 (fuel : Nat) (x1 : Int) :
    evalF (C31 fuel) fuel A88 [.v (.i .i64 x1)] =
    (bif (decide (x1 < 0)) then (some [.v (.i .i64 (-1))]) else (bif (decide (x1 > 0)) then (some [.v (.i .i64 1)]) else (some [.v (.i .i64 0)]))) := by kernel_rfl

theorem e88 (fuel : Nat) (x1 : Int) : evalF (C31 fuel) fuel A88 [.v (.i .i64 x1)] = ob (F88 fuel x1) fun t => some [.v (.i .i64 t)] := by
  rw [walk88, ← f88]
  simp only [D88]

def O88 (fuel : Nat) : Ora where
  o := fun args {ρ} K =>
    wc args fun a1 l2 =>
    wv a1 fun c3 =>
    wI .i64 c3 fun y4 =>
    wn l2 <|
    (ob (F88 fuel y4) fun t => K [.v (.i .i64 t)])
  nat := fun args {ρ} K => by
    simp only [bind_wc, bind_wn, bind_wv, bind_wagg, bind_wI, bind_wB, bind_wS, bind_wL, bind_wP, bind_wFn, bind_ob, Option.bind_some]

theorem d88 {P : Program} (fuel : Nat) (hmix : P.follows .mixedOrders = true) (hC : Sound P (C31 fuel)) (hF : FFits P 88 A88) (args res : List A) (h : (O88 fuel).o args some = some res) : Den P 88 args res := by
  obtain ⟨a1, l2, rfl, z0⟩ := inv_wc h
  obtain ⟨c3, rfl, z1⟩ := inv_wv z0
  obtain ⟨y4, h5, z2⟩ := inv_wI z1
  obtain ⟨hn, z3⟩ := inv_wn z2
  cases hn
  exact Den.weaken (.cons (WkA.v (Wk.i h5)) .nil) (evalF_sound hmix hC hF ((e88 fuel y4).trans z3))

def C32 (fuel : Nat) : Oracle := (C31 fuel).add 88 (fun _ => true) (O88 fuel)

/-- shipyard/shipyardref12.Meet -/
def A82v1 : AC := (.seq (.region 3 [
  ⟨(some 31), .load 34 (some 2) (.tmp 4), none⟩,
  ⟨(some 32), .load 34 (some 2) (.tmp 5), none⟩,
  ⟨(some 33), .load 34 (some 2) (.tmp 6), none⟩,
  ⟨(some 34), .call 71 [(.tmp 31), (.tmp 32), (.tmp 33)] [34, 34, 34] .snap, none⟩,
  ⟨(some 35), .call 88 [(.tmp 34)] [3] .snap, none⟩,
  ⟨(some 36), .load 34 (some 2) (.tmp 4), none⟩,
  ⟨(some 37), .load 34 (some 2) (.tmp 5), none⟩,
  ⟨(some 38), .load 34 (some 2) (.tmp 7), none⟩,
  ⟨(some 39), .call 71 [(.tmp 36), (.tmp 37), (.tmp 38)] [34, 34, 34] .snap, none⟩,
  ⟨(some 40), .call 88 [(.tmp 39)] [3] .snap, none⟩,
  ⟨(some 41), .binOp .mul 3 (.tmp 35) (.tmp 40) 3, none⟩,
  ⟨(some 42), .binOp .lss 3 (.tmp 41) (.const (.int .i64 0)) 3, none⟩,
  ⟨(some 43), .move (.tmp 42), none⟩,
  ⟨(some 44), .load 34 (some 2) (.tmp 6), (some (43, true))⟩,
  ⟨(some 45), .load 34 (some 2) (.tmp 7), (some (43, true))⟩,
  ⟨(some 46), .load 34 (some 2) (.tmp 4), (some (43, true))⟩,
  ⟨(some 47), .call 71 [(.tmp 44), (.tmp 45), (.tmp 46)] [34, 34, 34] .snap, (some (43, true))⟩,
  ⟨(some 48), .call 88 [(.tmp 47)] [3] .snap, (some (43, true))⟩,
  ⟨(some 49), .load 34 (some 2) (.tmp 6), (some (43, true))⟩,
  ⟨(some 50), .load 34 (some 2) (.tmp 7), (some (43, true))⟩,
  ⟨(some 51), .load 34 (some 2) (.tmp 5), (some (43, true))⟩,
  ⟨(some 52), .call 71 [(.tmp 49), (.tmp 50), (.tmp 51)] [34, 34, 34] .snap, (some (43, true))⟩,
  ⟨(some 53), .call 88 [(.tmp 52)] [3] .snap, (some (43, true))⟩,
  ⟨(some 54), .binOp .mul 3 (.tmp 48) (.tmp 53) 3, (some (43, true))⟩,
  ⟨(some 55), .binOp .lss 3 (.tmp 54) (.const (.int .i64 0)) 3, (some (43, true))⟩,
  ⟨(some 56), .pick (.tmp 43) (.tmp 55) (.const (.bool false)), none⟩,
  ⟨(some 8), .assign (.tmp 56), none⟩] 0 (some [[], [], [], [0, 1, 2], [0, 1, 2, 3], [], [], [], [0, 1, 2, 3, 4, 5, 6, 7], [0, 1, 2, 3, 4, 5, 6, 7, 8], [0, 1, 2, 3, 4, 5, 6, 7, 8, 9], [0, 1, 2, 3, 4, 5, 6, 7, 8, 9, 10], [0, 1, 2, 3, 4, 5, 6, 7, 8, 9, 10, 11], [0, 1, 2, 3, 4, 5, 6, 7, 8, 9, 10, 11, 12], [0, 1, 2, 3, 4, 5, 6, 7, 8, 9, 10, 11, 12], [0, 1, 2, 3, 4, 5, 6, 7, 8, 9, 10, 11, 12], [0, 1, 2, 3, 4, 5, 6, 7, 8, 9, 10, 11, 12, 13, 14, 15], [0, 1, 2, 3, 4, 5, 6, 7, 8, 9, 10, 11, 12, 13, 14, 15, 16], [0, 1, 2, 3, 4, 5, 6, 7, 8, 9, 10, 11, 12], [0, 1, 2, 3, 4, 5, 6, 7, 8, 9, 10, 11, 12], [0, 1, 2, 3, 4, 5, 6, 7, 8, 9, 10, 11, 12], [0, 1, 2, 3, 4, 5, 6, 7, 8, 9, 10, 11, 12, 13, 14, 15, 16, 17, 18, 19, 20], [0, 1, 2, 3, 4, 5, 6, 7, 8, 9, 10, 11, 12, 13, 14, 15, 16, 17, 18, 19, 20, 21], [0, 1, 2, 3, 4, 5, 6, 7, 8, 9, 10, 11, 12, 13, 14, 15, 16, 17, 18, 19, 20, 21, 22], [0, 1, 2, 3, 4, 5, 6, 7, 8, 9, 10, 11, 12, 13, 14, 15, 16, 17, 18, 19, 20, 21, 22, 23], [0, 1, 2, 3, 4, 5, 6, 7, 8, 9, 10, 11, 12, 13, 14, 15, 16, 17, 18, 19, 20, 21, 22, 23, 24], [0, 1, 2, 3, 4, 5, 6, 7, 8, 9, 10, 11, 12, 13, 14, 15, 16, 17, 18, 19, 20, 21, 22, 23, 24, 25]])) []
  (.ret [0, 1, 2, 3, 4, 5, 6, 7, 9, 10, 11, 12, 13, 14, 15, 16, 17, 18, 19, 20, 21, 22, 23, 24, 25, 26, 27, 28, 29, 30, 31, 32, 33, 34, 35, 36, 37, 38, 39, 40, 41, 42, 43, 44, 45, 46, 47, 48, 49, 50, 51, 52, 53, 54, 55, 56]))
def A82 : AF := ⟨57, [.tmp 8],
  (.seq (.region 0 [
  ⟨(some 4), .box 0 34 (.tmp 0), none⟩,
  ⟨(some 5), .box 1 34 (.tmp 1), none⟩,
  ⟨(some 6), .box 2 34 (.tmp 2), none⟩,
  ⟨(some 7), .box 3 34 (.tmp 3), none⟩,
  ⟨(some 8), .assign (.const (.bool false)), none⟩] 4 none) []
  (.seq (.seq (.region 1 [
  ⟨(some 9), .load 34 (some 2) (.tmp 4), none⟩,
  ⟨(some 10), .load 34 (some 2) (.tmp 6), none⟩,
  ⟨(some 11), .load 34 (some 2) (.tmp 7), none⟩,
  ⟨(some 12), .call 70 [(.tmp 9), (.tmp 10), (.tmp 11)] [34, 34, 34] .snap, none⟩,
  ⟨(some 13), .move (.tmp 12), none⟩,
  ⟨(some 14), .load 34 (some 2) (.tmp 5), (some (13, false))⟩,
  ⟨(some 15), .load 34 (some 2) (.tmp 6), (some (13, false))⟩,
  ⟨(some 16), .load 34 (some 2) (.tmp 7), (some (13, false))⟩,
  ⟨(some 17), .call 70 [(.tmp 14), (.tmp 15), (.tmp 16)] [34, 34, 34] .snap, (some (13, false))⟩,
  ⟨(some 18), .pick (.tmp 13) (.const (.bool true)) (.tmp 17), none⟩,
  ⟨(some 19), .move (.tmp 18), none⟩,
  ⟨(some 20), .load 34 (some 2) (.tmp 6), (some (19, false))⟩,
  ⟨(some 21), .load 34 (some 2) (.tmp 4), (some (19, false))⟩,
  ⟨(some 22), .load 34 (some 2) (.tmp 5), (some (19, false))⟩,
  ⟨(some 23), .call 70 [(.tmp 20), (.tmp 21), (.tmp 22)] [34, 34, 34] .snap, (some (19, false))⟩,
  ⟨(some 24), .pick (.tmp 19) (.const (.bool true)) (.tmp 23), none⟩,
  ⟨(some 25), .move (.tmp 24), none⟩,
  ⟨(some 26), .load 34 (some 2) (.tmp 7), (some (25, false))⟩,
  ⟨(some 27), .load 34 (some 2) (.tmp 4), (some (25, false))⟩,
  ⟨(some 28), .load 34 (some 2) (.tmp 5), (some (25, false))⟩,
  ⟨(some 29), .call 70 [(.tmp 26), (.tmp 27), (.tmp 28)] [34, 34, 34] .snap, (some (25, false))⟩,
  ⟨(some 30), .pick (.tmp 25) (.const (.bool true)) (.tmp 29), none⟩] 0 none) []
  (.cond (.tmp 30)
  (.seq (.region 2 [
    ⟨(some 8), .assign (.const (.bool true)), none⟩] 0 none) []
    (.ret [0, 1, 2, 3, 4, 5, 6, 7, 9, 10, 11, 12, 13, 14, 15, 16, 17, 18, 19, 20, 21, 22, 23, 24, 25, 26, 27, 28, 29, 30, 31, 32, 33, 34, 35, 36, 37, 38, 39, 40, 41, 42, 43, 44, 45, 46, 47, 48, 49, 50, 51, 52, 53, 54, 55, 56]))
  .skip)) [8, 9, 10, 11, 12, 13, 14, 15, 16, 17, 18, 19, 20, 21, 22, 23, 24, 25, 26, 27, 28, 29, 30]
  A82v1))⟩

def D82 {ρ : Type} (fuel : Nat) (x1 : Int) (x2 : Int) (x3 : Int) (x4 : Int) (x5 : Int) (x6 : Int) (x7 : Int) (x8 : Int) (k : Bool → Option ρ) : Option ρ :=
  (ob (F70 fuel x1 x2 x5 x6 x7 x8) fun x9 => (bif (x9 == false) then (ob (F70 fuel x3 x4 x5 x6 x7 x8) fun x10 => (bif (x10 == false) then (ob (F70 fuel x5 x6 x1 x2 x3 x4) fun x11 => (bif (x11 == false) then (ob (F70 fuel x7 x8 x1 x2 x3 x4) fun x12 => (bif x12 then (k true) else (ob (F71 fuel x1 x2 x3 x4 x5 x6) fun x13 => (ob (F88 fuel x13) fun x14 => (ob (F71 fuel x1 x2 x3 x4 x7 x8) fun x15 => (ob (F88 fuel x15) fun x16 => (bif ((decide ((w64 (x14 * x16)) < 0)) == true) then (ob (F71 fuel x5 x6 x7 x8 x1 x2) fun x17 => (ob (F88 fuel x17) fun x18 => (ob (F71 fuel x5 x6 x7 x8 x3 x4) fun x19 => (ob (F88 fuel x19) fun x20 => (k (decide ((w64 (x18 * x20)) < 0))))))) else (k false)))))))) else (k true))) else (k true))) else (k true)))

def F82 (fuel : Nat) (x1 : Int) (x2 : Int) (x3 : Int) (x4 : Int) (x5 : Int) (x6 : Int) (x7 : Int) (x8 : Int) : Option (Bool) := D82 fuel x1 x2 x3 x4 x5 x6 x7 x8 some

theorem n82 {ρ σ : Type} (fuel : Nat) (x1 : Int) (x2 : Int) (x3 : Int) (x4 : Int) (x5 : Int) (x6 : Int) (x7 : Int) (x8 : Int) (k : (Bool) → Option ρ) (g : ρ → Option σ) : ob (D82 fuel x1 x2 x3 x4 x5 x6 x7 x8 k) g = D82 fuel x1 x2 x3 x4 x5 x6 x7 x8 fun t => ob (k t) g := by
  simp only [D82, ob_bif, ob_ob, ob_none]

theorem f82 {ρ : Type} (fuel : Nat) (x1 : Int) (x2 : Int) (x3 : Int) (x4 : Int) (x5 : Int) (x6 : Int) (x7 : Int) (x8 : Int) (k : (Bool) → Option ρ) : D82 fuel x1 x2 x3 x4 x5 x6 x7 x8 k = ob (F82 fuel x1 x2 x3 x4 x5 x6 x7 x8) k := by
  unfold F82
  rw [n82]
  simp only [ob_some]

theorem walk82 (fuel : Nat) (x1 : Int) (x2 : Int) (x3 : Int) (x4 : Int) (x5 : Int) (x6 : Int) (x7 : Int) (x8 : Int) :
    evalF (C32 fuel) fuel A82 [.agg [(.i .i64 x1), (.i .i64 x2)], .agg [(.i .i64 x3), (.i .i64 x4)], .agg [(.i .i64 x5), (.i .i64 x6)], .agg [(.i .i64 x7), (.i .i64 x8)]] =
    (ob (F70 fuel x1 x2 x5 x6 x7 x8) fun x9 => (bif (x9 == false) then (ob (F70 fuel x3 x4 x5 x6 x7 x8) fun x10 => (bif (x10 == false) then (ob (F70 fuel x5 x6 x1 x2 x3 x4) fun x11 => (bif (x11 == false) then (ob (F70 fuel x7 x8 x1 x2 x3 x4) fun x12 => (bif x12 then (some [.v (.b true)]) else (ob (F71 fuel x1 x2 x3 x4 x5 x6) fun x13 => (ob (F88 fuel x13) fun x14 => (ob (F71 fuel x1 x2 x3 x4 x7 x8) fun x15 => (ob (F88 fuel x15) fun x16 => (bif ((decide ((w64 (x14 * x16)) < 0)) == true) then (ob (F71 fuel x5 x6 x7 x8 x1 x2) fun x17 => (ob (F88 fuel x17) fun x18 => (ob (F71 fuel x5 x6 x7 x8 x3 x4) fun x19 => (ob (F88 fuel x19) fun x20 => (some [.v (.b (decide ((w64 (x18 * x20)) < 0)))]))))) else (some [.v (.b false)])))))))) else (some [.v (.b true)]))) else (some [.v (.b true)]))) else (some [.v (.b true)]))) := by kernel_rfl

theorem e82 (fuel : Nat) (x1 : Int) (x2 : Int) (x3 : Int) (x4 : Int) (x5 : Int) (x6 : Int) (x7 : Int) (x8 : Int) : evalF (C32 fuel) fuel A82 [.agg [(.i .i64 x1), (.i .i64 x2)], .agg [(.i .i64 x3), (.i .i64 x4)], .agg [(.i .i64 x5), (.i .i64 x6)], .agg [(.i .i64 x7), (.i .i64 x8)]] = ob (F82 fuel x1 x2 x3 x4 x5 x6 x7 x8) fun t => some [.v (.b t)] := by
  rw [walk82, ← f82]
  simp only [D82]

def O82 (fuel : Nat) : Ora where
  o := fun args {ρ} K =>
    wc args fun a1 l2 =>
    wagg a1 fun l3 =>
    wc l3 fun c4 l5 =>
    wI .i64 c4 fun y6 =>
    wc l5 fun c8 l9 =>
    wI .i64 c8 fun y10 =>
    wn l9 <|
    wc l2 fun a12 l13 =>
    wagg a12 fun l14 =>
    wc l14 fun c15 l16 =>
    wI .i64 c15 fun y17 =>
    wc l16 fun c19 l20 =>
    wI .i64 c19 fun y21 =>
    wn l20 <|
    wc l13 fun a23 l24 =>
    wagg a23 fun l25 =>
    wc l25 fun c26 l27 =>
    wI .i64 c26 fun y28 =>
    wc l27 fun c30 l31 =>
    wI .i64 c30 fun y32 =>
    wn l31 <|
    wc l24 fun a34 l35 =>
    wagg a34 fun l36 =>
    wc l36 fun c37 l38 =>
    wI .i64 c37 fun y39 =>
    wc l38 fun c41 l42 =>
    wI .i64 c41 fun y43 =>
    wn l42 <|
    wn l35 <|
    (ob (F82 fuel y6 y10 y17 y21 y28 y32 y39 y43) fun t => K [.v (.b t)])
  nat := fun args {ρ} K => by
    simp only [bind_wc, bind_wn, bind_wv, bind_wagg, bind_wI, bind_wB, bind_wS, bind_wL, bind_wP, bind_wFn, bind_ob, Option.bind_some]

theorem d82 {P : Program} (fuel : Nat) (hmix : P.follows .mixedOrders = true) (hC : Sound P (C32 fuel)) (hF : FFits P 82 A82) (args res : List A) (h : (O82 fuel).o args some = some res) : Den P 82 args res := by
  obtain ⟨a1, l2, rfl, z0⟩ := inv_wc h
  obtain ⟨l3, rfl, z1⟩ := inv_wagg z0
  obtain ⟨c4, l5, rfl, z2⟩ := inv_wc z1
  obtain ⟨y6, h7, z3⟩ := inv_wI z2
  obtain ⟨c8, l9, rfl, z4⟩ := inv_wc z3
  obtain ⟨y10, h11, z5⟩ := inv_wI z4
  obtain ⟨hn, z6⟩ := inv_wn z5
  cases hn
  obtain ⟨a12, l13, rfl, z7⟩ := inv_wc z6
  obtain ⟨l14, rfl, z8⟩ := inv_wagg z7
  obtain ⟨c15, l16, rfl, z9⟩ := inv_wc z8
  obtain ⟨y17, h18, z10⟩ := inv_wI z9
  obtain ⟨c19, l20, rfl, z11⟩ := inv_wc z10
  obtain ⟨y21, h22, z12⟩ := inv_wI z11
  obtain ⟨hn, z13⟩ := inv_wn z12
  cases hn
  obtain ⟨a23, l24, rfl, z14⟩ := inv_wc z13
  obtain ⟨l25, rfl, z15⟩ := inv_wagg z14
  obtain ⟨c26, l27, rfl, z16⟩ := inv_wc z15
  obtain ⟨y28, h29, z17⟩ := inv_wI z16
  obtain ⟨c30, l31, rfl, z18⟩ := inv_wc z17
  obtain ⟨y32, h33, z19⟩ := inv_wI z18
  obtain ⟨hn, z20⟩ := inv_wn z19
  cases hn
  obtain ⟨a34, l35, rfl, z21⟩ := inv_wc z20
  obtain ⟨l36, rfl, z22⟩ := inv_wagg z21
  obtain ⟨c37, l38, rfl, z23⟩ := inv_wc z22
  obtain ⟨y39, h40, z24⟩ := inv_wI z23
  obtain ⟨c41, l42, rfl, z25⟩ := inv_wc z24
  obtain ⟨y43, h44, z26⟩ := inv_wI z25
  obtain ⟨hn, z27⟩ := inv_wn z26
  cases hn
  obtain ⟨hn, z28⟩ := inv_wn z27
  cases hn
  exact Den.weaken (.cons (WkA.agg (.cons (Wk.i h7) (.cons (Wk.i h11) .nil))) (.cons (WkA.agg (.cons (Wk.i h18) (.cons (Wk.i h22) .nil))) (.cons (WkA.agg (.cons (Wk.i h29) (.cons (Wk.i h33) .nil))) (.cons (WkA.agg (.cons (Wk.i h40) (.cons (Wk.i h44) .nil))) .nil)))) (evalF_sound hmix hC hF ((e82 fuel y6 y10 y17 y21 y28 y32 y39 y43).trans z28))

def C33 (fuel : Nat) : Oracle := (C32 fuel).add 82 (fun _ => true) (O82 fuel)

/-- shipyard/shipyardref12.simple -/
def A67v1 : AC := (.region 7 [
  ⟨(some 21), .move (.tmp 5), none⟩,
  ⟨(some 22), .binOp .add 3 (.tmp 21) (.const (.int .i64 1)) 3, none⟩,
  ⟨(some 5), .assign (.tmp 22), none⟩] 0 none)
def A67v2 : AC := (.seq (.block 3
  (.seq (.region 8 [
    ⟨(some 23), .move (.tmp 0), none⟩,
    ⟨(some 24), .move (.tmp 4), none⟩,
    ⟨(some 25), .indexAddr 22 34 2 (.tmp 23) (.tmp 24), none⟩,
    ⟨(some 26), .load 34 (some 2) (.tmp 25), none⟩,
    ⟨(some 27), .move (.tmp 0), none⟩,
    ⟨(some 28), .move (.tmp 5), none⟩,
    ⟨(some 29), .indexAddr 22 34 2 (.tmp 27) (.tmp 28), none⟩,
    ⟨(some 30), .load 34 (some 2) (.tmp 29), none⟩,
    ⟨(some 31), .eqA false (.pr (.int .i64) (.pr (.int .i64) .nil)) 34 (.tmp 26) (.tmp 30) 34, none⟩] 0 (some [[], [], [0, 1], [0, 1, 2], [], [], [4, 5], [4, 5, 6], [0, 1, 2, 3, 4, 5, 6, 7]])) []
    (.cond (.tmp 31)
    (.seq (.region 9 [
      ⟨(some 2), .assign (.const (.bool false)), none⟩] 0 none) []
      (.ret [0, 1, 3, 4, 5, 6, 7, 8, 9, 10, 11, 12, 13, 14, 15, 16, 17, 18, 19, 20, 21, 22, 23, 24, 25, 26, 27, 28, 29, 30, 31, 32, 33, 34, 35, 36, 37, 38, 39, 40, 41, 42, 43, 44, 45, 46, 47, 48, 49, 50, 51, 52, 53, 54, 55, 56, 57, 58, 59, 60, 61, 62, 63, 64, 65, 66, 67, 68, 69, 70, 71, 72, 73, 74, 75, 76, 77, 78, 79, 80, 81, 82, 83, 84, 85, 86, 87, 88, 89, 90, 91, 92, 93]))
    .skip))) [2, 23, 24, 25, 26, 27, 28, 29, 30, 31]
  A67v1)
def A67v3 : AC := (.seq (.seq (.region 6 [
  ⟨(some 18), .move (.tmp 5), none⟩,
  ⟨(some 19), .move (.tmp 4), none⟩,
  ⟨(some 20), .binOp .lss 3 (.tmp 18) (.tmp 19) 3, none⟩] 0 none) []
  (.cond (.tmp 20)
  .skip
  (.exit 2 [1, 2, 5, 6, 7, 8, 9, 10, 11, 12, 13, 14, 15, 16, 17, 18, 19, 20, 21, 22, 23, 24, 25, 26, 27, 28, 29, 30, 31, 32, 33, 34, 35, 36, 37, 38, 39, 40, 41, 42, 43, 44, 45, 46, 47, 48, 49, 50, 51, 52, 53, 54, 55, 56, 57, 58, 59, 60, 61, 62, 63, 64, 65, 66, 67, 68, 69, 70, 71, 72, 73, 74, 75, 76, 77, 78, 79, 80, 81, 82, 83, 84, 85, 86, 87, 88, 89, 90, 91, 92, 93]))) [18, 19, 20]
  A67v2)
def A67v4 : AC := (.region 4 [
  ⟨(some 16), .move (.tmp 4), none⟩,
  ⟨(some 17), .binOp .add 3 (.tmp 16) (.const (.int .i64 1)) 3, none⟩,
  ⟨(some 4), .assign (.tmp 17), none⟩] 0 none)
def A67v5 : AC := (.seq (.block 1
  (.seq (.region 5 [
    ⟨(some 5), .assign (.const (.int .i64 0)), none⟩] 0 none) []
    (.block 2
    (.loop [] [1, 2, 6, 7, 8, 9, 10, 11, 12, 13, 14, 15, 16, 17, 18, 19, 20, 21, 22, 23, 24, 25, 26, 27, 28, 29, 30, 31, 32, 33, 34, 35, 36, 37, 38, 39, 40, 41, 42, 43, 44, 45, 46, 47, 48, 49, 50, 51, 52, 53, 54, 55, 56, 57, 58, 59, 60, 61, 62, 63, 64, 65, 66, 67, 68, 69, 70, 71, 72, 73, 74, 75, 76, 77, 78, 79, 80, 81, 82, 83, 84, 85, 86, 87, 88, 89, 90, 91, 92, 93]
      A67v3)))) [2, 5, 18, 19, 20, 21, 22, 23, 24, 25, 26, 27, 28, 29, 30, 31]
  A67v4)
def A67v6 : AC := (.seq (.seq (.region 3 [
  ⟨(some 13), .move (.tmp 4), none⟩,
  ⟨(some 14), .move (.tmp 3), none⟩,
  ⟨(some 15), .binOp .lss 3 (.tmp 13) (.tmp 14) 3, none⟩] 0 none) []
  (.cond (.tmp 15)
  .skip
  (.exit 0 [1, 2, 4, 5, 6, 7, 8, 9, 10, 11, 12, 13, 14, 15, 16, 17, 18, 19, 20, 21, 22, 23, 24, 25, 26, 27, 28, 29, 30, 31, 32, 33, 34, 35, 36, 37, 38, 39, 40, 41, 42, 43, 44, 45, 46, 47, 48, 49, 50, 51, 52, 53, 54, 55, 56, 57, 58, 59, 60, 61, 62, 63, 64, 65, 66, 67, 68, 69, 70, 71, 72, 73, 74, 75, 76, 77, 78, 79, 80, 81, 82, 83, 84, 85, 86, 87, 88, 89, 90, 91, 92, 93]))) [13, 14, 15]
  A67v5)
def A67v7 : AC := (.region 18 [
  ⟨(some 70), .move (.tmp 10), none⟩,
  ⟨(some 71), .binOp .add 3 (.tmp 70) (.const (.int .i64 1)) 3, none⟩,
  ⟨(some 10), .assign (.tmp 71), none⟩] 0 none)
def A67v8 : AC := (.seq (.block 7
  (.seq (.region 19 [
    ⟨(some 72), .move (.tmp 10), none⟩,
    ⟨(some 73), .binOp .add 3 (.tmp 72) (.const (.int .i64 1)) 3, none⟩,
    ⟨(some 74), .move (.tmp 3), none⟩,
    ⟨(some 75), .binOp .rem 3 (.tmp 73) (.tmp 74) 3, none⟩,
    ⟨(some 76), .move (.tmp 6), none⟩,
    ⟨(some 77), .binOp .neq 3 (.tmp 75) (.tmp 76) 3, none⟩,
    ⟨(some 78), .move (.tmp 77), none⟩,
    ⟨(some 79), .load 34 (some 2) (.tmp 7), (some (78, true))⟩,
    ⟨(some 80), .load 34 (some 2) (.tmp 8), (some (78, true))⟩,
    ⟨(some 81), .move (.tmp 0), (some (78, true))⟩,
    ⟨(some 82), .move (.tmp 10), (some (78, true))⟩,
    ⟨(some 83), .indexAddr 22 34 2 (.tmp 81) (.tmp 82), (some (78, true))⟩,
    ⟨(some 84), .load 34 (some 2) (.tmp 83), (some (78, true))⟩,
    ⟨(some 85), .move (.tmp 0), (some (78, true))⟩,
    ⟨(some 86), .move (.tmp 10), (some (78, true))⟩,
    ⟨(some 87), .binOp .add 3 (.tmp 86) (.const (.int .i64 1)) 3, (some (78, true))⟩,
    ⟨(some 88), .move (.tmp 3), (some (78, true))⟩,
    ⟨(some 89), .binOp .rem 3 (.tmp 87) (.tmp 88) 3, (some (78, true))⟩,
    ⟨(some 90), .indexAddr 22 34 2 (.tmp 85) (.tmp 89), (some (78, true))⟩,
    ⟨(some 91), .load 34 (some 2) (.tmp 90), (some (78, true))⟩,
    ⟨(some 92), .call 82 [(.tmp 79), (.tmp 80), (.tmp 84), (.tmp 91)] [34, 34, 34, 34] .snap, (some (78, true))⟩,
    ⟨(some 93), .pick (.tmp 78) (.tmp 92) (.const (.bool false)), none⟩] 0 (some [[], [0], [], [0, 1, 2], [], [0, 1, 2, 3, 4], [0, 1, 2, 3, 4, 5], [0, 1, 2, 3, 4, 5, 6], [0, 1, 2, 3, 4, 5, 6], [0, 1, 2, 3, 4, 5, 6], [0, 1, 2, 3, 4, 5, 6], [0, 1, 2, 3, 4, 5, 6, 9, 10], [0, 1, 2, 3, 4, 5, 6, 9, 10, 11], [0, 1, 2, 3, 4, 5, 6], [0, 1, 2, 3, 4, 5, 6], [0, 1, 2, 3, 4, 5, 6, 14], [0, 1, 2, 3, 4, 5, 6], [0, 1, 2, 3, 4, 5, 6, 14, 15, 16], [0, 1, 2, 3, 4, 5, 6, 13, 14, 15, 16, 17], [0, 1, 2, 3, 4, 5, 6, 13, 14, 15, 16, 17, 18], [0, 1, 2, 3, 4, 5, 6, 7, 8, 9, 10, 11, 12, 13, 14, 15, 16, 17, 18, 19], [0, 1, 2, 3, 4, 5, 6, 7, 8, 9, 10, 11, 12, 13, 14, 15, 16, 17, 18, 19, 20]])) []
    (.cond (.tmp 93)
    (.seq (.region 20 [
      ⟨(some 2), .assign (.const (.bool false)), none⟩] 0 none) []
      (.ret [0, 1, 3, 4, 5, 6, 7, 8, 9, 10, 11, 12, 13, 14, 15, 16, 17, 18, 19, 20, 21, 22, 23, 24, 25, 26, 27, 28, 29, 30, 31, 32, 33, 34, 35, 36, 37, 38, 39, 40, 41, 42, 43, 44, 45, 46, 47, 48, 49, 50, 51, 52, 53, 54, 55, 56, 57, 58, 59, 60, 61, 62, 63, 64, 65, 66, 67, 68, 69, 70, 71, 72, 73, 74, 75, 76, 77, 78, 79, 80, 81, 82, 83, 84, 85, 86, 87, 88, 89, 90, 91, 92, 93]))
    .skip))) [2, 72, 73, 74, 75, 76, 77, 78, 79, 80, 81, 82, 83, 84, 85, 86, 87, 88, 89, 90, 91, 92, 93]
  A67v7)
def A67v9 : AC := (.seq (.seq (.region 17 [
  ⟨(some 67), .move (.tmp 10), none⟩,
  ⟨(some 68), .move (.tmp 3), none⟩,
  ⟨(some 69), .binOp .lss 3 (.tmp 67) (.tmp 68) 3, none⟩] 0 none) []
  (.cond (.tmp 69)
  .skip
  (.exit 6 [1, 2, 4, 5, 7, 8, 9, 10, 11, 12, 13, 14, 15, 16, 17, 18, 19, 20, 21, 22, 23, 24, 25, 26, 27, 28, 29, 30, 31, 32, 33, 34, 35, 36, 37, 38, 39, 40, 41, 42, 43, 44, 45, 46, 47, 48, 49, 50, 51, 52, 53, 54, 55, 56, 57, 58, 59, 60, 61, 62, 63, 64, 65, 66, 67, 68, 69, 70, 71, 72, 73, 74, 75, 76, 77, 78, 79, 80, 81, 82, 83, 84, 85, 86, 87, 88, 89, 90, 91, 92, 93]))) [67, 68, 69]
  A67v8)
def A67v10 : AC := (.seq (.region 16 [
  ⟨(some 65), .move (.tmp 6), none⟩,
  ⟨(some 66), .binOp .add 3 (.tmp 65) (.const (.int .i64 2)) 3, none⟩,
  ⟨(some 10), .assign (.tmp 66), none⟩] 0 none) []
  (.block 6
  (.loop [] [1, 2, 4, 5, 9, 11, 12, 13, 14, 15, 16, 17, 18, 19, 20, 21, 22, 23, 24, 25, 26, 27, 28, 29, 30, 31, 32, 33, 34, 35, 36, 37, 38, 39, 40, 41, 42, 43, 44, 45, 46, 47, 48, 49, 50, 51, 52, 53, 54, 55, 56, 57, 58, 59, 60, 61, 62, 63, 64, 65, 66, 67, 68, 69, 70, 71, 72, 73, 74, 75, 76, 77, 78, 79, 80, 81, 82, 83, 84, 85, 86, 87, 88, 89, 90, 91, 92, 93]
    A67v9)))
def A67v11 : AC := (.region 12 [
  ⟨(some 35), .move (.tmp 6), none⟩,
  ⟨(some 36), .binOp .add 3 (.tmp 35) (.const (.int .i64 1)) 3, none⟩,
  ⟨(some 6), .assign (.tmp 36), none⟩] 0 none)
def A67v12 : AC := (.seq (.block 5
  (.seq (.region 13 [
    ⟨(some 37), .move (.tmp 0), none⟩,
    ⟨(some 38), .move (.tmp 6), none⟩,
    ⟨(some 39), .indexAddr 22 34 2 (.tmp 37) (.tmp 38), none⟩,
    ⟨(some 40), .load 34 (some 2) (.tmp 39), none⟩,
    ⟨(some 41), .move (.tmp 0), none⟩,
    ⟨(some 42), .move (.tmp 6), none⟩,
    ⟨(some 43), .binOp .add 3 (.tmp 42) (.const (.int .i64 1)) 3, none⟩,
    ⟨(some 44), .move (.tmp 3), none⟩,
    ⟨(some 45), .binOp .rem 3 (.tmp 43) (.tmp 44) 3, none⟩,
    ⟨(some 46), .indexAddr 22 34 2 (.tmp 41) (.tmp 45), none⟩,
    ⟨(some 47), .load 34 (some 2) (.tmp 46), none⟩,
    ⟨(some 48), .move (.tmp 0), none⟩,
    ⟨(some 49), .move (.tmp 6), none⟩,
    ⟨(some 50), .binOp .add 3 (.tmp 49) (.const (.int .i64 2)) 3, none⟩,
    ⟨(some 51), .move (.tmp 3), none⟩,
    ⟨(some 52), .binOp .rem 3 (.tmp 50) (.tmp 51) 3, none⟩,
    ⟨(some 53), .indexAddr 22 34 2 (.tmp 48) (.tmp 52), none⟩,
    ⟨(some 54), .load 34 (some 2) (.tmp 53), none⟩,
    ⟨(some 7), .alloc 0 34 [.c (.i .i64 0), .c (.i .i64 0)], none⟩,
    ⟨(some 8), .alloc 1 34 [.c (.i .i64 0), .c (.i .i64 0)], none⟩,
    ⟨(some 9), .alloc 2 34 [.c (.i .i64 0), .c (.i .i64 0)], none⟩,
    ⟨none, .store 34 2 (.tmp 7) (.tmp 40), none⟩,
    ⟨none, .store 34 2 (.tmp 8) (.tmp 47), none⟩,
    ⟨none, .store 34 2 (.tmp 9) (.tmp 54), none⟩] 3 (some [[], [], [0, 1], [0, 1, 2], [], [], [5], [], [5, 6, 7], [4, 5, 6, 7, 8], [4, 5, 6, 7, 8, 9], [], [], [12], [], [12, 13, 14], [11, 12, 13, 14, 15], [11, 12, 13, 14, 15, 16], [], [], [], [0, 1, 2, 3, 18, 19, 20], [0, 1, 2, 3, 4, 5, 6, 7, 8, 9, 10, 18, 19, 20, 21], [0, 1, 2, 3, 4, 5, 6, 7, 8, 9, 10, 11, 12, 13, 14, 15, 16, 17, 18, 19, 20, 21, 22]])) []
    (.seq (.seq (.region 14 [
    ⟨(some 55), .load 34 (some 2) (.tmp 7), none⟩,
    ⟨(some 56), .load 34 (some 2) (.tmp 8), none⟩,
    ⟨(some 57), .load 34 (some 2) (.tmp 9), none⟩,
    ⟨(some 58), .call 70 [(.tmp 55), (.tmp 56), (.tmp 57)] [34, 34, 34] .snap, none⟩,
    ⟨(some 59), .move (.tmp 58), none⟩,
    ⟨(some 60), .load 34 (some 2) (.tmp 9), (some (59, false))⟩,
    ⟨(some 61), .load 34 (some 2) (.tmp 7), (some (59, false))⟩,
    ⟨(some 62), .load 34 (some 2) (.tmp 8), (some (59, false))⟩,
    ⟨(some 63), .call 70 [(.tmp 60), (.tmp 61), (.tmp 62)] [34, 34, 34] .snap, (some (59, false))⟩,
    ⟨(some 64), .pick (.tmp 59) (.const (.bool true)) (.tmp 63), none⟩] 0 none) []
    (.cond (.tmp 64)
    (.seq (.region 15 [
      ⟨(some 2), .assign (.const (.bool false)), none⟩] 0 none) []
      (.ret [0, 1, 3, 4, 5, 6, 7, 8, 9, 10, 11, 12, 13, 14, 15, 16, 17, 18, 19, 20, 21, 22, 23, 24, 25, 26, 27, 28, 29, 30, 31, 32, 33, 34, 35, 36, 37, 38, 39, 40, 41, 42, 43, 44, 45, 46, 47, 48, 49, 50, 51, 52, 53, 54, 55, 56, 57, 58, 59, 60, 61, 62, 63, 64, 65, 66, 67, 68, 69, 70, 71, 72, 73, 74, 75, 76, 77, 78, 79, 80, 81, 82, 83, 84, 85, 86, 87, 88, 89, 90, 91, 92, 93]))
    .skip)) [2, 55, 56, 57, 58, 59, 60, 61, 62, 63, 64]
    A67v10))) [2, 7, 8, 9, 10, 37, 38, 39, 40, 41, 42, 43, 44, 45, 46, 47, 48, 49, 50, 51, 52, 53, 54, 55, 56, 57, 58, 59, 60, 61, 62, 63, 64, 65, 66, 67, 68, 69, 70, 71, 72, 73, 74, 75, 76, 77, 78, 79, 80, 81, 82, 83, 84, 85, 86, 87, 88, 89, 90, 91, 92, 93]
  A67v11)
def A67v13 : AC := (.seq (.seq (.region 11 [
  ⟨(some 32), .move (.tmp 6), none⟩,
  ⟨(some 33), .move (.tmp 3), none⟩,
  ⟨(some 34), .binOp .lss 3 (.tmp 32) (.tmp 33) 3, none⟩] 0 none) []
  (.cond (.tmp 34)
  .skip
  (.exit 4 [0, 1, 2, 3, 4, 5, 6, 7, 8, 9, 10, 11, 12, 13, 14, 15, 16, 17, 18, 19, 20, 21, 22, 23, 24, 25, 26, 27, 28, 29, 30, 31, 32, 33, 34, 35, 36, 37, 38, 39, 40, 41, 42, 43, 44, 45, 46, 47, 48, 49, 50, 51, 52, 53, 54, 55, 56, 57, 58, 59, 60, 61, 62, 63, 64, 65, 66, 67, 68, 69, 70, 71, 72, 73, 74, 75, 76, 77, 78, 79, 80, 81, 82, 83, 84, 85, 86, 87, 88, 89, 90, 91, 92, 93]))) [32, 33, 34]
  A67v12)
def A67v14 : AC := (.seq (.region 21 [
  ⟨(some 2), .assign (.const (.bool true)), none⟩] 0 none) []
  (.ret [0, 1, 3, 4, 5, 6, 7, 8, 9, 10, 11, 12, 13, 14, 15, 16, 17, 18, 19, 20, 21, 22, 23, 24, 25, 26, 27, 28, 29, 30, 31, 32, 33, 34, 35, 36, 37, 38, 39, 40, 41, 42, 43, 44, 45, 46, 47, 48, 49, 50, 51, 52, 53, 54, 55, 56, 57, 58, 59, 60, 61, 62, 63, 64, 65, 66, 67, 68, 69, 70, 71, 72, 73, 74, 75, 76, 77, 78, 79, 80, 81, 82, 83, 84, 85, 86, 87, 88, 89, 90, 91, 92, 93]))
def A67v15 : AC := (.seq (.seq (.region 10 [
  ⟨(some 6), .assign (.const (.int .i64 0)), none⟩] 0 none) []
  (.block 4
  (.loop [] [1, 2, 4, 5, 7, 8, 9, 10, 11, 12, 13, 14, 15, 16, 17, 18, 19, 20, 21, 22, 23, 24, 25, 26, 27, 28, 29, 30, 31, 32, 33, 34, 35, 36, 37, 38, 39, 40, 41, 42, 43, 44, 45, 46, 47, 48, 49, 50, 51, 52, 53, 54, 55, 56, 57, 58, 59, 60, 61, 62, 63, 64, 65, 66, 67, 68, 69, 70, 71, 72, 73, 74, 75, 76, 77, 78, 79, 80, 81, 82, 83, 84, 85, 86, 87, 88, 89, 90, 91, 92, 93]
    A67v13))) [2, 6, 7, 8, 9, 10, 32, 33, 34, 35, 36, 37, 38, 39, 40, 41, 42, 43, 44, 45, 46, 47, 48, 49, 50, 51, 52, 53, 54, 55, 56, 57, 58, 59, 60, 61, 62, 63, 64, 65, 66, 67, 68, 69, 70, 71, 72, 73, 74, 75, 76, 77, 78, 79, 80, 81, 82, 83, 84, 85, 86, 87, 88, 89, 90, 91, 92, 93]
  A67v14)
def A67 : AF := ⟨94, [.tmp 2],
  (.seq (.region 0 [
  ⟨(some 2), .assign (.const (.bool false)), none⟩] 0 none) []
  (.seq (.region 1 [
  ⟨(some 11), .move (.tmp 0), none⟩,
  ⟨(some 12), .len 22 false (.tmp 11), none⟩,
  ⟨(some 3), .assign (.tmp 12), none⟩] 0 none) []
  (.seq (.seq (.region 2 [
  ⟨(some 4), .assign (.const (.int .i64 0)), none⟩] 0 none) []
  (.block 0
  (.loop [] [1, 2, 5, 6, 7, 8, 9, 10, 11, 12, 13, 14, 15, 16, 17, 18, 19, 20, 21, 22, 23, 24, 25, 26, 27, 28, 29, 30, 31, 32, 33, 34, 35, 36, 37, 38, 39, 40, 41, 42, 43, 44, 45, 46, 47, 48, 49, 50, 51, 52, 53, 54, 55, 56, 57, 58, 59, 60, 61, 62, 63, 64, 65, 66, 67, 68, 69, 70, 71, 72, 73, 74, 75, 76, 77, 78, 79, 80, 81, 82, 83, 84, 85, 86, 87, 88, 89, 90, 91, 92, 93]
    A67v6))) [2, 4, 5, 13, 14, 15, 16, 17, 18, 19, 20, 21, 22, 23, 24, 25, 26, 27, 28, 29, 30, 31]
  A67v15)))⟩

def B67v2 (C : Oracle) (fuel : Nat) {ρ : Type} : St → (Ex → St → Option ρ) → Option ρ := fun st k => evalC C fuel A67v3 st k
def N67v2 : St → Option St := fun s => s.norm [1, 2, 6, 7, 8, 9, 10, 11, 12, 13, 14, 15, 16, 17, 18, 19, 20, 21, 22, 23, 24, 25, 26, 27, 28, 29, 30, 31, 32, 33, 34, 35, 36, 37, 38, 39, 40, 41, 42, 43, 44, 45, 46, 47, 48, 49, 50, 51, 52, 53, 54, 55, 56, 57, 58, 59, 60, 61, 62, 63, 64, 65, 66, 67, 68, 69, 70, 71, 72, 73, 74, 75, 76, 77, 78, 79, 80, 81, 82, 83, 84, 85, 86, 87, 88, 89, 90, 91, 92, 93] 0

def s67v0 (x17 : Nat) (x18 : Nat → Nat → CV) (x19 : Int) (x20 : Int) (x21 : Int) : St := ⟨[.x (.c (.ro false (.pr (.int .i64) (.pr (.int .i64) .nil)) x17 x18)), .u, .u, .x (.c (.i .i64 x19)), .x (.c (.i .i64 x20)), .x (.c (.i .i64 x21)), .u, .u, .u, .u, .u, .u, .u, .u, .u, .u, .u, .u, .u, .u, .u, .u, .u, .u, .u, .u, .u, .u, .u, .u, .u, .u, .u, .u, .u, .u, .u, .u, .u, .u, .u, .u, .u, .u, .u, .u, .u, .u, .u, .u, .u, .u, .u, .u, .u, .u, .u, .u, .u, .u, .u, .u, .u, .u, .u, .u, .u, .u, .u, .u, .u, .u, .u, .u, .u, .u, .u, .u, .u, .u, .u, .u, .u, .u, .u, .u, .u, .u, .u, .u, .u, .u, .u, .u],
    []⟩

def s67v1 : St := ⟨[.u, .u, .x (.c (.b false)), .u, .u, .u, .u, .u, .u, .u, .u, .u, .u, .u, .u, .u, .u, .u, .u, .u, .u, .u, .u, .u, .u, .u, .u, .u, .u, .u, .u, .u, .u, .u, .u, .u, .u, .u, .u, .u, .u, .u, .u, .u, .u, .u, .u, .u, .u, .u, .u, .u, .u, .u, .u, .u, .u, .u, .u, .u, .u, .u, .u, .u, .u, .u, .u, .u, .u, .u, .u, .u, .u, .u, .u, .u, .u, .u, .u, .u, .u, .u, .u, .u, .u, .u, .u, .u, .u, .u, .u, .u, .u, .u],
    []⟩

def s67v2 (x17 : Nat) (x18 : Nat → Nat → CV) (x19 : Int) (x20 : Int) : St := ⟨[.x (.c (.ro false (.pr (.int .i64) (.pr (.int .i64) .nil)) x17 x18)), .u, .u, .x (.c (.i .i64 x19)), .x (.c (.i .i64 x20)), .u, .u, .u, .u, .u, .u, .u, .u, .u, .u, .u, .u, .u, .u, .u, .u, .u, .u, .u, .u, .u, .u, .u, .u, .u, .u, .u, .u, .u, .u, .u, .u, .u, .u, .u, .u, .u, .u, .u, .u, .u, .u, .u, .u, .u, .u, .u, .u, .u, .u, .u, .u, .u, .u, .u, .u, .u, .u, .u, .u, .u, .u, .u, .u, .u, .u, .u, .u, .u, .u, .u, .u, .u, .u, .u, .u, .u, .u, .u, .u, .u, .u, .u, .u, .u, .u, .u, .u, .u],
    []⟩

def L67v2 {ρ : Type} (fuel : Nat) (x17 : Nat) (x18 : Nat → Nat → CV) (x19 : Int) (x20 : Int) : Nat → Int → (Option ρ) → (Option ρ) → Option ρ
  | 0, _, _, _ => none
  | m + 1, x21, k0, k1 =>
    (bif (decide (x21 < x20)) then (bif (inb x20 x17) then (bif (inb x21 x17) then (bif (((CV.int (x18 (Int.toNat x20) 0)) == (CV.int (x18 (Int.toNat x21) 0))) && (((CV.int (x18 (Int.toNat x20) 1)) == (CV.int (x18 (Int.toNat x21) 1))) && true)) then k0 else (L67v2 fuel x17 x18 x19 x20 m (w64 (x21 + 1)) k0 k1)) else none) else none) else k1)

theorem nl67v2 {ρ σ : Type} (fuel : Nat) (x17 : Nat) (x18 : Nat → Nat → CV) (x19 : Int) (x20 : Int) (g : ρ → Option σ) : ∀ (m : Nat) (x21 : Int) (k0 : Option ρ) (k1 : Option ρ), ob (L67v2 fuel x17 x18 x19 x20 m x21 k0 k1) g = L67v2 fuel x17 x18 x19 x20 m x21 (ob k0 g) (ob k1 g)
  | 0, _, _, _ => rfl
  | m + 1, x21, k0, k1 => by
    simp only [L67v2, ob_bif, ob_ob, ob_none, nl67v2 fuel x17 x18 x19 x20 g m]

theorem r67v2 (fuel : Nat) (m : Nat) {ρ : Type} (k : Ex → St → Option ρ) (x17 : Nat) (x18 : Nat → Nat → CV) (x19 : Int) (x20 : Int) (x21 : Int) :
    loopH (B67v2 (C33 fuel) fuel) N67v2 (m + 1) (s67v0 x17 x18 x19 x20 x21) k =
    (bif (decide (x21 < x20)) then (bif (inb x20 x17) then (bif (inb x21 x17) then (bif (((CV.int (x18 (Int.toNat x20) 0)) == (CV.int (x18 (Int.toNat x21) 0))) && (((CV.int (x18 (Int.toNat x20) 1)) == (CV.int (x18 (Int.toNat x21) 1))) && true)) then (k .ret s67v1) else (loopH (B67v2 (C33 fuel) fuel) N67v2 m (s67v0 x17 x18 x19 x20 (w64 (x21 + 1))) k)) else none) else none) else (k (.exit 2) (s67v2 x17 x18 x19 x20))) := by kernel_rfl

theorem q67v2 (fuel : Nat) (x17 : Nat) (x18 : Nat → Nat → CV) (x19 : Int) (x20 : Int) {ρ : Type} (k : Ex → St → Option ρ) : ∀ (m : Nat) (x21 : Int),
    loopH (B67v2 (C33 fuel) fuel) N67v2 m (s67v0 x17 x18 x19 x20 x21) k = L67v2 fuel x17 x18 x19 x20 m x21 (k .ret s67v1) (k (.exit 2) (s67v2 x17 x18 x19 x20))
  | 0, _ => rfl
  | m + 1, x21 => by
    rw [r67v2]
    simp only [L67v2, q67v2 fuel x17 x18 x19 x20 k m]

def B67v3 (C : Oracle) (fuel : Nat) {ρ : Type} : St → (Ex → St → Option ρ) → Option ρ := fun st k => evalC C fuel A67v6 st k
def N67v3 : St → Option St := fun s => s.norm [1, 2, 5, 6, 7, 8, 9, 10, 11, 12, 13, 14, 15, 16, 17, 18, 19, 20, 21, 22, 23, 24, 25, 26, 27, 28, 29, 30, 31, 32, 33, 34, 35, 36, 37, 38, 39, 40, 41, 42, 43, 44, 45, 46, 47, 48, 49, 50, 51, 52, 53, 54, 55, 56, 57, 58, 59, 60, 61, 62, 63, 64, 65, 66, 67, 68, 69, 70, 71, 72, 73, 74, 75, 76, 77, 78, 79, 80, 81, 82, 83, 84, 85, 86, 87, 88, 89, 90, 91, 92, 93] 0

def s67v3 (x9 : Nat) (x10 : Nat → Nat → CV) (x11 : Int) (x12 : Int) : St := ⟨[.x (.c (.ro false (.pr (.int .i64) (.pr (.int .i64) .nil)) x9 x10)), .u, .u, .x (.c (.i .i64 x11)), .x (.c (.i .i64 x12)), .u, .u, .u, .u, .u, .u, .u, .u, .u, .u, .u, .u, .u, .u, .u, .u, .u, .u, .u, .u, .u, .u, .u, .u, .u, .u, .u, .u, .u, .u, .u, .u, .u, .u, .u, .u, .u, .u, .u, .u, .u, .u, .u, .u, .u, .u, .u, .u, .u, .u, .u, .u, .u, .u, .u, .u, .u, .u, .u, .u, .u, .u, .u, .u, .u, .u, .u, .u, .u, .u, .u, .u, .u, .u, .u, .u, .u, .u, .u, .u, .u, .u, .u, .u, .u, .u, .u, .u, .u],
    []⟩

def s67v4 (x9 : Nat) (x10 : Nat → Nat → CV) (x11 : Int) : St := ⟨[.x (.c (.ro false (.pr (.int .i64) (.pr (.int .i64) .nil)) x9 x10)), .u, .u, .x (.c (.i .i64 x11)), .u, .u, .u, .u, .u, .u, .u, .u, .u, .u, .u, .u, .u, .u, .u, .u, .u, .u, .u, .u, .u, .u, .u, .u, .u, .u, .u, .u, .u, .u, .u, .u, .u, .u, .u, .u, .u, .u, .u, .u, .u, .u, .u, .u, .u, .u, .u, .u, .u, .u, .u, .u, .u, .u, .u, .u, .u, .u, .u, .u, .u, .u, .u, .u, .u, .u, .u, .u, .u, .u, .u, .u, .u, .u, .u, .u, .u, .u, .u, .u, .u, .u, .u, .u, .u, .u, .u, .u, .u, .u],
    []⟩

def L67v3 {ρ : Type} (fuel : Nat) (x9 : Nat) (x10 : Nat → Nat → CV) (x11 : Int) : Nat → Int → (Option ρ) → (Option ρ) → Option ρ
  | 0, _, _, _ => none
  | m + 1, x12, k0, k1 =>
    (bif (decide (x12 < x11)) then (L67v2 fuel x9 x10 x11 x12 fuel 0
    k0
    (L67v3 fuel x9 x10 x11 m (w64 (x12 + 1)) k0 k1)) else k1)

theorem nl67v3 {ρ σ : Type} (fuel : Nat) (x9 : Nat) (x10 : Nat → Nat → CV) (x11 : Int) (g : ρ → Option σ) : ∀ (m : Nat) (x12 : Int) (k0 : Option ρ) (k1 : Option ρ), ob (L67v3 fuel x9 x10 x11 m x12 k0 k1) g = L67v3 fuel x9 x10 x11 m x12 (ob k0 g) (ob k1 g)
  | 0, _, _, _ => rfl
  | m + 1, x12, k0, k1 => by
    simp only [L67v3, ob_bif, ob_ob, ob_none, nl67v3 fuel x9 x10 x11 g m, nl67v2]

def s67v5 (x9 : Nat) (x10 : Nat → Nat → CV) (x11 : Int) (x12 : Int) : St := ⟨[.x (.c (.ro false (.pr (.int .i64) (.pr (.int .i64) .nil)) x9 x10)), .u, .u, .x (.c (.i .i64 x11)), .x (.c (.i .i64 x12)), .x (.c (.i .i64 0)), .u, .u, .u, .u, .u, .u, .u, .u, .u, .u, .u, .u, .u, .u, .u, .u, .u, .u, .u, .u, .u, .u, .u, .u, .u, .u, .u, .u, .u, .u, .u, .u, .u, .u, .u, .u, .u, .u, .u, .u, .u, .u, .u, .u, .u, .u, .u, .u, .u, .u, .u, .u, .u, .u, .u, .u, .u, .u, .u, .u, .u, .u, .u, .u, .u, .u, .u, .u, .u, .u, .u, .u, .u, .u, .u, .u, .u, .u, .u, .u, .u, .u, .u, .u, .u, .u, .u, .u],
    []⟩

theorem r67v3 (fuel : Nat) (m : Nat) {ρ : Type} (k : Ex → St → Option ρ) (x9 : Nat) (x10 : Nat → Nat → CV) (x11 : Int) (x12 : Int) :
    loopH (B67v3 (C33 fuel) fuel) N67v3 (m + 1) (s67v3 x9 x10 x11 x12) k =
    (bif (decide (x12 < x11)) then (loopN (B67v2 (C33 fuel) fuel) N67v2 fuel (s67v5 x9 x10 x11 x12) (kBlk 2 (kBlk 1 (kSeq (C33 fuel) fuel [2, 5, 18, 19, 20, 21, 22, 23, 24, 25, 26, 27, 28, 29, 30, 31] A67v4 (kLoop (B67v3 (C33 fuel) fuel) N67v3 m k))))) else (k (.exit 0) (s67v4 x9 x10 x11))) := by kernel_rfl

theorem t67v1 (fuel : Nat) {ρ : Type} (k : Ex → St → Option ρ) (x9 : Nat) (x10 : Nat → Nat → CV) (x11 : Int) (x12 : Int) :
    loopN (B67v2 (C33 fuel) fuel) N67v2 fuel (s67v5 x9 x10 x11 x12) k =
    L67v2 fuel x9 x10 x11 x12 fuel 0 (k .ret s67v1) (k (.exit 2) (s67v2 x9 x10 x11 x12)) :=
  (loopN_at (st' := (s67v0 x9 x10 x11 x12 0)) (by kernel_rfl)).trans (q67v2 fuel x9 x10 x11 x12 k fuel 0)

theorem g67v2 (fuel : Nat) (m : Nat) {ρ : Type} (k : Ex → St → Option ρ) :
    (kBlk 2 (kBlk 1 (kSeq (C33 fuel) fuel [2, 5, 18, 19, 20, 21, 22, 23, 24, 25, 26, 27, 28, 29, 30, 31] A67v4 (kLoop (B67v3 (C33 fuel) fuel) N67v3 m k)))) .ret s67v1 =
    (k .ret s67v1) := by kernel_rfl

theorem g67v3 (fuel : Nat) (m : Nat) {ρ : Type} (k : Ex → St → Option ρ) (x9 : Nat) (x10 : Nat → Nat → CV) (x11 : Int) (x12 : Int) :
    (kBlk 2 (kBlk 1 (kSeq (C33 fuel) fuel [2, 5, 18, 19, 20, 21, 22, 23, 24, 25, 26, 27, 28, 29, 30, 31] A67v4 (kLoop (B67v3 (C33 fuel) fuel) N67v3 m k)))) (.exit 2) (s67v2 x9 x10 x11 x12) =
    (loopH (B67v3 (C33 fuel) fuel) N67v3 m (s67v3 x9 x10 x11 (w64 (x12 + 1))) k) := by kernel_rfl

theorem q67v3 (fuel : Nat) (x9 : Nat) (x10 : Nat → Nat → CV) (x11 : Int) {ρ : Type} (k : Ex → St → Option ρ) : ∀ (m : Nat) (x12 : Int),
    loopH (B67v3 (C33 fuel) fuel) N67v3 m (s67v3 x9 x10 x11 x12) k = L67v3 fuel x9 x10 x11 m x12 (k .ret s67v1) (k (.exit 0) (s67v4 x9 x10 x11))
  | 0, _ => rfl
  | m + 1, x12 => by
    rw [r67v3]
    simp only [L67v3, q67v3 fuel x9 x10 x11 k m, t67v1, g67v2, g67v3]

def B67v5 (C : Oracle) (fuel : Nat) {ρ : Type} : St → (Ex → St → Option ρ) → Option ρ := fun st k => evalC C fuel A67v9 st k
def N67v5 : St → Option St := fun s => s.norm [1, 2, 4, 5, 9, 11, 12, 13, 14, 15, 16, 17, 18, 19, 20, 21, 22, 23, 24, 25, 26, 27, 28, 29, 30, 31, 32, 33, 34, 35, 36, 37, 38, 39, 40, 41, 42, 43, 44, 45, 46, 47, 48, 49, 50, 51, 52, 53, 54, 55, 56, 57, 58, 59, 60, 61, 62, 63, 64, 65, 66, 67, 68, 69, 70, 71, 72, 73, 74, 75, 76, 77, 78, 79, 80, 81, 82, 83, 84, 85, 86, 87, 88, 89, 90, 91, 92, 93] 3

def s67v6 (x66 : Nat) (x67 : Nat → Nat → CV) (x68 : Int) (x69 : Int) (x70 : Int) (x71 : Int) (x72 : Int) (x73 : Int) (x74 : Int) (x75 : Int) (x76 : Int) : St := ⟨[.x (.c (.ro false (.pr (.int .i64) (.pr (.int .i64) .nil)) x66 x67)), .u, .u, .x (.c (.i .i64 x68)), .u, .u, .x (.c (.i .i64 x69)), .x (.ptr 0 0), .x (.ptr 1 0), .u, .x (.c (.i .i64 x70)), .u, .u, .u, .u, .u, .u, .u, .u, .u, .u, .u, .u, .u, .u, .u, .u, .u, .u, .u, .u, .u, .u, .u, .u, .u, .u, .u, .u, .u, .u, .u, .u, .u, .u, .u, .u, .u, .u, .u, .u, .u, .u, .u, .u, .u, .u, .u, .u, .u, .u, .u, .u, .u, .u, .u, .u, .u, .u, .u, .u, .u, .u, .u, .u, .u, .u, .u, .u, .u, .u, .u, .u, .u, .u, .u, .u, .u, .u, .u, .u, .u, .u, .u],
    [.box [(.c (.i .i64 x71)), (.c (.i .i64 x72))], .box [(.c (.i .i64 x73)), (.c (.i .i64 x74))], .box [(.c (.i .i64 x75)), (.c (.i .i64 x76))]]⟩

def s67v7 (x71 : Int) (x72 : Int) (x73 : Int) (x74 : Int) (x75 : Int) (x76 : Int) : St := ⟨[.u, .u, .x (.c (.b false)), .u, .u, .u, .u, .u, .u, .u, .u, .u, .u, .u, .u, .u, .u, .u, .u, .u, .u, .u, .u, .u, .u, .u, .u, .u, .u, .u, .u, .u, .u, .u, .u, .u, .u, .u, .u, .u, .u, .u, .u, .u, .u, .u, .u, .u, .u, .u, .u, .u, .u, .u, .u, .u, .u, .u, .u, .u, .u, .u, .u, .u, .u, .u, .u, .u, .u, .u, .u, .u, .u, .u, .u, .u, .u, .u, .u, .u, .u, .u, .u, .u, .u, .u, .u, .u, .u, .u, .u, .u, .u, .u],
    [.box [(.c (.i .i64 x71)), (.c (.i .i64 x72))], .box [(.c (.i .i64 x73)), (.c (.i .i64 x74))], .box [(.c (.i .i64 x75)), (.c (.i .i64 x76))]]⟩

def s67v8 (x66 : Nat) (x67 : Nat → Nat → CV) (x68 : Int) (x69 : Int) (x71 : Int) (x72 : Int) (x73 : Int) (x74 : Int) (x75 : Int) (x76 : Int) : St := ⟨[.x (.c (.ro false (.pr (.int .i64) (.pr (.int .i64) .nil)) x66 x67)), .u, .u, .x (.c (.i .i64 x68)), .u, .u, .x (.c (.i .i64 x69)), .u, .u, .u, .u, .u, .u, .u, .u, .u, .u, .u, .u, .u, .u, .u, .u, .u, .u, .u, .u, .u, .u, .u, .u, .u, .u, .u, .u, .u, .u, .u, .u, .u, .u, .u, .u, .u, .u, .u, .u, .u, .u, .u, .u, .u, .u, .u, .u, .u, .u, .u, .u, .u, .u, .u, .u, .u, .u, .u, .u, .u, .u, .u, .u, .u, .u, .u, .u, .u, .u, .u, .u, .u, .u, .u, .u, .u, .u, .u, .u, .u, .u, .u, .u, .u, .u, .u],
    [.box [(.c (.i .i64 x71)), (.c (.i .i64 x72))], .box [(.c (.i .i64 x73)), (.c (.i .i64 x74))], .box [(.c (.i .i64 x75)), (.c (.i .i64 x76))]]⟩

def L67v5 {ρ : Type} (fuel : Nat) (x66 : Nat) (x67 : Nat → Nat → CV) (x68 : Int) (x69 : Int) (x71 : Int) (x72 : Int) (x73 : Int) (x74 : Int) (x75 : Int) (x76 : Int) : Nat → Int → (Option ρ) → (Option ρ) → Option ρ
  | 0, _, _, _ => none
  | m + 1, x70, k0, k1 =>
    (bif (decide (x70 < x68)) then (bif (x68 == 0) then none else (bif (((Int.tmod (w64 (x70 + 1)) x68) != x69) == true) then (bif (inb x70 x66) then (bif (x68 == 0) then none else (bif (inb (Int.tmod (w64 (x70 + 1)) x68) x66) then (ob (F82 fuel x71 x72 x73 x74 (CV.int (x67 (Int.toNat x70) 0)) (CV.int (x67 (Int.toNat x70) 1)) (CV.int (x67 (Int.toNat (Int.tmod (w64 (x70 + 1)) x68)) 0)) (CV.int (x67 (Int.toNat (Int.tmod (w64 (x70 + 1)) x68)) 1))) fun x77 => (bif x77 then k0 else (L67v5 fuel x66 x67 x68 x69 x71 x72 x73 x74 x75 x76 m (w64 (x70 + 1)) k0 k1))) else none)) else none) else (L67v5 fuel x66 x67 x68 x69 x71 x72 x73 x74 x75 x76 m (w64 (x70 + 1)) k0 k1))) else k1)

theorem nl67v5 {ρ σ : Type} (fuel : Nat) (x66 : Nat) (x67 : Nat → Nat → CV) (x68 : Int) (x69 : Int) (x71 : Int) (x72 : Int) (x73 : Int) (x74 : Int) (x75 : Int) (x76 : Int) (g : ρ → Option σ) : ∀ (m : Nat) (x70 : Int) (k0 : Option ρ) (k1 : Option ρ), ob (L67v5 fuel x66 x67 x68 x69 x71 x72 x73 x74 x75 x76 m x70 k0 k1) g = L67v5 fuel x66 x67 x68 x69 x71 x72 x73 x74 x75 x76 m x70 (ob k0 g) (ob k1 g)
  | 0, _, _, _ => rfl
  | m + 1, x70, k0, k1 => by
    simp only [L67v5, ob_bif, ob_ob, ob_none, nl67v5 fuel x66 x67 x68 x69 x71 x72 x73 x74 x75 x76 g m]

theorem r67v5 (fuel : Nat) (m : Nat) {ρ : Type} (k : Ex → St → Option ρ) (x66 : Nat) (x67 : Nat → Nat → CV) (x68 : Int) (x69 : Int) (x71 : Int) (x72 : Int) (x73 : Int) (x74 : Int) (x75 : Int) (x76 : Int) (x70 : Int) :
    loopH (B67v5 (C33 fuel) fuel) N67v5 (m + 1) (s67v6 x66 x67 x68 x69 x70 x71 x72 x73 x74 x75 x76) k =
    (bif (decide (x70 < x68)) then (bif (x68 == 0) then none else (bif (((Int.tmod (w64 (x70 + 1)) x68) != x69) == true) then (bif (inb x70 x66) then (bif (x68 == 0) then none else (bif (inb (Int.tmod (w64 (x70 + 1)) x68) x66) then (ob (F82 fuel x71 x72 x73 x74 (CV.int (x67 (Int.toNat x70) 0)) (CV.int (x67 (Int.toNat x70) 1)) (CV.int (x67 (Int.toNat (Int.tmod (w64 (x70 + 1)) x68)) 0)) (CV.int (x67 (Int.toNat (Int.tmod (w64 (x70 + 1)) x68)) 1))) fun x77 => (bif x77 then (k .ret (s67v7 x71 x72 x73 x74 x75 x76)) else (loopH (B67v5 (C33 fuel) fuel) N67v5 m (s67v6 x66 x67 x68 x69 (w64 (x70 + 1)) x71 x72 x73 x74 x75 x76) k))) else none)) else none) else (loopH (B67v5 (C33 fuel) fuel) N67v5 m (s67v6 x66 x67 x68 x69 (w64 (x70 + 1)) x71 x72 x73 x74 x75 x76) k))) else (k (.exit 6) (s67v8 x66 x67 x68 x69 x71 x72 x73 x74 x75 x76))) := by kernel_rfl

theorem q67v5 (fuel : Nat) (x66 : Nat) (x67 : Nat → Nat → CV) (x68 : Int) (x69 : Int) (x71 : Int) (x72 : Int) (x73 : Int) (x74 : Int) (x75 : Int) (x76 : Int) {ρ : Type} (k : Ex → St → Option ρ) : ∀ (m : Nat) (x70 : Int),
    loopH (B67v5 (C33 fuel) fuel) N67v5 m (s67v6 x66 x67 x68 x69 x70 x71 x72 x73 x74 x75 x76) k = L67v5 fuel x66 x67 x68 x69 x71 x72 x73 x74 x75 x76 m x70 (k .ret (s67v7 x71 x72 x73 x74 x75 x76)) (k (.exit 6) (s67v8 x66 x67 x68 x69 x71 x72 x73 x74 x75 x76))
  | 0, _ => rfl
  | m + 1, x70 => by
    rw [r67v5]
    simp only [L67v5, q67v5 fuel x66 x67 x68 x69 x71 x72 x73 x74 x75 x76 k m]

def B67v6 (C : Oracle) (fuel : Nat) {ρ : Type} : St → (Ex → St → Option ρ) → Option ρ := fun st k => evalC C fuel A67v13 st k
def N67v6 : St → Option St := fun s => s.norm [1, 2, 4, 5, 7, 8, 9, 10, 11, 12, 13, 14, 15, 16, 17, 18, 19, 20, 21, 22, 23, 24, 25, 26, 27, 28, 29, 30, 31, 32, 33, 34, 35, 36, 37, 38, 39, 40, 41, 42, 43, 44, 45, 46, 47, 48, 49, 50, 51, 52, 53, 54, 55, 56, 57, 58, 59, 60, 61, 62, 63, 64, 65, 66, 67, 68, 69, 70, 71, 72, 73, 74, 75, 76, 77, 78, 79, 80, 81, 82, 83, 84, 85, 86, 87, 88, 89, 90, 91, 92, 93] 0

def s67v9 (x48 : Nat) (x49 : Nat → Nat → CV) (x50 : Int) (x51 : Int) : St := ⟨[.x (.c (.ro false (.pr (.int .i64) (.pr (.int .i64) .nil)) x48 x49)), .u, .u, .x (.c (.i .i64 x50)), .u, .u, .x (.c (.i .i64 x51)), .u, .u, .u, .u, .u, .u, .u, .u, .u, .u, .u, .u, .u, .u, .u, .u, .u, .u, .u, .u, .u, .u, .u, .u, .u, .u, .u, .u, .u, .u, .u, .u, .u, .u, .u, .u, .u, .u, .u, .u, .u, .u, .u, .u, .u, .u, .u, .u, .u, .u, .u, .u, .u, .u, .u, .u, .u, .u, .u, .u, .u, .u, .u, .u, .u, .u, .u, .u, .u, .u, .u, .u, .u, .u, .u, .u, .u, .u, .u, .u, .u, .u, .u, .u, .u, .u, .u],
    []⟩

def s67v10 (x78 : Int) (x79 : Int) (x80 : Int) (x81 : Int) (x82 : Int) (x83 : Int) : St := ⟨[.u, .u, .x (.c (.b false)), .u, .u, .u, .u, .u, .u, .u, .u, .u, .u, .u, .u, .u, .u, .u, .u, .u, .u, .u, .u, .u, .u, .u, .u, .u, .u, .u, .u, .u, .u, .u, .u, .u, .u, .u, .u, .u, .u, .u, .u, .u, .u, .u, .u, .u, .u, .u, .u, .u, .u, .u, .u, .u, .u, .u, .u, .u, .u, .u, .u, .u, .u, .u, .u, .u, .u, .u, .u, .u, .u, .u, .u, .u, .u, .u, .u, .u, .u, .u, .u, .u, .u, .u, .u, .u, .u, .u, .u, .u, .u, .u],
    [.box [(.c (.i .i64 x78)), (.c (.i .i64 x79))], .box [(.c (.i .i64 x80)), (.c (.i .i64 x81))], .box [(.c (.i .i64 x82)), (.c (.i .i64 x83))]]⟩

def s67v11 : St := ⟨[.u, .u, .u, .u, .u, .u, .u, .u, .u, .u, .u, .u, .u, .u, .u, .u, .u, .u, .u, .u, .u, .u, .u, .u, .u, .u, .u, .u, .u, .u, .u, .u, .u, .u, .u, .u, .u, .u, .u, .u, .u, .u, .u, .u, .u, .u, .u, .u, .u, .u, .u, .u, .u, .u, .u, .u, .u, .u, .u, .u, .u, .u, .u, .u, .u, .u, .u, .u, .u, .u, .u, .u, .u, .u, .u, .u, .u, .u, .u, .u, .u, .u, .u, .u, .u, .u, .u, .u, .u, .u, .u, .u, .u, .u],
    []⟩

def L67v6 {ρ : Type} (fuel : Nat) (x48 : Nat) (x49 : Nat → Nat → CV) (x50 : Int) : Nat → Int → (Int → Int → Int → Int → Int → Int → Option ρ) → (Option ρ) → Option ρ
  | 0, _, _, _ => none
  | m + 1, x51, k0, k1 =>
    (bif (decide (x51 < x50)) then (bif (inb x51 x48) then (bif (x50 == 0) then none else (bif (inb (Int.tmod (w64 (x51 + 1)) x50) x48) then (bif (x50 == 0) then none else (bif (inb (Int.tmod (w64 (x51 + 2)) x50) x48) then (ob (F70 fuel (CV.int (x49 (Int.toNat x51) 0)) (CV.int (x49 (Int.toNat x51) 1)) (CV.int (x49 (Int.toNat (Int.tmod (w64 (x51 + 1)) x50)) 0)) (CV.int (x49 (Int.toNat (Int.tmod (w64 (x51 + 1)) x50)) 1)) (CV.int (x49 (Int.toNat (Int.tmod (w64 (x51 + 2)) x50)) 0)) (CV.int (x49 (Int.toNat (Int.tmod (w64 (x51 + 2)) x50)) 1))) fun x52 => (bif (x52 == false) then (ob (F70 fuel (CV.int (x49 (Int.toNat (Int.tmod (w64 (x51 + 2)) x50)) 0)) (CV.int (x49 (Int.toNat (Int.tmod (w64 (x51 + 2)) x50)) 1)) (CV.int (x49 (Int.toNat x51) 0)) (CV.int (x49 (Int.toNat x51) 1)) (CV.int (x49 (Int.toNat (Int.tmod (w64 (x51 + 1)) x50)) 0)) (CV.int (x49 (Int.toNat (Int.tmod (w64 (x51 + 1)) x50)) 1))) fun x53 => (bif x53 then (k0 (CV.int (x49 (Int.toNat x51) 0)) (CV.int (x49 (Int.toNat x51) 1)) (CV.int (x49 (Int.toNat (Int.tmod (w64 (x51 + 1)) x50)) 0)) (CV.int (x49 (Int.toNat (Int.tmod (w64 (x51 + 1)) x50)) 1)) (CV.int (x49 (Int.toNat (Int.tmod (w64 (x51 + 2)) x50)) 0)) (CV.int (x49 (Int.toNat (Int.tmod (w64 (x51 + 2)) x50)) 1))) else (L67v5 fuel x48 x49 x50 x51 (CV.int (x49 (Int.toNat x51) 0)) (CV.int (x49 (Int.toNat x51) 1)) (CV.int (x49 (Int.toNat (Int.tmod (w64 (x51 + 1)) x50)) 0)) (CV.int (x49 (Int.toNat (Int.tmod (w64 (x51 + 1)) x50)) 1)) (CV.int (x49 (Int.toNat (Int.tmod (w64 (x51 + 2)) x50)) 0)) (CV.int (x49 (Int.toNat (Int.tmod (w64 (x51 + 2)) x50)) 1)) fuel (w64 (x51 + 2))
    (k0 (CV.int (x49 (Int.toNat x51) 0)) (CV.int (x49 (Int.toNat x51) 1)) (CV.int (x49 (Int.toNat (Int.tmod (w64 (x51 + 1)) x50)) 0)) (CV.int (x49 (Int.toNat (Int.tmod (w64 (x51 + 1)) x50)) 1)) (CV.int (x49 (Int.toNat (Int.tmod (w64 (x51 + 2)) x50)) 0)) (CV.int (x49 (Int.toNat (Int.tmod (w64 (x51 + 2)) x50)) 1)))
    (L67v6 fuel x48 x49 x50 m (w64 (x51 + 1)) k0 k1)))) else (k0 (CV.int (x49 (Int.toNat x51) 0)) (CV.int (x49 (Int.toNat x51) 1)) (CV.int (x49 (Int.toNat (Int.tmod (w64 (x51 + 1)) x50)) 0)) (CV.int (x49 (Int.toNat (Int.tmod (w64 (x51 + 1)) x50)) 1)) (CV.int (x49 (Int.toNat (Int.tmod (w64 (x51 + 2)) x50)) 0)) (CV.int (x49 (Int.toNat (Int.tmod (w64 (x51 + 2)) x50)) 1))))) else none)) else none)) else none) else k1)

theorem nl67v6 {ρ σ : Type} (fuel : Nat) (x48 : Nat) (x49 : Nat → Nat → CV) (x50 : Int) (g : ρ → Option σ) : ∀ (m : Nat) (x51 : Int) (k0 : Int → Int → Int → Int → Int → Int → Option ρ) (k1 : Option ρ), ob (L67v6 fuel x48 x49 x50 m x51 k0 k1) g = L67v6 fuel x48 x49 x50 m x51 (fun x78 x79 x80 x81 x82 x83 => ob (k0 x78 x79 x80 x81 x82 x83) g) (ob k1 g)
  | 0, _, _, _ => rfl
  | m + 1, x51, k0, k1 => by
    simp only [L67v6, ob_bif, ob_ob, ob_none, nl67v6 fuel x48 x49 x50 g m, nl67v5]

def s67v12 (x48 : Nat) (x49 : Nat → Nat → CV) (x50 : Int) (x51 : Int) : St := ⟨[.x (.c (.ro false (.pr (.int .i64) (.pr (.int .i64) .nil)) x48 x49)), .u, .u, .x (.c (.i .i64 x50)), .u, .u, .x (.c (.i .i64 x51)), .x (.ptr 0 0), .x (.ptr 1 0), .x (.ptr 2 0), .x (.c (.i .i64 (w64 (x51 + 2)))), .u, .u, .u, .u, .u, .u, .u, .u, .u, .u, .u, .u, .u, .u, .u, .u, .u, .u, .u, .u, .u, .u, .u, .u, .u, .u, .x (.c (.ro false (.pr (.int .i64) (.pr (.int .i64) .nil)) x48 x49)), .x (.c (.i .i64 x51)), .x (.c (.rp (.pr (.int .i64) (.pr (.int .i64) .nil)) (x49 (Int.toNat x51)))), .agg [(.c (.i .i64 (CV.int (x49 (Int.toNat x51) 0)))), (.c (.i .i64 (CV.int (x49 (Int.toNat x51) 1))))], .x (.c (.ro false (.pr (.int .i64) (.pr (.int .i64) .nil)) x48 x49)), .x (.c (.i .i64 x51)), .x (.c (.i .i64 (w64 (x51 + 1)))), .x (.c (.i .i64 x50)), .x (.c (.i .i64 (Int.tmod (w64 (x51 + 1)) x50))), .x (.c (.rp (.pr (.int .i64) (.pr (.int .i64) .nil)) (x49 (Int.toNat (Int.tmod (w64 (x51 + 1)) x50))))), .agg [(.c (.i .i64 (CV.int (x49 (Int.toNat (Int.tmod (w64 (x51 + 1)) x50)) 0)))), (.c (.i .i64 (CV.int (x49 (Int.toNat (Int.tmod (w64 (x51 + 1)) x50)) 1))))], .x (.c (.ro false (.pr (.int .i64) (.pr (.int .i64) .nil)) x48 x49)), .x (.c (.i .i64 x51)), .x (.c (.i .i64 (w64 (x51 + 2)))), .x (.c (.i .i64 x50)), .x (.c (.i .i64 (Int.tmod (w64 (x51 + 2)) x50))), .x (.c (.rp (.pr (.int .i64) (.pr (.int .i64) .nil)) (x49 (Int.toNat (Int.tmod (w64 (x51 + 2)) x50))))), .agg [(.c (.i .i64 (CV.int (x49 (Int.toNat (Int.tmod (w64 (x51 + 2)) x50)) 0)))), (.c (.i .i64 (CV.int (x49 (Int.toNat (Int.tmod (w64 (x51 + 2)) x50)) 1))))], .u, .u, .u, .u, .u, .u, .u, .u, .u, .u, .x (.c (.i .i64 x51)), .x (.c (.i .i64 (w64 (x51 + 2)))), .u, .u, .u, .u, .u, .u, .u, .u, .u, .u, .u, .u, .u, .u, .u, .u, .u, .u, .u, .u, .u, .u, .u, .u, .u, .u, .u],
    [.box [(.c (.i .i64 (CV.int (x49 (Int.toNat x51) 0)))), (.c (.i .i64 (CV.int (x49 (Int.toNat x51) 1))))], .box [(.c (.i .i64 (CV.int (x49 (Int.toNat (Int.tmod (w64 (x51 + 1)) x50)) 0)))), (.c (.i .i64 (CV.int (x49 (Int.toNat (Int.tmod (w64 (x51 + 1)) x50)) 1))))], .box [(.c (.i .i64 (CV.int (x49 (Int.toNat (Int.tmod (w64 (x51 + 2)) x50)) 0)))), (.c (.i .i64 (CV.int (x49 (Int.toNat (Int.tmod (w64 (x51 + 2)) x50)) 1))))]]⟩

theorem r67v6 (fuel : Nat) (m : Nat) {ρ : Type} (k : Ex → St → Option ρ) (x48 : Nat) (x49 : Nat → Nat → CV) (x50 : Int) (x51 : Int) :
    loopH (B67v6 (C33 fuel) fuel) N67v6 (m + 1) (s67v9 x48 x49 x50 x51) k =
    (bif (decide (x51 < x50)) then (bif (inb x51 x48) then (bif (x50 == 0) then none else (bif (inb (Int.tmod (w64 (x51 + 1)) x50) x48) then (bif (x50 == 0) then none else (bif (inb (Int.tmod (w64 (x51 + 2)) x50) x48) then (ob (F70 fuel (CV.int (x49 (Int.toNat x51) 0)) (CV.int (x49 (Int.toNat x51) 1)) (CV.int (x49 (Int.toNat (Int.tmod (w64 (x51 + 1)) x50)) 0)) (CV.int (x49 (Int.toNat (Int.tmod (w64 (x51 + 1)) x50)) 1)) (CV.int (x49 (Int.toNat (Int.tmod (w64 (x51 + 2)) x50)) 0)) (CV.int (x49 (Int.toNat (Int.tmod (w64 (x51 + 2)) x50)) 1))) fun x52 => (bif (x52 == false) then (ob (F70 fuel (CV.int (x49 (Int.toNat (Int.tmod (w64 (x51 + 2)) x50)) 0)) (CV.int (x49 (Int.toNat (Int.tmod (w64 (x51 + 2)) x50)) 1)) (CV.int (x49 (Int.toNat x51) 0)) (CV.int (x49 (Int.toNat x51) 1)) (CV.int (x49 (Int.toNat (Int.tmod (w64 (x51 + 1)) x50)) 0)) (CV.int (x49 (Int.toNat (Int.tmod (w64 (x51 + 1)) x50)) 1))) fun x53 => (bif x53 then (k .ret (s67v10 (CV.int (x49 (Int.toNat x51) 0)) (CV.int (x49 (Int.toNat x51) 1)) (CV.int (x49 (Int.toNat (Int.tmod (w64 (x51 + 1)) x50)) 0)) (CV.int (x49 (Int.toNat (Int.tmod (w64 (x51 + 1)) x50)) 1)) (CV.int (x49 (Int.toNat (Int.tmod (w64 (x51 + 2)) x50)) 0)) (CV.int (x49 (Int.toNat (Int.tmod (w64 (x51 + 2)) x50)) 1)))) else (loopN (B67v5 (C33 fuel) fuel) N67v5 fuel (s67v12 x48 x49 x50 x51) (kBlk 6 (kBlk 5 (kSeq (C33 fuel) fuel [2, 7, 8, 9, 10, 37, 38, 39, 40, 41, 42, 43, 44, 45, 46, 47, 48, 49, 50, 51, 52, 53, 54, 55, 56, 57, 58, 59, 60, 61, 62, 63, 64, 65, 66, 67, 68, 69, 70, 71, 72, 73, 74, 75, 76, 77, 78, 79, 80, 81, 82, 83, 84, 85, 86, 87, 88, 89, 90, 91, 92, 93] A67v11 (kLoop (B67v6 (C33 fuel) fuel) N67v6 m k))))))) else (k .ret (s67v10 (CV.int (x49 (Int.toNat x51) 0)) (CV.int (x49 (Int.toNat x51) 1)) (CV.int (x49 (Int.toNat (Int.tmod (w64 (x51 + 1)) x50)) 0)) (CV.int (x49 (Int.toNat (Int.tmod (w64 (x51 + 1)) x50)) 1)) (CV.int (x49 (Int.toNat (Int.tmod (w64 (x51 + 2)) x50)) 0)) (CV.int (x49 (Int.toNat (Int.tmod (w64 (x51 + 2)) x50)) 1)))))) else none)) else none)) else none) else (k (.exit 4) s67v11)) := by kernel_rfl

theorem t67v4 (fuel : Nat) {ρ : Type} (k : Ex → St → Option ρ) (x48 : Nat) (x49 : Nat → Nat → CV) (x50 : Int) (x51 : Int) :
    loopN (B67v5 (C33 fuel) fuel) N67v5 fuel (s67v12 x48 x49 x50 x51) k =
    L67v5 fuel x48 x49 x50 x51 (CV.int (x49 (Int.toNat x51) 0)) (CV.int (x49 (Int.toNat x51) 1)) (CV.int (x49 (Int.toNat (Int.tmod (w64 (x51 + 1)) x50)) 0)) (CV.int (x49 (Int.toNat (Int.tmod (w64 (x51 + 1)) x50)) 1)) (CV.int (x49 (Int.toNat (Int.tmod (w64 (x51 + 2)) x50)) 0)) (CV.int (x49 (Int.toNat (Int.tmod (w64 (x51 + 2)) x50)) 1)) fuel (w64 (x51 + 2)) (k .ret (s67v7 (CV.int (x49 (Int.toNat x51) 0)) (CV.int (x49 (Int.toNat x51) 1)) (CV.int (x49 (Int.toNat (Int.tmod (w64 (x51 + 1)) x50)) 0)) (CV.int (x49 (Int.toNat (Int.tmod (w64 (x51 + 1)) x50)) 1)) (CV.int (x49 (Int.toNat (Int.tmod (w64 (x51 + 2)) x50)) 0)) (CV.int (x49 (Int.toNat (Int.tmod (w64 (x51 + 2)) x50)) 1)))) (k (.exit 6) (s67v8 x48 x49 x50 x51 (CV.int (x49 (Int.toNat x51) 0)) (CV.int (x49 (Int.toNat x51) 1)) (CV.int (x49 (Int.toNat (Int.tmod (w64 (x51 + 1)) x50)) 0)) (CV.int (x49 (Int.toNat (Int.tmod (w64 (x51 + 1)) x50)) 1)) (CV.int (x49 (Int.toNat (Int.tmod (w64 (x51 + 2)) x50)) 0)) (CV.int (x49 (Int.toNat (Int.tmod (w64 (x51 + 2)) x50)) 1)))) :=
  (loopN_at (st' := (s67v6 x48 x49 x50 x51 (w64 (x51 + 2)) (CV.int (x49 (Int.toNat x51) 0)) (CV.int (x49 (Int.toNat x51) 1)) (CV.int (x49 (Int.toNat (Int.tmod (w64 (x51 + 1)) x50)) 0)) (CV.int (x49 (Int.toNat (Int.tmod (w64 (x51 + 1)) x50)) 1)) (CV.int (x49 (Int.toNat (Int.tmod (w64 (x51 + 2)) x50)) 0)) (CV.int (x49 (Int.toNat (Int.tmod (w64 (x51 + 2)) x50)) 1)))) (by kernel_rfl)).trans (q67v5 fuel x48 x49 x50 x51 (CV.int (x49 (Int.toNat x51) 0)) (CV.int (x49 (Int.toNat x51) 1)) (CV.int (x49 (Int.toNat (Int.tmod (w64 (x51 + 1)) x50)) 0)) (CV.int (x49 (Int.toNat (Int.tmod (w64 (x51 + 1)) x50)) 1)) (CV.int (x49 (Int.toNat (Int.tmod (w64 (x51 + 2)) x50)) 0)) (CV.int (x49 (Int.toNat (Int.tmod (w64 (x51 + 2)) x50)) 1)) k fuel (w64 (x51 + 2)))

theorem g67v5 (fuel : Nat) (m : Nat) {ρ : Type} (k : Ex → St → Option ρ) (x49 : Nat → Nat → CV) (x51 : Int) (x50 : Int) :
    (kBlk 6 (kBlk 5 (kSeq (C33 fuel) fuel [2, 7, 8, 9, 10, 37, 38, 39, 40, 41, 42, 43, 44, 45, 46, 47, 48, 49, 50, 51, 52, 53, 54, 55, 56, 57, 58, 59, 60, 61, 62, 63, 64, 65, 66, 67, 68, 69, 70, 71, 72, 73, 74, 75, 76, 77, 78, 79, 80, 81, 82, 83, 84, 85, 86, 87, 88, 89, 90, 91, 92, 93] A67v11 (kLoop (B67v6 (C33 fuel) fuel) N67v6 m k)))) .ret (s67v7 (CV.int (x49 (Int.toNat x51) 0)) (CV.int (x49 (Int.toNat x51) 1)) (CV.int (x49 (Int.toNat (Int.tmod (w64 (x51 + 1)) x50)) 0)) (CV.int (x49 (Int.toNat (Int.tmod (w64 (x51 + 1)) x50)) 1)) (CV.int (x49 (Int.toNat (Int.tmod (w64 (x51 + 2)) x50)) 0)) (CV.int (x49 (Int.toNat (Int.tmod (w64 (x51 + 2)) x50)) 1))) =
    (k .ret (s67v10 (CV.int (x49 (Int.toNat x51) 0)) (CV.int (x49 (Int.toNat x51) 1)) (CV.int (x49 (Int.toNat (Int.tmod (w64 (x51 + 1)) x50)) 0)) (CV.int (x49 (Int.toNat (Int.tmod (w64 (x51 + 1)) x50)) 1)) (CV.int (x49 (Int.toNat (Int.tmod (w64 (x51 + 2)) x50)) 0)) (CV.int (x49 (Int.toNat (Int.tmod (w64 (x51 + 2)) x50)) 1)))) := by kernel_rfl

theorem g67v6 (fuel : Nat) (m : Nat) {ρ : Type} (k : Ex → St → Option ρ) (x48 : Nat) (x49 : Nat → Nat → CV) (x50 : Int) (x51 : Int) :
    (kBlk 6 (kBlk 5 (kSeq (C33 fuel) fuel [2, 7, 8, 9, 10, 37, 38, 39, 40, 41, 42, 43, 44, 45, 46, 47, 48, 49, 50, 51, 52, 53, 54, 55, 56, 57, 58, 59, 60, 61, 62, 63, 64, 65, 66, 67, 68, 69, 70, 71, 72, 73, 74, 75, 76, 77, 78, 79, 80, 81, 82, 83, 84, 85, 86, 87, 88, 89, 90, 91, 92, 93] A67v11 (kLoop (B67v6 (C33 fuel) fuel) N67v6 m k)))) (.exit 6) (s67v8 x48 x49 x50 x51 (CV.int (x49 (Int.toNat x51) 0)) (CV.int (x49 (Int.toNat x51) 1)) (CV.int (x49 (Int.toNat (Int.tmod (w64 (x51 + 1)) x50)) 0)) (CV.int (x49 (Int.toNat (Int.tmod (w64 (x51 + 1)) x50)) 1)) (CV.int (x49 (Int.toNat (Int.tmod (w64 (x51 + 2)) x50)) 0)) (CV.int (x49 (Int.toNat (Int.tmod (w64 (x51 + 2)) x50)) 1))) =
    (loopH (B67v6 (C33 fuel) fuel) N67v6 m (s67v9 x48 x49 x50 (w64 (x51 + 1))) k) := by kernel_rfl

theorem q67v6 (fuel : Nat) (x48 : Nat) (x49 : Nat → Nat → CV) (x50 : Int) {ρ : Type} (k : Ex → St → Option ρ) : ∀ (m : Nat) (x51 : Int),
    loopH (B67v6 (C33 fuel) fuel) N67v6 m (s67v9 x48 x49 x50 x51) k = L67v6 fuel x48 x49 x50 m x51 (fun x78 x79 x80 x81 x82 x83 => k .ret (s67v10 x78 x79 x80 x81 x82 x83)) (k (.exit 4) s67v11)
  | 0, _ => rfl
  | m + 1, x51 => by
    rw [r67v6]
    simp only [L67v6, q67v6 fuel x48 x49 x50 k m, t67v4, g67v5, g67v6]

def D67 {ρ : Type} (fuel : Nat) (x1 : Nat) (x2 : Nat → Nat → CV) (k : Bool → Option ρ) : Option ρ :=
  (L67v3 fuel x1 x2 (Int.ofNat x1) fuel 0
    (k false)
    (L67v6 fuel x1 x2 (Int.ofNat x1) fuel 0
    (fun x84 x85 x86 x87 x88 x89 => (k false))
    (k true)))

def F67 (fuel : Nat) (x1 : Nat) (x2 : Nat → Nat → CV) : Option (Bool) := D67 fuel x1 x2 some

theorem n67 {ρ σ : Type} (fuel : Nat) (x1 : Nat) (x2 : Nat → Nat → CV) (k : (Bool) → Option ρ) (g : ρ → Option σ) : ob (D67 fuel x1 x2 k) g = D67 fuel x1 x2 fun t => ob (k t) g := by
  simp only [D67, ob_bif, ob_ob, ob_none, nl67v3, nl67v6]

theorem f67 {ρ : Type} (fuel : Nat) (x1 : Nat) (x2 : Nat → Nat → CV) (k : (Bool) → Option ρ) : D67 fuel x1 x2 k = ob (F67 fuel x1 x2) k := by
  unfold F67
  rw [n67]
  simp only [ob_some]

def s67v13 (x1 : Nat) (x2 : Nat → Nat → CV) : St := ⟨[.x (.c (.ro false (.pr (.int .i64) (.pr (.int .i64) .nil)) x1 x2)), .undef, .x (.c (.b false)), .x (.c (.i .i64 (Int.ofNat x1))), .x (.c (.i .i64 0)), .undef, .undef, .undef, .undef, .undef, .undef, .x (.c (.ro false (.pr (.int .i64) (.pr (.int .i64) .nil)) x1 x2)), .x (.c (.i .i64 (Int.ofNat x1))), .undef, .undef, .undef, .undef, .undef, .undef, .undef, .undef, .undef, .undef, .undef, .undef, .undef, .undef, .undef, .undef, .undef, .undef, .undef, .undef, .undef, .undef, .undef, .undef, .undef, .undef, .undef, .undef, .undef, .undef, .undef, .undef, .undef, .undef, .undef, .undef, .undef, .undef, .undef, .undef, .undef, .undef, .undef, .undef, .undef, .undef, .undef, .undef, .undef, .undef, .undef, .undef, .undef, .undef, .undef, .undef, .undef, .undef, .undef, .undef, .undef, .undef, .undef, .undef, .undef, .undef, .undef, .undef, .undef, .undef, .undef, .undef, .undef, .undef, .undef, .undef, .undef, .undef, .undef, .undef, .undef],
    []⟩

theorem walk67 (fuel : Nat) (x1 : Nat) (x2 : Nat → Nat → CV) :
    evalF (C33 fuel) fuel A67 [.v (.ro false (.pr (.int .i64) (.pr (.int .i64) .nil)) x1 x2)] =
    (loopN (B67v3 (C33 fuel) fuel) N67v3 fuel (s67v13 x1 x2) (kBlk 0 (kSeq (C33 fuel) fuel [2, 4, 5, 13, 14, 15, 16, 17, 18, 19, 20, 21, 22, 23, 24, 25, 26, 27, 28, 29, 30, 31] A67v15 (finish A67)))) := by kernel_rfl

theorem t67v7 (fuel : Nat) {ρ : Type} (k : Ex → St → Option ρ) (x1 : Nat) (x2 : Nat → Nat → CV) :
    loopN (B67v3 (C33 fuel) fuel) N67v3 fuel (s67v13 x1 x2) k =
    L67v3 fuel x1 x2 (Int.ofNat x1) fuel 0 (k .ret s67v1) (k (.exit 0) (s67v4 x1 x2 (Int.ofNat x1))) :=
  (loopN_at (st' := (s67v3 x1 x2 (Int.ofNat x1) 0)) (by kernel_rfl)).trans (q67v3 fuel x1 x2 (Int.ofNat x1) k fuel 0)

theorem g67v8 (fuel : Nat) :
    (kBlk 0 (kSeq (C33 fuel) fuel [2, 4, 5, 13, 14, 15, 16, 17, 18, 19, 20, 21, 22, 23, 24, 25, 26, 27, 28, 29, 30, 31] A67v15 (finish A67))) .ret s67v1 =
    (some [.v (.b false)]) := by kernel_rfl

def s67v14 (x1 : Nat) (x2 : Nat → Nat → CV) : St := ⟨[.x (.c (.ro false (.pr (.int .i64) (.pr (.int .i64) .nil)) x1 x2)), .u, .u, .x (.c (.i .i64 (Int.ofNat x1))), .u, .u, .x (.c (.i .i64 0)), .u, .u, .u, .u, .u, .u, .u, .u, .u, .u, .u, .u, .u, .u, .u, .u, .u, .u, .u, .u, .u, .u, .u, .u, .u, .u, .u, .u, .u, .u, .u, .u, .u, .u, .u, .u, .u, .u, .u, .u, .u, .u, .u, .u, .u, .u, .u, .u, .u, .u, .u, .u, .u, .u, .u, .u, .u, .u, .u, .u, .u, .u, .u, .u, .u, .u, .u, .u, .u, .u, .u, .u, .u, .u, .u, .u, .u, .u, .u, .u, .u, .u, .u, .u, .u, .u, .u],
    []⟩

theorem g67v9 (fuel : Nat) (x1 : Nat) (x2 : Nat → Nat → CV) :
    (kBlk 0 (kSeq (C33 fuel) fuel [2, 4, 5, 13, 14, 15, 16, 17, 18, 19, 20, 21, 22, 23, 24, 25, 26, 27, 28, 29, 30, 31] A67v15 (finish A67))) (.exit 0) (s67v4 x1 x2 (Int.ofNat x1)) =
    (loopN (B67v6 (C33 fuel) fuel) N67v6 fuel (s67v14 x1 x2) (kBlk 4 (kSeq (C33 fuel) fuel [2, 6, 7, 8, 9, 10, 32, 33, 34, 35, 36, 37, 38, 39, 40, 41, 42, 43, 44, 45, 46, 47, 48, 49, 50, 51, 52, 53, 54, 55, 56, 57, 58, 59, 60, 61, 62, 63, 64, 65, 66, 67, 68, 69, 70, 71, 72, 73, 74, 75, 76, 77, 78, 79, 80, 81, 82, 83, 84, 85, 86, 87, 88, 89, 90, 91, 92, 93] A67v14 (finish A67)))) := by kernel_rfl

theorem t67v10 (fuel : Nat) {ρ : Type} (k : Ex → St → Option ρ) (x1 : Nat) (x2 : Nat → Nat → CV) :
    loopN (B67v6 (C33 fuel) fuel) N67v6 fuel (s67v14 x1 x2) k =
    L67v6 fuel x1 x2 (Int.ofNat x1) fuel 0 (fun x78 x79 x80 x81 x82 x83 => k .ret (s67v10 x78 x79 x80 x81 x82 x83)) (k (.exit 4) s67v11) :=
  (loopN_at (st' := (s67v9 x1 x2 (Int.ofNat x1) 0)) (by kernel_rfl)).trans (q67v6 fuel x1 x2 (Int.ofNat x1) k fuel 0)

theorem g67v11 (fuel : Nat) (x84 : Int) (x85 : Int) (x86 : Int) (x87 : Int) (x88 : Int) (x89 : Int) :
    (kBlk 4 (kSeq (C33 fuel) fuel [2, 6, 7, 8, 9, 10, 32, 33, 34, 35, 36, 37, 38, 39, 40, 41, 42, 43, 44, 45, 46, 47, 48, 49, 50, 51, 52, 53, 54, 55, 56, 57, 58, 59, 60, 61, 62, 63, 64, 65, 66, 67, 68, 69, 70, 71, 72, 73, 74, 75, 76, 77, 78, 79, 80, 81, 82, 83, 84, 85, 86, 87, 88, 89, 90, 91, 92, 93] A67v14 (finish A67))) .ret (s67v10 x84 x85 x86 x87 x88 x89) =
    (some [.v (.b false)]) := by kernel_rfl

theorem g67v12 (fuel : Nat) :
    (kBlk 4 (kSeq (C33 fuel) fuel [2, 6, 7, 8, 9, 10, 32, 33, 34, 35, 36, 37, 38, 39, 40, 41, 42, 43, 44, 45, 46, 47, 48, 49, 50, 51, 52, 53, 54, 55, 56, 57, 58, 59, 60, 61, 62, 63, 64, 65, 66, 67, 68, 69, 70, 71, 72, 73, 74, 75, 76, 77, 78, 79, 80, 81, 82, 83, 84, 85, 86, 87, 88, 89, 90, 91, 92, 93] A67v14 (finish A67))) (.exit 4) s67v11 =
    (some [.v (.b true)]) := by kernel_rfl

theorem e67 (fuel : Nat) (x1 : Nat) (x2 : Nat → Nat → CV) : evalF (C33 fuel) fuel A67 [.v (.ro false (.pr (.int .i64) (.pr (.int .i64) .nil)) x1 x2)] = ob (F67 fuel x1 x2) fun t => some [.v (.b t)] := by
  rw [walk67, ← f67]
  simp only [D67, t67v7, g67v8, g67v9, t67v10, g67v11, g67v12]

def O67 (fuel : Nat) : Ora where
  o := fun args {ρ} K =>
    wc args fun a1 l2 =>
    wv a1 fun c3 =>
    wL (.pr (.int .i64) (.pr (.int .i64) .nil)) c3 fun y4 y5 =>
    wn l2 <|
    (ob (F67 fuel y4 y5) fun t => K [.v (.b t)])
  nat := fun args {ρ} K => by
    simp only [bind_wc, bind_wn, bind_wv, bind_wagg, bind_wI, bind_wB, bind_wS, bind_wL, bind_wP, bind_wFn, bind_ob, Option.bind_some]

theorem d67 {P : Program} (fuel : Nat) (hmix : P.follows .mixedOrders = true) (hC : Sound P (C33 fuel)) (hF : FFits P 67 A67) (args res : List A) (h : (O67 fuel).o args some = some res) : Den P 67 args res := by
  obtain ⟨a1, l2, rfl, z0⟩ := inv_wc h
  obtain ⟨c3, rfl, z1⟩ := inv_wv z0
  obtain ⟨y4, y5, h6, z2⟩ := inv_wL z1
  obtain ⟨hn, z3⟩ := inv_wn z2
  cases hn
  exact Den.weaken (.cons (WkA.v h6) .nil) (evalF_sound hmix hC hF ((e67 fuel y4 y5).trans z3))

def C34 (fuel : Nat) : Oracle := (C33 fuel).add 67 (fun _ => true) (O67 fuel)

/-- shipyard/shipyardref12.Check -/
def A37v1 : AC := (.seq (.region 9 [
  ⟨(some 2), .assign (.const (.int .i64 0)), none⟩] 0 none) []
  (.ret [0, 1, 3, 4, 5, 6, 7, 8, 9, 10, 11, 12, 13, 14]))
def A37v2 : AC := (.seq (.seq (.region 7 [
  ⟨(some 12), .move (.tmp 0), none⟩,
  ⟨(some 13), .call 67 [(.tmp 12)] [22] .snap, none⟩,
  ⟨(some 14), .unOp .not 4 (.tmp 13), none⟩] 0 none) []
  (.cond (.tmp 14)
  (.seq (.region 8 [
    ⟨(some 2), .assign (.const (.int .i64 17)), none⟩] 0 none) []
    (.ret [0, 1, 3, 4, 5, 6, 7, 8, 9, 10, 11, 12, 13, 14]))
  .skip)) [2, 12, 13, 14]
  A37v1)
def A37v3 : AC := (.seq (.seq (.region 5 [
  ⟨(some 9), .move (.tmp 0), none⟩,
  ⟨(some 10), .call 66 [(.tmp 9)] [22] .snap, none⟩,
  ⟨(some 11), .unOp .not 4 (.tmp 10), none⟩] 0 none) []
  (.cond (.tmp 11)
  (.seq (.region 6 [
    ⟨(some 2), .assign (.const (.int .i64 9)), none⟩] 0 none) []
    (.ret [0, 1, 3, 4, 5, 6, 7, 8, 9, 10, 11, 12, 13, 14]))
  .skip)) [2, 9, 10, 11]
  A37v2)
def A37v4 : AC := (.seq (.seq (.region 3 [
  ⟨(some 6), .move (.tmp 0), none⟩,
  ⟨(some 7), .len 22 false (.tmp 6), none⟩,
  ⟨(some 8), .binOp .gtr 3 (.tmp 7) (.const (.int .i64 32)) 3, none⟩] 0 none) []
  (.cond (.tmp 8)
  (.seq (.region 4 [
    ⟨(some 2), .assign (.const (.int .i64 4)), none⟩] 0 none) []
    (.ret [0, 1, 3, 4, 5, 6, 7, 8, 9, 10, 11, 12, 13, 14]))
  .skip)) [2, 6, 7, 8]
  A37v3)
def A37 : AF := ⟨15, [.tmp 2],
  (.seq (.region 0 [
  ⟨(some 2), .assign (.const (.int .i64 0)), none⟩] 0 none) []
  (.seq (.seq (.region 1 [
  ⟨(some 3), .move (.tmp 0), none⟩,
  ⟨(some 4), .len 22 false (.tmp 3), none⟩,
  ⟨(some 5), .binOp .lss 3 (.tmp 4) (.const (.int .i64 3)) 3, none⟩] 0 none) []
  (.cond (.tmp 5)
  (.seq (.region 2 [
    ⟨(some 2), .assign (.const (.int .i64 3)), none⟩] 0 none) []
    (.ret [0, 1, 3, 4, 5, 6, 7, 8, 9, 10, 11, 12, 13, 14]))
  .skip)) [2, 3, 4, 5]
  A37v4))⟩

def D37 {ρ : Type} (fuel : Nat) (x1 : Nat) (x2 : Nat → Nat → CV) (k : Int → Option ρ) : Option ρ :=
  (bif (decide ((Int.ofNat x1) < 3)) then (k 3) else (bif (decide ((Int.ofNat x1) > 32)) then (k 4) else (ob (F66 fuel x1 x2) fun x3 => (bif (!x3) then (k 9) else (ob (F67 fuel x1 x2) fun x4 => (bif (!x4) then (k 17) else (k 0)))))))

def F37 (fuel : Nat) (x1 : Nat) (x2 : Nat → Nat → CV) : Option (Int) := D37 fuel x1 x2 some

theorem n37 {ρ σ : Type} (fuel : Nat) (x1 : Nat) (x2 : Nat → Nat → CV) (k : (Int) → Option ρ) (g : ρ → Option σ) : ob (D37 fuel x1 x2 k) g = D37 fuel x1 x2 fun t => ob (k t) g := by
  simp only [D37, ob_bif, ob_ob, ob_none]

theorem f37 {ρ : Type} (fuel : Nat) (x1 : Nat) (x2 : Nat → Nat → CV) (k : (Int) → Option ρ) : D37 fuel x1 x2 k = ob (F37 fuel x1 x2) k := by
  unfold F37
  rw [n37]
  simp only [ob_some]

theorem walk37 (fuel : Nat) (x1 : Nat) (x2 : Nat → Nat → CV) :
    evalF (C34 fuel) fuel A37 [.v (.ro false (.pr (.int .i64) (.pr (.int .i64) .nil)) x1 x2)] =
    (bif (decide ((Int.ofNat x1) < 3)) then (some [.v (.i .i64 3)]) else (bif (decide ((Int.ofNat x1) > 32)) then (some [.v (.i .i64 4)]) else (ob (F66 fuel x1 x2) fun x3 => (bif (!x3) then (some [.v (.i .i64 9)]) else (ob (F67 fuel x1 x2) fun x4 => (bif (!x4) then (some [.v (.i .i64 17)]) else (some [.v (.i .i64 0)]))))))) := by kernel_rfl

theorem e37 (fuel : Nat) (x1 : Nat) (x2 : Nat → Nat → CV) : evalF (C34 fuel) fuel A37 [.v (.ro false (.pr (.int .i64) (.pr (.int .i64) .nil)) x1 x2)] = ob (F37 fuel x1 x2) fun t => some [.v (.i .i64 t)] := by
  rw [walk37, ← f37]
  simp only [D37]

def O37 (fuel : Nat) : Ora where
  o := fun args {ρ} K =>
    wc args fun a1 l2 =>
    wv a1 fun c3 =>
    wL (.pr (.int .i64) (.pr (.int .i64) .nil)) c3 fun y4 y5 =>
    wn l2 <|
    (ob (F37 fuel y4 y5) fun t => K [.v (.i .i64 t)])
  nat := fun args {ρ} K => by
    simp only [bind_wc, bind_wn, bind_wv, bind_wagg, bind_wI, bind_wB, bind_wS, bind_wL, bind_wP, bind_wFn, bind_ob, Option.bind_some]

theorem d37 {P : Program} (fuel : Nat) (hmix : P.follows .mixedOrders = true) (hC : Sound P (C34 fuel)) (hF : FFits P 37 A37) (args res : List A) (h : (O37 fuel).o args some = some res) : Den P 37 args res := by
  obtain ⟨a1, l2, rfl, z0⟩ := inv_wc h
  obtain ⟨c3, rfl, z1⟩ := inv_wv z0
  obtain ⟨y4, y5, h6, z2⟩ := inv_wL z1
  obtain ⟨hn, z3⟩ := inv_wn z2
  cases hn
  exact Den.weaken (.cons (WkA.v h6) .nil) (evalF_sound hmix hC hF ((e37 fuel y4 y5).trans z3))

def C35 (fuel : Nat) : Oracle := (C34 fuel).add 37 (fun _ => true) (O37 fuel)

/-- shipyard/shipyardref12.Area2 -/
def A38v1 : AC := (.seq (.block 1
  (.seq (.region 7 [
    ⟨(some 16), .move (.tmp 0), none⟩,
    ⟨(some 17), .move (.tmp 4), none⟩,
    ⟨(some 18), .indexAddr 22 34 2 (.tmp 16) (.tmp 17), none⟩,
    ⟨(some 19), .load 34 (some 2) (.tmp 18), none⟩,
    ⟨(some 20), .move (.tmp 0), none⟩,
    ⟨(some 21), .move (.tmp 4), none⟩,
    ⟨(some 22), .binOp .add 3 (.tmp 21) (.const (.int .i64 1)) 3, none⟩,
    ⟨(some 23), .move (.tmp 0), none⟩,
    ⟨(some 24), .len 22 false (.tmp 23), none⟩,
    ⟨(some 25), .binOp .rem 3 (.tmp 22) (.tmp 24) 3, none⟩,
    ⟨(some 26), .indexAddr 22 34 2 (.tmp 20) (.tmp 25), none⟩,
    ⟨(some 27), .load 34 (some 2) (.tmp 26), none⟩,
    ⟨(some 5), .alloc 0 34 [.c (.i .i64 0), .c (.i .i64 0)], none⟩,
    ⟨(some 6), .alloc 1 34 [.c (.i .i64 0), .c (.i .i64 0)], none⟩,
    ⟨none, .store 34 2 (.tmp 5) (.tmp 19), none⟩,
    ⟨none, .store 34 2 (.tmp 6) (.tmp 27), none⟩] 2 (some [[], [], [0, 1], [0, 1, 2], [], [], [5], [], [7], [5, 6, 7, 8], [4, 5, 6, 7, 8, 9], [4, 5, 6, 7, 8, 9, 10], [], [], [0, 1, 2, 3, 12, 13], [0, 1, 2, 3, 4, 5, 6, 7, 8, 9, 10, 11, 12, 13, 14]])) []
    (.region 8 [
    ⟨(some 28), .move (.tmp 3), none⟩,
    ⟨(some 29), .fieldAddr 34 (.tmp 5) 0 0, none⟩,
    ⟨(some 30), .load 3 none (.tmp 29), none⟩,
    ⟨(some 31), .fieldAddr 34 (.tmp 6) 1 1, none⟩,
    ⟨(some 32), .load 3 none (.tmp 31), none⟩,
    ⟨(some 33), .binOp .mul 3 (.tmp 30) (.tmp 32) 3, none⟩,
    ⟨(some 34), .binOp .add 3 (.tmp 28) (.tmp 33) 3, none⟩,
    ⟨(some 35), .fieldAddr 34 (.tmp 5) 1 1, none⟩,
    ⟨(some 36), .load 3 none (.tmp 35), none⟩,
    ⟨(some 37), .fieldAddr 34 (.tmp 6) 0 0, none⟩,
    ⟨(some 38), .load 3 none (.tmp 37), none⟩,
    ⟨(some 39), .binOp .mul 3 (.tmp 36) (.tmp 38) 3, none⟩,
    ⟨(some 40), .binOp .sub 3 (.tmp 34) (.tmp 39) 3, none⟩,
    ⟨(some 3), .assign (.tmp 40), none⟩] 0 none))) []
  (.region 6 [
  ⟨(some 14), .move (.tmp 4), none⟩,
  ⟨(some 15), .binOp .add 3 (.tmp 14) (.const (.int .i64 1)) 3, none⟩,
  ⟨(some 4), .assign (.tmp 15), none⟩] 0 none))
def A38v2 : AC := (.seq (.seq (.region 5 [
  ⟨(some 10), .move (.tmp 4), none⟩,
  ⟨(some 11), .move (.tmp 0), none⟩,
  ⟨(some 12), .len 22 false (.tmp 11), none⟩,
  ⟨(some 13), .binOp .lss 3 (.tmp 10) (.tmp 12) 3, none⟩] 0 none) []
  (.cond (.tmp 13)
  .skip
  (.exit 0 [0, 1, 2, 4, 5, 6, 7, 8, 9, 10, 11, 12, 13, 14, 15, 16, 17, 18, 19, 20, 21, 22, 23, 24, 25, 26, 27, 28, 29, 30, 31, 32, 33, 34, 35, 36, 37, 38, 39, 40, 41]))) [10, 11, 12, 13]
  A38v1)
def A38v3 : AC := (.seq (.region 9 [
  ⟨(some 41), .move (.tmp 3), none⟩,
  ⟨(some 2), .assign (.tmp 41), none⟩] 0 none) []
  (.ret [0, 1, 3, 4, 5, 6, 7, 8, 9, 10, 11, 12, 13, 14, 15, 16, 17, 18, 19, 20, 21, 22, 23, 24, 25, 26, 27, 28, 29, 30, 31, 32, 33, 34, 35, 36, 37, 38, 39, 40, 41]))
def A38v4 : AC := (.seq (.region 3 [
  ⟨(some 3), .assign (.const (.int .i64 0)), none⟩] 0 none) []
  (.seq (.seq (.region 4 [
  ⟨(some 4), .assign (.const (.int .i64 0)), none⟩] 0 none) []
  (.block 0
  (.loop [] [1, 2, 5, 6, 7, 8, 9, 10, 11, 12, 13, 14, 15, 16, 17, 18, 19, 20, 21, 22, 23, 24, 25, 26, 27, 28, 29, 30, 31, 32, 33, 34, 35, 36, 37, 38, 39, 40, 41]
    A38v2))) [4, 5, 6, 10, 11, 12, 13, 14, 15, 16, 17, 18, 19, 20, 21, 22, 23, 24, 25, 26, 27, 28, 29, 30, 31, 32, 33, 34, 35, 36, 37, 38, 39, 40]
  A38v3))
def A38 : AF := ⟨42, [.tmp 2],
  (.seq (.region 0 [
  ⟨(some 2), .assign (.const (.int .i64 0)), none⟩] 0 none) []
  (.seq (.seq (.region 1 [
  ⟨(some 7), .move (.tmp 0), none⟩,
  ⟨(some 8), .call 37 [(.tmp 7)] [22] .snap, none⟩,
  ⟨(some 9), .binOp .neq 27 (.tmp 8) (.const (.int .i64 0)) 27, none⟩] 0 none) []
  (.cond (.tmp 9)
  (.seq (.region 2 [
    ⟨(some 2), .assign (.const (.int .i64 0)), none⟩] 0 none) []
    (.ret [0, 1, 3, 4, 5, 6, 7, 8, 9, 10, 11, 12, 13, 14, 15, 16, 17, 18, 19, 20, 21, 22, 23, 24, 25, 26, 27, 28, 29, 30, 31, 32, 33, 34, 35, 36, 37, 38, 39, 40, 41]))
  .skip)) [2, 7, 8, 9]
  A38v4))⟩

def B38v1 (C : Oracle) (fuel : Nat) {ρ : Type} : St → (Ex → St → Option ρ) → Option ρ := fun st k => evalC C fuel A38v2 st k
def N38v1 : St → Option St := fun s => s.norm [1, 2, 5, 6, 7, 8, 9, 10, 11, 12, 13, 14, 15, 16, 17, 18, 19, 20, 21, 22, 23, 24, 25, 26, 27, 28, 29, 30, 31, 32, 33, 34, 35, 36, 37, 38, 39, 40, 41] 0

def s38v0 (x6 : Nat) (x7 : Nat → Nat → CV) (x8 : Int) (x9 : Int) : St := ⟨[.x (.c (.ro false (.pr (.int .i64) (.pr (.int .i64) .nil)) x6 x7)), .u, .u, .x (.c (.i .i64 x8)), .x (.c (.i .i64 x9)), .u, .u, .u, .u, .u, .u, .u, .u, .u, .u, .u, .u, .u, .u, .u, .u, .u, .u, .u, .u, .u, .u, .u, .u, .u, .u, .u, .u, .u, .u, .u, .u, .u, .u, .u, .u, .u],
    []⟩

def s38v1 (x10 : Int) : St := ⟨[.u, .u, .u, .x (.c (.i .i64 x10)), .u, .u, .u, .u, .u, .u, .u, .u, .u, .u, .u, .u, .u, .u, .u, .u, .u, .u, .u, .u, .u, .u, .u, .u, .u, .u, .u, .u, .u, .u, .u, .u, .u, .u, .u, .u, .u, .u],
    []⟩

def L38v1 {ρ : Type} (fuel : Nat) (x6 : Nat) (x7 : Nat → Nat → CV) : Nat → Int → Int → (Int → Option ρ) → Option ρ
  | 0, _, _, _ => none
  | m + 1, x8, x9, k0 =>
    (bif (decide (x9 < (Int.ofNat x6))) then (bif (inb x9 x6) then (bif ((Int.ofNat x6) == 0) then none else (bif (inb (Int.tmod (w64 (x9 + 1)) (Int.ofNat x6)) x6) then (L38v1 fuel x6 x7 m (w64 ((w64 (x8 + (w64 ((CV.int (x7 (Int.toNat x9) 0)) * (CV.int (x7 (Int.toNat (Int.tmod (w64 (x9 + 1)) (Int.ofNat x6))) 1)))))) - (w64 ((CV.int (x7 (Int.toNat x9) 1)) * (CV.int (x7 (Int.toNat (Int.tmod (w64 (x9 + 1)) (Int.ofNat x6))) 0)))))) (w64 (x9 + 1)) k0) else none)) else none) else (k0 x8))

theorem nl38v1 {ρ σ : Type} (fuel : Nat) (x6 : Nat) (x7 : Nat → Nat → CV) (g : ρ → Option σ) : ∀ (m : Nat) (x8 : Int) (x9 : Int) (k0 : Int → Option ρ), ob (L38v1 fuel x6 x7 m x8 x9 k0) g = L38v1 fuel x6 x7 m x8 x9 (fun x10 => ob (k0 x10) g)
  | 0, _, _, _ => rfl
  | m + 1, x8, x9, k0 => by
    simp only [L38v1, ob_bif, ob_ob, ob_none, nl38v1 fuel x6 x7 g m]

theorem r38v1 (fuel : Nat) (m : Nat) {ρ : Type} (k : Ex → St → Option ρ) (x6 : Nat) (x7 : Nat → Nat → CV) (x8 : Int) (x9 : Int) :
    loopH (B38v1 (C35 fuel) fuel) N38v1 (m + 1) (s38v0 x6 x7 x8 x9) k =
    (bif (decide (x9 < (Int.ofNat x6))) then (bif (inb x9 x6) then (bif ((Int.ofNat x6) == 0) then none else (bif (inb (Int.tmod (w64 (x9 + 1)) (Int.ofNat x6)) x6) then (loopH (B38v1 (C35 fuel) fuel) N38v1 m (s38v0 x6 x7 (w64 ((w64 (x8 + (w64 ((CV.int (x7 (Int.toNat x9) 0)) * (CV.int (x7 (Int.toNat (Int.tmod (w64 (x9 + 1)) (Int.ofNat x6))) 1)))))) - (w64 ((CV.int (x7 (Int.toNat x9) 1)) * (CV.int (x7 (Int.toNat (Int.tmod (w64 (x9 + 1)) (Int.ofNat x6))) 0)))))) (w64 (x9 + 1))) k) else none)) else none) else (k (.exit 0) (s38v1 x8))) := by kernel_rfl

theorem q38v1 (fuel : Nat) (x6 : Nat) (x7 : Nat → Nat → CV) {ρ : Type} (k : Ex → St → Option ρ) : ∀ (m : Nat) (x8 : Int) (x9 : Int),
    loopH (B38v1 (C35 fuel) fuel) N38v1 m (s38v0 x6 x7 x8 x9) k = L38v1 fuel x6 x7 m x8 x9 (fun x10 => k (.exit 0) (s38v1 x10))
  | 0, _, _ => rfl
  | m + 1, x8, x9 => by
    rw [r38v1]
    simp only [L38v1, q38v1 fuel x6 x7 k m]

def D38 {ρ : Type} (fuel : Nat) (x1 : Nat) (x2 : Nat → Nat → CV) (k : Int → Option ρ) : Option ρ :=
  (ob (F37 fuel x1 x2) fun x3 => (bif (x3 != 0) then (k 0) else (L38v1 fuel x1 x2 fuel 0 0
    (fun x11 => (k x11)))))

def F38 (fuel : Nat) (x1 : Nat) (x2 : Nat → Nat → CV) : Option (Int) := D38 fuel x1 x2 some

theorem n38 {ρ σ : Type} (fuel : Nat) (x1 : Nat) (x2 : Nat → Nat → CV) (k : (Int) → Option ρ) (g : ρ → Option σ) : ob (D38 fuel x1 x2 k) g = D38 fuel x1 x2 fun t => ob (k t) g := by
  simp only [D38, ob_bif, ob_ob, ob_none, nl38v1]

theorem f38 {ρ : Type} (fuel : Nat) (x1 : Nat) (x2 : Nat → Nat → CV) (k : (Int) → Option ρ) : D38 fuel x1 x2 k = ob (F38 fuel x1 x2) k := by
  unfold F38
  rw [n38]
  simp only [ob_some]

def s38v2 (x1 : Nat) (x2 : Nat → Nat → CV) : St := ⟨[.x (.c (.ro false (.pr (.int .i64) (.pr (.int .i64) .nil)) x1 x2)), .undef, .u, .x (.c (.i .i64 0)), .x (.c (.i .i64 0)), .undef, .undef, .u, .u, .u, .undef, .undef, .undef, .undef, .undef, .undef, .undef, .undef, .undef, .undef, .undef, .undef, .undef, .undef, .undef, .undef, .undef, .undef, .undef, .undef, .undef, .undef, .undef, .undef, .undef, .undef, .undef, .undef, .undef, .undef, .undef, .undef],
    []⟩

theorem walk38 (fuel : Nat) (x1 : Nat) (x2 : Nat → Nat → CV) :
    evalF (C35 fuel) fuel A38 [.v (.ro false (.pr (.int .i64) (.pr (.int .i64) .nil)) x1 x2)] =
    (ob (F37 fuel x1 x2) fun x3 => (bif (x3 != 0) then (some [.v (.i .i64 0)]) else (loopN (B38v1 (C35 fuel) fuel) N38v1 fuel (s38v2 x1 x2) (kBlk 0 (kSeq (C35 fuel) fuel [4, 5, 6, 10, 11, 12, 13, 14, 15, 16, 17, 18, 19, 20, 21, 22, 23, 24, 25, 26, 27, 28, 29, 30, 31, 32, 33, 34, 35, 36, 37, 38, 39, 40] A38v3 (finish A38)))))) := by kernel_rfl

theorem t38v1 (fuel : Nat) {ρ : Type} (k : Ex → St → Option ρ) (x1 : Nat) (x2 : Nat → Nat → CV) :
    loopN (B38v1 (C35 fuel) fuel) N38v1 fuel (s38v2 x1 x2) k =
    L38v1 fuel x1 x2 fuel 0 0 (fun x10 => k (.exit 0) (s38v1 x10)) :=
  (loopN_at (st' := (s38v0 x1 x2 0 0)) (by kernel_rfl)).trans (q38v1 fuel x1 x2 k fuel 0 0)

theorem g38v2 (fuel : Nat) (x11 : Int) :
    (kBlk 0 (kSeq (C35 fuel) fuel [4, 5, 6, 10, 11, 12, 13, 14, 15, 16, 17, 18, 19, 20, 21, 22, 23, 24, 25, 26, 27, 28, 29, 30, 31, 32, 33, 34, 35, 36, 37, 38, 39, 40] A38v3 (finish A38))) (.exit 0) (s38v1 x11) =
    (some [.v (.i .i64 x11)]) := by kernel_rfl

theorem e38 (fuel : Nat) (x1 : Nat) (x2 : Nat → Nat → CV) : evalF (C35 fuel) fuel A38 [.v (.ro false (.pr (.int .i64) (.pr (.int .i64) .nil)) x1 x2)] = ob (F38 fuel x1 x2) fun t => some [.v (.i .i64 t)] := by
  rw [walk38, ← f38]
  simp only [D38, t38v1, g38v2]

def O38 (fuel : Nat) : Ora where
  o := fun args {ρ} K =>
    wc args fun a1 l2 =>
    wv a1 fun c3 =>
    wL (.pr (.int .i64) (.pr (.int .i64) .nil)) c3 fun y4 y5 =>
    wn l2 <|
    (ob (F38 fuel y4 y5) fun t => K [.v (.i .i64 t)])
  nat := fun args {ρ} K => by
    simp only [bind_wc, bind_wn, bind_wv, bind_wagg, bind_wI, bind_wB, bind_wS, bind_wL, bind_wP, bind_wFn, bind_ob, Option.bind_some]

theorem d38 {P : Program} (fuel : Nat) (hmix : P.follows .mixedOrders = true) (hC : Sound P (C35 fuel)) (hF : FFits P 38 A38) (args res : List A) (h : (O38 fuel).o args some = some res) : Den P 38 args res := by
  obtain ⟨a1, l2, rfl, z0⟩ := inv_wc h
  obtain ⟨c3, rfl, z1⟩ := inv_wv z0
  obtain ⟨y4, y5, h6, z2⟩ := inv_wL z1
  obtain ⟨hn, z3⟩ := inv_wn z2
  cases hn
  exact Den.weaken (.cons (WkA.v h6) .nil) (evalF_sound hmix hC hF ((e38 fuel y4 y5).trans z3))

def C36 (fuel : Nat) : Oracle := (C35 fuel).add 38 (fun _ => true) (O38 fuel)

/-- shipyard/shipyardref13.turn -/
def A84v1 : AC := (.seq (.region 6 [
  ⟨(some 6), .assign (.const (.int .i64 0)), none⟩] 0 none) []
  (.ret [0, 1, 2, 3, 4, 5, 7, 8, 9, 10, 11, 12, 13, 14, 15, 16, 17, 18, 19, 20, 21, 22, 23, 24, 25, 26, 27, 28, 29, 30, 31, 32, 33, 34]))
def A84v2 : AC := (.seq (.seq (.region 4 [
  ⟨(some 33), .move (.tmp 7), none⟩,
  ⟨(some 34), .binOp .lss 3 (.tmp 33) (.const (.int .i64 0)) 3, none⟩] 0 none) []
  (.cond (.tmp 34)
  (.seq (.region 5 [
    ⟨(some 6), .assign (.const (.int .i64 (-1))), none⟩] 0 none) []
    (.ret [0, 1, 2, 3, 4, 5, 7, 8, 9, 10, 11, 12, 13, 14, 15, 16, 17, 18, 19, 20, 21, 22, 23, 24, 25, 26, 27, 28, 29, 30, 31, 32, 33, 34]))
  .skip)) [6, 33, 34]
  A84v1)
def A84 : AF := ⟨35, [.tmp 6],
  (.seq (.region 0 [
  ⟨(some 3), .box 0 34 (.tmp 0), none⟩,
  ⟨(some 4), .box 1 34 (.tmp 1), none⟩,
  ⟨(some 5), .box 2 34 (.tmp 2), none⟩,
  ⟨(some 6), .assign (.const (.int .i64 0)), none⟩] 3 none) []
  (.seq (.region 1 [
  ⟨(some 8), .fieldAddr 34 (.tmp 4) 0 0, none⟩,
  ⟨(some 9), .load 3 none (.tmp 8), none⟩,
  ⟨(some 10), .fieldAddr 34 (.tmp 3) 0 0, none⟩,
  ⟨(some 11), .load 3 none (.tmp 10), none⟩,
  ⟨(some 12), .binOp .sub 3 (.tmp 9) (.tmp 11) 3, none⟩,
  ⟨(some 13), .fieldAddr 34 (.tmp 5) 1 1, none⟩,
  ⟨(some 14), .load 3 none (.tmp 13), none⟩,
  ⟨(some 15), .fieldAddr 34 (.tmp 3) 1 1, none⟩,
  ⟨(some 16), .load 3 none (.tmp 15), none⟩,
  ⟨(some 17), .binOp .sub 3 (.tmp 14) (.tmp 16) 3, none⟩,
  ⟨(some 18), .binOp .mul 3 (.tmp 12) (.tmp 17) 3, none⟩,
  ⟨(some 19), .fieldAddr 34 (.tmp 4) 1 1, none⟩,
  ⟨(some 20), .load 3 none (.tmp 19), none⟩,
  ⟨(some 21), .fieldAddr 34 (.tmp 3) 1 1, none⟩,
  ⟨(some 22), .load 3 none (.tmp 21), none⟩,
  ⟨(some 23), .binOp .sub 3 (.tmp 20) (.tmp 22) 3, none⟩,
  ⟨(some 24), .fieldAddr 34 (.tmp 5) 0 0, none⟩,
  ⟨(some 25), .load 3 none (.tmp 24), none⟩,
  ⟨(some 26), .fieldAddr 34 (.tmp 3) 0 0, none⟩,
  ⟨(some 27), .load 3 none (.tmp 26), none⟩,
  ⟨(some 28), .binOp .sub 3 (.tmp 25) (.tmp 27) 3, none⟩,
  ⟨(some 29), .binOp .mul 3 (.tmp 23) (.tmp 28) 3, none⟩,
  ⟨(some 30), .binOp .sub 3 (.tmp 18) (.tmp 29) 3, none⟩,
  ⟨(some 7), .assign (.tmp 30), none⟩] 0 none) []
  (.seq (.seq (.region 2 [
  ⟨(some 31), .move (.tmp 7), none⟩,
  ⟨(some 32), .binOp .gtr 3 (.tmp 31) (.const (.int .i64 0)) 3, none⟩] 0 none) []
  (.cond (.tmp 32)
  (.seq (.region 3 [
    ⟨(some 6), .assign (.const (.int .i64 1)), none⟩] 0 none) []
    (.ret [0, 1, 2, 3, 4, 5, 7, 8, 9, 10, 11, 12, 13, 14, 15, 16, 17, 18, 19, 20, 21, 22, 23, 24, 25, 26, 27, 28, 29, 30, 31, 32, 33, 34]))
  .skip)) [6, 31, 32]
  A84v2)))⟩

def D84 {ρ : Type} (fuel : Nat) (x1 : Int) (x2 : Int) (x3 : Int) (x4 : Int) (x5 : Int) (x6 : Int) (k : Int → Option ρ) : Option ρ :=
  (bif (decide ((w64 ((w64 ((w64 (x3 - x1)) * (w64 (x6 - x2)))) - (w64 ((w64 (x4 - x2)) * (w64 (x5 - x1)))))) > 0)) then (k 1) else (bif (decide ((w64 ((w64 ((w64 (x3 - x1)) * (w64 (x6 - x2)))) - (w64 ((w64 (x4 - x2)) * (w64 (x5 - x1)))))) < 0)) then (k (-1)) else (k 0)))

def F84 (fuel : Nat) (x1 : Int) (x2 : Int) (x3 : Int) (x4 : Int) (x5 : Int) (x6 : Int) : Option (Int) := D84 fuel x1 x2 x3 x4 x5 x6 some

theorem n84 {ρ σ : Type} (fuel : Nat) (x1 : Int) (x2 : Int) (x3 : Int) (x4 : Int) (x5 : Int) (x6 : Int) (k : (Int) → Option ρ) (g : ρ → Option σ) : ob (D84 fuel x1 x2 x3 x4 x5 x6 k) g = D84 fuel x1 x2 x3 x4 x5 x6 fun t => ob (k t) g := by
  simp only [D84, ob_bif, ob_ob, ob_none]

theorem f84 {ρ : Type} (fuel : Nat) (x1 : Int) (x2 : Int) (x3 : Int) (x4 : Int) (x5 : Int) (x6 : Int) (k : (Int) → Option ρ) : D84 fuel x1 x2 x3 x4 x5 x6 k = ob (F84 fuel x1 x2 x3 x4 x5 x6) k := by
  unfold F84
  rw [n84]
  simp only [ob_some]

theorem walk84 (fuel : Nat) (x1 : Int) (x2 : Int) (x3 : Int) (x4 : Int) (x5 : Int) (x6 : Int) :
    evalF (C36 fuel) fuel A84 [.agg [(.i .i64 x1), (.i .i64 x2)], .agg [(.i .i64 x3), (.i .i64 x4)], .agg [(.i .i64 x5), (.i .i64 x6)]] =
    (bif (decide ((w64 ((w64 ((w64 (x3 - x1)) * (w64 (x6 - x2)))) - (w64 ((w64 (x4 - x2)) * (w64 (x5 - x1)))))) > 0)) then (some [.v (.i .i64 1)]) else (bif (decide ((w64 ((w64 ((w64 (x3 - x1)) * (w64 (x6 - x2)))) - (w64 ((w64 (x4 - x2)) * (w64 (x5 - x1)))))) < 0)) then (some [.v (.i .i64 (-1))]) else (some [.v (.i .i64 0)]))) := by kernel_rfl

theorem e84 (fuel : Nat) (x1 : Int) (x2 : Int) (x3 : Int) (x4 : Int) (x5 : Int) (x6 : Int) : evalF (C36 fuel) fuel A84 [.agg [(.i .i64 x1), (.i .i64 x2)], .agg [(.i .i64 x3), (.i .i64 x4)], .agg [(.i .i64 x5), (.i .i64 x6)]] = ob (F84 fuel x1 x2 x3 x4 x5 x6) fun t => some [.v (.i .i64 t)] := by
  rw [walk84, ← f84]
  simp only [D84]

def O84 (fuel : Nat) : Ora where
  o := fun args {ρ} K =>
    wc args fun a1 l2 =>
    wagg a1 fun l3 =>
    wc l3 fun c4 l5 =>
    wI .i64 c4 fun y6 =>
    wc l5 fun c8 l9 =>
    wI .i64 c8 fun y10 =>
    wn l9 <|
    wc l2 fun a12 l13 =>
    wagg a12 fun l14 =>
    wc l14 fun c15 l16 =>
    wI .i64 c15 fun y17 =>
    wc l16 fun c19 l20 =>
    wI .i64 c19 fun y21 =>
    wn l20 <|
    wc l13 fun a23 l24 =>
    wagg a23 fun l25 =>
    wc l25 fun c26 l27 =>
    wI .i64 c26 fun y28 =>
    wc l27 fun c30 l31 =>
    wI .i64 c30 fun y32 =>
    wn l31 <|
    wn l24 <|
    (ob (F84 fuel y6 y10 y17 y21 y28 y32) fun t => K [.v (.i .i64 t)])
  nat := fun args {ρ} K => by
    simp only [bind_wc, bind_wn, bind_wv, bind_wagg, bind_wI, bind_wB, bind_wS, bind_wL, bind_wP, bind_wFn, bind_ob, Option.bind_some]

theorem d84 {P : Program} (fuel : Nat) (hmix : P.follows .mixedOrders = true) (hC : Sound P (C36 fuel)) (hF : FFits P 84 A84) (args res : List A) (h : (O84 fuel).o args some = some res) : Den P 84 args res := by
  obtain ⟨a1, l2, rfl, z0⟩ := inv_wc h
  obtain ⟨l3, rfl, z1⟩ := inv_wagg z0
  obtain ⟨c4, l5, rfl, z2⟩ := inv_wc z1
  obtain ⟨y6, h7, z3⟩ := inv_wI z2
  obtain ⟨c8, l9, rfl, z4⟩ := inv_wc z3
  obtain ⟨y10, h11, z5⟩ := inv_wI z4
  obtain ⟨hn, z6⟩ := inv_wn z5
  cases hn
  obtain ⟨a12, l13, rfl, z7⟩ := inv_wc z6
  obtain ⟨l14, rfl, z8⟩ := inv_wagg z7
  obtain ⟨c15, l16, rfl, z9⟩ := inv_wc z8
  obtain ⟨y17, h18, z10⟩ := inv_wI z9
  obtain ⟨c19, l20, rfl, z11⟩ := inv_wc z10
  obtain ⟨y21, h22, z12⟩ := inv_wI z11
  obtain ⟨hn, z13⟩ := inv_wn z12
  cases hn
  obtain ⟨a23, l24, rfl, z14⟩ := inv_wc z13
  obtain ⟨l25, rfl, z15⟩ := inv_wagg z14
  obtain ⟨c26, l27, rfl, z16⟩ := inv_wc z15
  obtain ⟨y28, h29, z17⟩ := inv_wI z16
  obtain ⟨c30, l31, rfl, z18⟩ := inv_wc z17
  obtain ⟨y32, h33, z19⟩ := inv_wI z18
  obtain ⟨hn, z20⟩ := inv_wn z19
  cases hn
  obtain ⟨hn, z21⟩ := inv_wn z20
  cases hn
  exact Den.weaken (.cons (WkA.agg (.cons (Wk.i h7) (.cons (Wk.i h11) .nil))) (.cons (WkA.agg (.cons (Wk.i h18) (.cons (Wk.i h22) .nil))) (.cons (WkA.agg (.cons (Wk.i h29) (.cons (Wk.i h33) .nil))) .nil))) (evalF_sound hmix hC hF ((e84 fuel y6 y10 y17 y21 y28 y32).trans z21))

def C37 (fuel : Nat) : Oracle := (C36 fuel).add 84 (fun _ => true) (O84 fuel)

/-- shipyard/shipyardref13.on -/
def A83 : AF := ⟨52, [.tmp 6],
  (.seq (.region 0 [
  ⟨(some 3), .box 0 34 (.tmp 0), none⟩,
  ⟨(some 4), .box 1 34 (.tmp 1), none⟩,
  ⟨(some 5), .box 2 34 (.tmp 2), none⟩,
  ⟨(some 6), .assign (.const (.bool false)), none⟩] 3 none) []
  (.seq (.region 1 [
  ⟨(some 7), .load 34 (some 2) (.tmp 3), none⟩,
  ⟨(some 8), .load 34 (some 2) (.tmp 4), none⟩,
  ⟨(some 9), .load 34 (some 2) (.tmp 5), none⟩,
  ⟨(some 10), .call 84 [(.tmp 7), (.tmp 8), (.tmp 9)] [34, 34, 34] .snap, none⟩,
  ⟨(some 11), .binOp .eql 3 (.tmp 10) (.const (.int .i64 0)) 3, none⟩,
  ⟨(some 12), .move (.tmp 11), none⟩,
  ⟨(some 13), .fieldAddr 34 (.tmp 5) 0 0, (some (12, true))⟩,
  ⟨(some 14), .load 3 none (.tmp 13), (some (12, true))⟩,
  ⟨(some 15), .fieldAddr 34 (.tmp 3) 0 0, (some (12, true))⟩,
  ⟨(some 16), .load 3 none (.tmp 15), (some (12, true))⟩,
  ⟨(some 17), .fieldAddr 34 (.tmp 4) 0 0, (some (12, true))⟩,
  ⟨(some 18), .load 3 none (.tmp 17), (some (12, true))⟩,
  ⟨(some 19), .mm false [(.tmp 16), (.tmp 18)] [3, 3], (some (12, true))⟩,
  ⟨(some 20), .binOp .geq 3 (.tmp 14) (.tmp 19) 3, (some (12, true))⟩,
  ⟨(some 21), .pick (.tmp 12) (.tmp 20) (.const (.bool false)), none⟩,
  ⟨(some 22), .move (.tmp 21), none⟩,
  ⟨(some 23), .fieldAddr 34 (.tmp 5) 0 0, (some (22, true))⟩,
  ⟨(some 24), .load 3 none (.tmp 23), (some (22, true))⟩,
  ⟨(some 25), .fieldAddr 34 (.tmp 3) 0 0, (some (22, true))⟩,
  ⟨(some 26), .load 3 none (.tmp 25), (some (22, true))⟩,
  ⟨(some 27), .fieldAddr 34 (.tmp 4) 0 0, (some (22, true))⟩,
  ⟨(some 28), .load 3 none (.tmp 27), (some (22, true))⟩,
  ⟨(some 29), .mm true [(.tmp 26), (.tmp 28)] [3, 3], (some (22, true))⟩,
  ⟨(some 30), .binOp .leq 3 (.tmp 24) (.tmp 29) 3, (some (22, true))⟩,
  ⟨(some 31), .pick (.tmp 22) (.tmp 30) (.const (.bool false)), none⟩,
  ⟨(some 32), .move (.tmp 31), none⟩,
  ⟨(some 33), .fieldAddr 34 (.tmp 5) 1 1, (some (32, true))⟩,
  ⟨(some 34), .load 3 none (.tmp 33), (some (32, true))⟩,
  ⟨(some 35), .fieldAddr 34 (.tmp 3) 1 1, (some (32, true))⟩,
  ⟨(some 36), .load 3 none (.tmp 35), (some (32, true))⟩,
  ⟨(some 37), .fieldAddr 34 (.tmp 4) 1 1, (some (32, true))⟩,
  ⟨(some 38), .load 3 none (.tmp 37), (some (32, true))⟩,
  ⟨(some 39), .mm false [(.tmp 36), (.tmp 38)] [3, 3], (some (32, true))⟩,
  ⟨(some 40), .binOp .geq 3 (.tmp 34) (.tmp 39) 3, (some (32, true))⟩,
  ⟨(some 41), .pick (.tmp 32) (.tmp 40) (.const (.bool false)), none⟩,
  ⟨(some 42), .move (.tmp 41), none⟩,
  ⟨(some 43), .fieldAddr 34 (.tmp 5) 1 1, (some (42, true))⟩,
  ⟨(some 44), .load 3 none (.tmp 43), (some (42, true))⟩,
  ⟨(some 45), .fieldAddr 34 (.tmp 3) 1 1, (some (42, true))⟩,
  ⟨(some 46), .load 3 none (.tmp 45), (some (42, true))⟩,
  ⟨(some 47), .fieldAddr 34 (.tmp 4) 1 1, (some (42, true))⟩,
  ⟨(some 48), .load 3 none (.tmp 47), (some (42, true))⟩,
  ⟨(some 49), .mm true [(.tmp 46), (.tmp 48)] [3, 3], (some (42, true))⟩,
  ⟨(some 50), .binOp .leq 3 (.tmp 44) (.tmp 49) 3, (some (42, true))⟩,
  ⟨(some 51), .pick (.tmp 42) (.tmp 50) (.const (.bool false)), none⟩,
  ⟨(some 6), .assign (.tmp 51), none⟩] 0 none) []
  (.ret [0, 1, 2, 3, 4, 5, 7, 8, 9, 10, 11, 12, 13, 14, 15, 16, 17, 18, 19, 20, 21, 22, 23, 24, 25, 26, 27, 28, 29, 30, 31, 32, 33, 34, 35, 36, 37, 38, 39, 40, 41, 42, 43, 44, 45, 46, 47, 48, 49, 50, 51])))⟩

def D83 {ρ : Type} (fuel : Nat) (x1 : Int) (x2 : Int) (x3 : Int) (x4 : Int) (x5 : Int) (x6 : Int) (k : Bool → Option ρ) : Option ρ :=
  (ob (F84 fuel x1 x2 x3 x4 x5 x6) fun x7 => (bif ((x7 == 0) == true) then (bif ((decide (x5 ≥ (if x3 < x1 then x3 else x1))) == true) then (bif ((decide (x5 ≤ (if x3 > x1 then x3 else x1))) == true) then (bif ((decide (x6 ≥ (if x4 < x2 then x4 else x2))) == true) then (k (decide (x6 ≤ (if x4 > x2 then x4 else x2)))) else (k false)) else (k false)) else (k false)) else (k false)))

def F83 (fuel : Nat) (x1 : Int) (x2 : Int) (x3 : Int) (x4 : Int) (x5 : Int) (x6 : Int) : Option (Bool) := D83 fuel x1 x2 x3 x4 x5 x6 some

theorem n83 {ρ σ : Type} (fuel : Nat) (x1 : Int) (x2 : Int) (x3 : Int) (x4 : Int) (x5 : Int) (x6 : Int) (k : (Bool) → Option ρ) (g : ρ → Option σ) : ob (D83 fuel x1 x2 x3 x4 x5 x6 k) g = D83 fuel x1 x2 x3 x4 x5 x6 fun t => ob (k t) g := by
  simp only [D83, ob_bif, ob_ob, ob_none]

theorem f83 {ρ : Type} (fuel : Nat) (x1 : Int) (x2 : Int) (x3 : Int) (x4 : Int) (x5 : Int) (x6 : Int) (k : (Bool) → Option ρ) : D83 fuel x1 x2 x3 x4 x5 x6 k = ob (F83 fuel x1 x2 x3 x4 x5 x6) k := by
  unfold F83
  rw [n83]
  simp only [ob_some]

theorem walk83 (fuel : Nat) (x1 : Int) (x2 : Int) (x3 : Int) (x4 : Int) (x5 : Int) (x6 : Int) :
    evalF (C37 fuel) fuel A83 [.agg [(.i .i64 x1), (.i .i64 x2)], .agg [(.i .i64 x3), (.i .i64 x4)], .agg [(.i .i64 x5), (.i .i64 x6)]] =
    (ob (F84 fuel x1 x2 x3 x4 x5 x6) fun x7 => (bif ((x7 == 0) == true) then (bif ((decide (x5 ≥ (if x3 < x1 then x3 else x1))) == true) then (bif ((decide (x5 ≤ (if x3 > x1 then x3 else x1))) == true) then (bif ((decide (x6 ≥ (if x4 < x2 then x4 else x2))) == true) then (some [.v (.b (decide (x6 ≤ (if x4 > x2 then x4 else x2))))]) else (some [.v (.b false)])) else (some [.v (.b false)])) else (some [.v (.b false)])) else (some [.v (.b false)]))) := by kernel_rfl

theorem e83 (fuel : Nat) (x1 : Int) (x2 : Int) (x3 : Int) (x4 : Int) (x5 : Int) (x6 : Int) : evalF (C37 fuel) fuel A83 [.agg [(.i .i64 x1), (.i .i64 x2)], .agg [(.i .i64 x3), (.i .i64 x4)], .agg [(.i .i64 x5), (.i .i64 x6)]] = ob (F83 fuel x1 x2 x3 x4 x5 x6) fun t => some [.v (.b t)] := by
  rw [walk83, ← f83]
  simp only [D83]

def O83 (fuel : Nat) : Ora where
  o := fun args {ρ} K =>
    wc args fun a1 l2 =>
    wagg a1 fun l3 =>
    wc l3 fun c4 l5 =>
    wI .i64 c4 fun y6 =>
    wc l5 fun c8 l9 =>
    wI .i64 c8 fun y10 =>
    wn l9 <|
    wc l2 fun a12 l13 =>
    wagg a12 fun l14 =>
    wc l14 fun c15 l16 =>
    wI .i64 c15 fun y17 =>
    wc l16 fun c19 l20 =>
    wI .i64 c19 fun y21 =>
    wn l20 <|
    wc l13 fun a23 l24 =>
    wagg a23 fun l25 =>
    wc l25 fun c26 l27 =>
    wI .i64 c26 fun y28 =>
    wc l27 fun c30 l31 =>
    wI .i64 c30 fun y32 =>
    wn l31 <|
    wn l24 <|
    (ob (F83 fuel y6 y10 y17 y21 y28 y32) fun t => K [.v (.b t)])
  nat := fun args {ρ} K => by
    simp only [bind_wc, bind_wn, bind_wv, bind_wagg, bind_wI, bind_wB, bind_wS, bind_wL, bind_wP, bind_wFn, bind_ob, Option.bind_some]

theorem d83 {P : Program} (fuel : Nat) (hmix : P.follows .mixedOrders = true) (hC : Sound P (C37 fuel)) (hF : FFits P 83 A83) (args res : List A) (h : (O83 fuel).o args some = some res) : Den P 83 args res := by
  obtain ⟨a1, l2, rfl, z0⟩ := inv_wc h
  obtain ⟨l3, rfl, z1⟩ := inv_wagg z0
  obtain ⟨c4, l5, rfl, z2⟩ := inv_wc z1
  obtain ⟨y6, h7, z3⟩ := inv_wI z2
  obtain ⟨c8, l9, rfl, z4⟩ := inv_wc z3
  obtain ⟨y10, h11, z5⟩ := inv_wI z4
  obtain ⟨hn, z6⟩ := inv_wn z5
  cases hn
  obtain ⟨a12, l13, rfl, z7⟩ := inv_wc z6
  obtain ⟨l14, rfl, z8⟩ := inv_wagg z7
  obtain ⟨c15, l16, rfl, z9⟩ := inv_wc z8
  obtain ⟨y17, h18, z10⟩ := inv_wI z9
  obtain ⟨c19, l20, rfl, z11⟩ := inv_wc z10
  obtain ⟨y21, h22, z12⟩ := inv_wI z11
  obtain ⟨hn, z13⟩ := inv_wn z12
  cases hn
  obtain ⟨a23, l24, rfl, z14⟩ := inv_wc z13
  obtain ⟨l25, rfl, z15⟩ := inv_wagg z14
  obtain ⟨c26, l27, rfl, z16⟩ := inv_wc z15
  obtain ⟨y28, h29, z17⟩ := inv_wI z16
  obtain ⟨c30, l31, rfl, z18⟩ := inv_wc z17
  obtain ⟨y32, h33, z19⟩ := inv_wI z18
  obtain ⟨hn, z20⟩ := inv_wn z19
  cases hn
  obtain ⟨hn, z21⟩ := inv_wn z20
  cases hn
  exact Den.weaken (.cons (WkA.agg (.cons (Wk.i h7) (.cons (Wk.i h11) .nil))) (.cons (WkA.agg (.cons (Wk.i h18) (.cons (Wk.i h22) .nil))) (.cons (WkA.agg (.cons (Wk.i h29) (.cons (Wk.i h33) .nil))) .nil))) (evalF_sound hmix hC hF ((e83 fuel y6 y10 y17 y21 y28 y32).trans z21))

def C38 (fuel : Nat) : Oracle := (C37 fuel).add 83 (fun _ => true) (O83 fuel)

/-- shipyard/shipyardref13.meet -/
def A68v1 : AC := (.seq (.region 3 [
  ⟨(some 31), .load 34 (some 2) (.tmp 4), none⟩,
  ⟨(some 32), .load 34 (some 2) (.tmp 5), none⟩,
  ⟨(some 33), .load 34 (some 2) (.tmp 6), none⟩,
  ⟨(some 34), .call 84 [(.tmp 31), (.tmp 32), (.tmp 33)] [34, 34, 34] .snap, none⟩,
  ⟨(some 35), .load 34 (some 2) (.tmp 4), none⟩,
  ⟨(some 36), .load 34 (some 2) (.tmp 5), none⟩,
  ⟨(some 37), .load 34 (some 2) (.tmp 7), none⟩,
  ⟨(some 38), .call 84 [(.tmp 35), (.tmp 36), (.tmp 37)] [34, 34, 34] .snap, none⟩,
  ⟨(some 39), .binOp .mul 3 (.tmp 34) (.tmp 38) 3, none⟩,
  ⟨(some 40), .binOp .lss 3 (.tmp 39) (.const (.int .i64 0)) 3, none⟩,
  ⟨(some 41), .move (.tmp 40), none⟩,
  ⟨(some 42), .load 34 (some 2) (.tmp 6), (some (41, true))⟩,
  ⟨(some 43), .load 34 (some 2) (.tmp 7), (some (41, true))⟩,
  ⟨(some 44), .load 34 (some 2) (.tmp 4), (some (41, true))⟩,
  ⟨(some 45), .call 84 [(.tmp 42), (.tmp 43), (.tmp 44)] [34, 34, 34] .snap, (some (41, true))⟩,
  ⟨(some 46), .load 34 (some 2) (.tmp 6), (some (41, true))⟩,
  ⟨(some 47), .load 34 (some 2) (.tmp 7), (some (41, true))⟩,
  ⟨(some 48), .load 34 (some 2) (.tmp 5), (some (41, true))⟩,
  ⟨(some 49), .call 84 [(.tmp 46), (.tmp 47), (.tmp 48)] [34, 34, 34] .snap, (some (41, true))⟩,
  ⟨(some 50), .binOp .mul 3 (.tmp 45) (.tmp 49) 3, (some (41, true))⟩,
  ⟨(some 51), .binOp .lss 3 (.tmp 50) (.const (.int .i64 0)) 3, (some (41, true))⟩,
  ⟨(some 52), .pick (.tmp 41) (.tmp 51) (.const (.bool false)), none⟩,
  ⟨(some 8), .assign (.tmp 52), none⟩] 0 (some [[], [], [], [0, 1, 2], [], [], [], [0, 1, 2, 3, 4, 5, 6], [0, 1, 2, 3, 4, 5, 6, 7], [0, 1, 2, 3, 4, 5, 6, 7, 8], [0, 1, 2, 3, 4, 5, 6, 7, 8, 9], [0, 1, 2, 3, 4, 5, 6, 7, 8, 9, 10], [0, 1, 2, 3, 4, 5, 6, 7, 8, 9, 10], [0, 1, 2, 3, 4, 5, 6, 7, 8, 9, 10], [0, 1, 2, 3, 4, 5, 6, 7, 8, 9, 10, 11, 12, 13], [0, 1, 2, 3, 4, 5, 6, 7, 8, 9, 10], [0, 1, 2, 3, 4, 5, 6, 7, 8, 9, 10], [0, 1, 2, 3, 4, 5, 6, 7, 8, 9, 10], [0, 1, 2, 3, 4, 5, 6, 7, 8, 9, 10, 11, 12, 13, 14, 15, 16, 17], [0, 1, 2, 3, 4, 5, 6, 7, 8, 9, 10, 11, 12, 13, 14, 15, 16, 17, 18], [0, 1, 2, 3, 4, 5, 6, 7, 8, 9, 10, 11, 12, 13, 14, 15, 16, 17, 18, 19], [0, 1, 2, 3, 4, 5, 6, 7, 8, 9, 10, 11, 12, 13, 14, 15, 16, 17, 18, 19, 20], [0, 1, 2, 3, 4, 5, 6, 7, 8, 9, 10, 11, 12, 13, 14, 15, 16, 17, 18, 19, 20, 21]])) []
  (.ret [0, 1, 2, 3, 4, 5, 6, 7, 9, 10, 11, 12, 13, 14, 15, 16, 17, 18, 19, 20, 21, 22, 23, 24, 25, 26, 27, 28, 29, 30, 31, 32, 33, 34, 35, 36, 37, 38, 39, 40, 41, 42, 43, 44, 45, 46, 47, 48, 49, 50, 51, 52]))
def A68 : AF := ⟨53, [.tmp 8],
  (.seq (.region 0 [
  ⟨(some 4), .box 0 34 (.tmp 0), none⟩,
  ⟨(some 5), .box 1 34 (.tmp 1), none⟩,
  ⟨(some 6), .box 2 34 (.tmp 2), none⟩,
  ⟨(some 7), .box 3 34 (.tmp 3), none⟩,
  ⟨(some 8), .assign (.const (.bool false)), none⟩] 4 none) []
  (.seq (.seq (.region 1 [
  ⟨(some 9), .load 34 (some 2) (.tmp 4), none⟩,
  ⟨(some 10), .load 34 (some 2) (.tmp 5), none⟩,
  ⟨(some 11), .load 34 (some 2) (.tmp 6), none⟩,
  ⟨(some 12), .call 83 [(.tmp 9), (.tmp 10), (.tmp 11)] [34, 34, 34] .snap, none⟩,
  ⟨(some 13), .move (.tmp 12), none⟩,
  ⟨(some 14), .load 34 (some 2) (.tmp 4), (some (13, false))⟩,
  ⟨(some 15), .load 34 (some 2) (.tmp 5), (some (13, false))⟩,
  ⟨(some 16), .load 34 (some 2) (.tmp 7), (some (13, false))⟩,
  ⟨(some 17), .call 83 [(.tmp 14), (.tmp 15), (.tmp 16)] [34, 34, 34] .snap, (some (13, false))⟩,
  ⟨(some 18), .pick (.tmp 13) (.const (.bool true)) (.tmp 17), none⟩,
  ⟨(some 19), .move (.tmp 18), none⟩,
  ⟨(some 20), .load 34 (some 2) (.tmp 6), (some (19, false))⟩,
  ⟨(some 21), .load 34 (some 2) (.tmp 7), (some (19, false))⟩,
  ⟨(some 22), .load 34 (some 2) (.tmp 4), (some (19, false))⟩,
  ⟨(some 23), .call 83 [(.tmp 20), (.tmp 21), (.tmp 22)] [34, 34, 34] .snap, (some (19, false))⟩,
  ⟨(some 24), .pick (.tmp 19) (.const (.bool true)) (.tmp 23), none⟩,
  ⟨(some 25), .move (.tmp 24), none⟩,
  ⟨(some 26), .load 34 (some 2) (.tmp 6), (some (25, false))⟩,
  ⟨(some 27), .load 34 (some 2) (.tmp 7), (some (25, false))⟩,
  ⟨(some 28), .load 34 (some 2) (.tmp 5), (some (25, false))⟩,
  ⟨(some 29), .call 83 [(.tmp 26), (.tmp 27), (.tmp 28)] [34, 34, 34] .snap, (some (25, false))⟩,
  ⟨(some 30), .pick (.tmp 25) (.const (.bool true)) (.tmp 29), none⟩] 0 none) []
  (.cond (.tmp 30)
  (.seq (.region 2 [
    ⟨(some 8), .assign (.const (.bool true)), none⟩] 0 none) []
    (.ret [0, 1, 2, 3, 4, 5, 6, 7, 9, 10, 11, 12, 13, 14, 15, 16, 17, 18, 19, 20, 21, 22, 23, 24, 25, 26, 27, 28, 29, 30, 31, 32, 33, 34, 35, 36, 37, 38, 39, 40, 41, 42, 43, 44, 45, 46, 47, 48, 49, 50, 51, 52]))
  .skip)) [8, 9, 10, 11, 12, 13, 14, 15, 16, 17, 18, 19, 20, 21, 22, 23, 24, 25, 26, 27, 28, 29, 30]
  A68v1))⟩

def D68 {ρ : Type} (fuel : Nat) (x1 : Int) (x2 : Int) (x3 : Int) (x4 : Int) (x5 : Int) (x6 : Int) (x7 : Int) (x8 : Int) (k : Bool → Option ρ) : Option ρ :=
  (ob (F83 fuel x1 x2 x3 x4 x5 x6) fun x9 => (bif (x9 == false) then (ob (F83 fuel x1 x2 x3 x4 x7 x8) fun x10 => (bif (x10 == false) then (ob (F83 fuel x5 x6 x7 x8 x1 x2) fun x11 => (bif (x11 == false) then (ob (F83 fuel x5 x6 x7 x8 x3 x4) fun x12 => (bif x12 then (k true) else (ob (F84 fuel x1 x2 x3 x4 x5 x6) fun x13 => (ob (F84 fuel x1 x2 x3 x4 x7 x8) fun x14 => (bif ((decide ((w64 (x13 * x14)) < 0)) == true) then (ob (F84 fuel x5 x6 x7 x8 x1 x2) fun x15 => (ob (F84 fuel x5 x6 x7 x8 x3 x4) fun x16 => (k (decide ((w64 (x15 * x16)) < 0))))) else (k false)))))) else (k true))) else (k true))) else (k true)))

def F68 (fuel : Nat) (x1 : Int) (x2 : Int) (x3 : Int) (x4 : Int) (x5 : Int) (x6 : Int) (x7 : Int) (x8 : Int) : Option (Bool) := D68 fuel x1 x2 x3 x4 x5 x6 x7 x8 some

theorem n68 {ρ σ : Type} (fuel : Nat) (x1 : Int) (x2 : Int) (x3 : Int) (x4 : Int) (x5 : Int) (x6 : Int) (x7 : Int) (x8 : Int) (k : (Bool) → Option ρ) (g : ρ → Option σ) : ob (D68 fuel x1 x2 x3 x4 x5 x6 x7 x8 k) g = D68 fuel x1 x2 x3 x4 x5 x6 x7 x8 fun t => ob (k t) g := by
  simp only [D68, ob_bif, ob_ob, ob_none]

theorem f68 {ρ : Type} (fuel : Nat) (x1 : Int) (x2 : Int) (x3 : Int) (x4 : Int) (x5 : Int) (x6 : Int) (x7 : Int) (x8 : Int) (k : (Bool) → Option ρ) : D68 fuel x1 x2 x3 x4 x5 x6 x7 x8 k = ob (F68 fuel x1 x2 x3 x4 x5 x6 x7 x8) k := by
  unfold F68
  rw [n68]
  simp only [ob_some]

theorem walk68 (fuel : Nat) (x1 : Int) (x2 : Int) (x3 : Int) (x4 : Int) (x5 : Int) (x6 : Int) (x7 : Int) (x8 : Int) :
    evalF (C38 fuel) fuel A68 [.agg [(.i .i64 x1), (.i .i64 x2)], .agg [(.i .i64 x3), (.i .i64 x4)], .agg [(.i .i64 x5), (.i .i64 x6)], .agg [(.i .i64 x7), (.i .i64 x8)]] =
    (ob (F83 fuel x1 x2 x3 x4 x5 x6) fun x9 => (bif (x9 == false) then (ob (F83 fuel x1 x2 x3 x4 x7 x8) fun x10 => (bif (x10 == false) then (ob (F83 fuel x5 x6 x7 x8 x1 x2) fun x11 => (bif (x11 == false) then (ob (F83 fuel x5 x6 x7 x8 x3 x4) fun x12 => (bif x12 then (some [.v (.b true)]) else (ob (F84 fuel x1 x2 x3 x4 x5 x6) fun x13 => (ob (F84 fuel x1 x2 x3 x4 x7 x8) fun x14 => (bif ((decide ((w64 (x13 * x14)) < 0)) == true) then (ob (F84 fuel x5 x6 x7 x8 x1 x2) fun x15 => (ob (F84 fuel x5 x6 x7 x8 x3 x4) fun x16 => (some [.v (.b (decide ((w64 (x15 * x16)) < 0)))]))) else (some [.v (.b false)])))))) else (some [.v (.b true)]))) else (some [.v (.b true)]))) else (some [.v (.b true)]))) := by kernel_rfl

theorem e68 (fuel : Nat) (x1 : Int) (x2 : Int) (x3 : Int) (x4 : Int) (x5 : Int) (x6 : Int) (x7 : Int) (x8 : Int) : evalF (C38 fuel) fuel A68 [.agg [(.i .i64 x1), (.i .i64 x2)], .agg [(.i .i64 x3), (.i .i64 x4)], .agg [(.i .i64 x5), (.i .i64 x6)], .agg [(.i .i64 x7), (.i .i64 x8)]] = ob (F68 fuel x1 x2 x3 x4 x5 x6 x7 x8) fun t => some [.v (.b t)] := by
  rw [walk68, ← f68]
  simp only [D68]

def O68 (fuel : Nat) : Ora where
  o := fun args {ρ} K =>
    wc args fun a1 l2 =>
    wagg a1 fun l3 =>
    wc l3 fun c4 l5 =>
    wI .i64 c4 fun y6 =>
    wc l5 fun c8 l9 =>
    wI .i64 c8 fun y10 =>
    wn l9 <|
    wc l2 fun a12 l13 =>
    wagg a12 fun l14 =>
    wc l14 fun c15 l16 =>
    wI .i64 c15 fun y17 =>
    wc l16 fun c19 l20 =>
    wI .i64 c19 fun y21 =>
    wn l20 <|
    wc l13 fun a23 l24 =>
    wagg a23 fun l25 =>
    wc l25 fun c26 l27 =>
    wI .i64 c26 fun y28 =>
    wc l27 fun c30 l31 =>
    wI .i64 c30 fun y32 =>
    wn l31 <|
    wc l24 fun a34 l35 =>
    wagg a34 fun l36 =>
    wc l36 fun c37 l38 =>
    wI .i64 c37 fun y39 =>
    wc l38 fun c41 l42 =>
    wI .i64 c41 fun y43 =>
    wn l42 <|
    wn l35 <|
    (ob (F68 fuel y6 y10 y17 y21 y28 y32 y39 y43) fun t => K [.v (.b t)])
  nat := fun args {ρ} K => by
    simp only [bind_wc, bind_wn, bind_wv, bind_wagg, bind_wI, bind_wB, bind_wS, bind_wL, bind_wP, bind_wFn, bind_ob, Option.bind_some]

theorem d68 {P : Program} (fuel : Nat) (hmix : P.follows .mixedOrders = true) (hC : Sound P (C38 fuel)) (hF : FFits P 68 A68) (args res : List A) (h : (O68 fuel).o args some = some res) : Den P 68 args res := by
  obtain ⟨a1, l2, rfl, z0⟩ := inv_wc h
  obtain ⟨l3, rfl, z1⟩ := inv_wagg z0
  obtain ⟨c4, l5, rfl, z2⟩ := inv_wc z1
  obtain ⟨y6, h7, z3⟩ := inv_wI z2
  obtain ⟨c8, l9, rfl, z4⟩ := inv_wc z3
  obtain ⟨y10, h11, z5⟩ := inv_wI z4
  obtain ⟨hn, z6⟩ := inv_wn z5
  cases hn
  obtain ⟨a12, l13, rfl, z7⟩ := inv_wc z6
  obtain ⟨l14, rfl, z8⟩ := inv_wagg z7
  obtain ⟨c15, l16, rfl, z9⟩ := inv_wc z8
  obtain ⟨y17, h18, z10⟩ := inv_wI z9
  obtain ⟨c19, l20, rfl, z11⟩ := inv_wc z10
  obtain ⟨y21, h22, z12⟩ := inv_wI z11
  obtain ⟨hn, z13⟩ := inv_wn z12
  cases hn
  obtain ⟨a23, l24, rfl, z14⟩ := inv_wc z13
  obtain ⟨l25, rfl, z15⟩ := inv_wagg z14
  obtain ⟨c26, l27, rfl, z16⟩ := inv_wc z15
  obtain ⟨y28, h29, z17⟩ := inv_wI z16
  obtain ⟨c30, l31, rfl, z18⟩ := inv_wc z17
  obtain ⟨y32, h33, z19⟩ := inv_wI z18
  obtain ⟨hn, z20⟩ := inv_wn z19
  cases hn
  obtain ⟨a34, l35, rfl, z21⟩ := inv_wc z20
  obtain ⟨l36, rfl, z22⟩ := inv_wagg z21
  obtain ⟨c37, l38, rfl, z23⟩ := inv_wc z22
  obtain ⟨y39, h40, z24⟩ := inv_wI z23
  obtain ⟨c41, l42, rfl, z25⟩ := inv_wc z24
  obtain ⟨y43, h44, z26⟩ := inv_wI z25
  obtain ⟨hn, z27⟩ := inv_wn z26
  cases hn
  obtain ⟨hn, z28⟩ := inv_wn z27
  cases hn
  exact Den.weaken (.cons (WkA.agg (.cons (Wk.i h7) (.cons (Wk.i h11) .nil))) (.cons (WkA.agg (.cons (Wk.i h18) (.cons (Wk.i h22) .nil))) (.cons (WkA.agg (.cons (Wk.i h29) (.cons (Wk.i h33) .nil))) (.cons (WkA.agg (.cons (Wk.i h40) (.cons (Wk.i h44) .nil))) .nil)))) (evalF_sound hmix hC hF ((e68 fuel y6 y10 y17 y21 y28 y32 y39 y43).trans z28))

def C39 (fuel : Nat) : Oracle := (C38 fuel).add 68 (fun _ => true) (O68 fuel)

/-- shipyard/shipyardref13.cross -/
def A39v1 : AC := (.region 6 [
  ⟨(some 17), .move (.tmp 6), none⟩,
  ⟨(some 18), .binOp .add 3 (.tmp 17) (.const (.int .i64 1)) 3, none⟩,
  ⟨(some 6), .assign (.tmp 18), none⟩] 0 none)
def A39v2 : AC := (.seq (.block 3
  (.seq (.region 7 [
    ⟨(some 19), .move (.tmp 0), none⟩,
    ⟨(some 20), .move (.tmp 5), none⟩,
    ⟨(some 21), .indexAddr 22 34 2 (.tmp 19) (.tmp 20), none⟩,
    ⟨(some 22), .load 34 (some 2) (.tmp 21), none⟩,
    ⟨(some 23), .move (.tmp 0), none⟩,
    ⟨(some 24), .move (.tmp 5), none⟩,
    ⟨(some 25), .binOp .add 3 (.tmp 24) (.const (.int .i64 1)) 3, none⟩,
    ⟨(some 26), .move (.tmp 0), none⟩,
    ⟨(some 27), .len 22 false (.tmp 26), none⟩,
    ⟨(some 28), .binOp .rem 3 (.tmp 25) (.tmp 27) 3, none⟩,
    ⟨(some 29), .indexAddr 22 34 2 (.tmp 23) (.tmp 28), none⟩,
    ⟨(some 30), .load 34 (some 2) (.tmp 29), none⟩,
    ⟨(some 31), .move (.tmp 1), none⟩,
    ⟨(some 32), .move (.tmp 6), none⟩,
    ⟨(some 33), .indexAddr 22 34 2 (.tmp 31) (.tmp 32), none⟩,
    ⟨(some 34), .load 34 (some 2) (.tmp 33), none⟩,
    ⟨(some 35), .move (.tmp 1), none⟩,
    ⟨(some 36), .move (.tmp 6), none⟩,
    ⟨(some 37), .binOp .add 3 (.tmp 36) (.const (.int .i64 1)) 3, none⟩,
    ⟨(some 38), .move (.tmp 1), none⟩,
    ⟨(some 39), .len 22 false (.tmp 38), none⟩,
    ⟨(some 40), .binOp .rem 3 (.tmp 37) (.tmp 39) 3, none⟩,
    ⟨(some 41), .indexAddr 22 34 2 (.tmp 35) (.tmp 40), none⟩,
    ⟨(some 42), .load 34 (some 2) (.tmp 41), none⟩,
    ⟨(some 43), .call 68 [(.tmp 22), (.tmp 30), (.tmp 34), (.tmp 42)] [34, 34, 34, 34] .snap, none⟩] 0 (some [[], [], [0, 1], [0, 1, 2], [], [], [5], [], [7], [5, 6, 7, 8], [4, 5, 6, 7, 8, 9], [4, 5, 6, 7, 8, 9, 10], [], [], [12, 13], [12, 13, 14], [], [], [17], [], [19], [17, 18, 19, 20], [16, 17, 18, 19, 20, 21], [16, 17, 18, 19, 20, 21, 22], [0, 1, 2, 3, 4, 5, 6, 7, 8, 9, 10, 11, 12, 13, 14, 15, 16, 17, 18, 19, 20, 21, 22, 23]])) []
    (.cond (.tmp 43)
    (.seq (.region 8 [
      ⟨(some 4), .assign (.const (.bool true)), none⟩] 0 none) []
      (.ret [0, 1, 2, 3, 5, 6, 7, 8, 9, 10, 11, 12, 13, 14, 15, 16, 17, 18, 19, 20, 21, 22, 23, 24, 25, 26, 27, 28, 29, 30, 31, 32, 33, 34, 35, 36, 37, 38, 39, 40, 41, 42, 43]))
    .skip))) [4, 19, 20, 21, 22, 23, 24, 25, 26, 27, 28, 29, 30, 31, 32, 33, 34, 35, 36, 37, 38, 39, 40, 41, 42, 43]
  A39v1)
def A39v3 : AC := (.seq (.seq (.region 5 [
  ⟨(some 13), .move (.tmp 6), none⟩,
  ⟨(some 14), .move (.tmp 1), none⟩,
  ⟨(some 15), .len 22 false (.tmp 14), none⟩,
  ⟨(some 16), .binOp .lss 3 (.tmp 13) (.tmp 15) 3, none⟩] 0 none) []
  (.cond (.tmp 16)
  .skip
  (.exit 2 [2, 3, 4, 6, 7, 8, 9, 10, 11, 12, 13, 14, 15, 16, 17, 18, 19, 20, 21, 22, 23, 24, 25, 26, 27, 28, 29, 30, 31, 32, 33, 34, 35, 36, 37, 38, 39, 40, 41, 42, 43]))) [13, 14, 15, 16]
  A39v2)
def A39v4 : AC := (.region 3 [
  ⟨(some 11), .move (.tmp 5), none⟩,
  ⟨(some 12), .binOp .add 3 (.tmp 11) (.const (.int .i64 1)) 3, none⟩,
  ⟨(some 5), .assign (.tmp 12), none⟩] 0 none)
def A39v5 : AC := (.seq (.block 1
  (.seq (.region 4 [
    ⟨(some 6), .assign (.const (.int .i64 0)), none⟩] 0 none) []
    (.block 2
    (.loop [] [2, 3, 4, 7, 8, 9, 10, 11, 12, 13, 14, 15, 16, 17, 18, 19, 20, 21, 22, 23, 24, 25, 26, 27, 28, 29, 30, 31, 32, 33, 34, 35, 36, 37, 38, 39, 40, 41, 42, 43]
      A39v3)))) [4, 6, 13, 14, 15, 16, 17, 18, 19, 20, 21, 22, 23, 24, 25, 26, 27, 28, 29, 30, 31, 32, 33, 34, 35, 36, 37, 38, 39, 40, 41, 42, 43]
  A39v4)
def A39v6 : AC := (.seq (.seq (.region 2 [
  ⟨(some 7), .move (.tmp 5), none⟩,
  ⟨(some 8), .move (.tmp 0), none⟩,
  ⟨(some 9), .len 22 false (.tmp 8), none⟩,
  ⟨(some 10), .binOp .lss 3 (.tmp 7) (.tmp 9) 3, none⟩] 0 none) []
  (.cond (.tmp 10)
  .skip
  (.exit 0 [0, 1, 2, 3, 4, 5, 6, 7, 8, 9, 10, 11, 12, 13, 14, 15, 16, 17, 18, 19, 20, 21, 22, 23, 24, 25, 26, 27, 28, 29, 30, 31, 32, 33, 34, 35, 36, 37, 38, 39, 40, 41, 42, 43]))) [7, 8, 9, 10]
  A39v5)
def A39v7 : AC := (.seq (.region 9 [
  ⟨(some 4), .assign (.const (.bool false)), none⟩] 0 none) []
  (.ret [0, 1, 2, 3, 5, 6, 7, 8, 9, 10, 11, 12, 13, 14, 15, 16, 17, 18, 19, 20, 21, 22, 23, 24, 25, 26, 27, 28, 29, 30, 31, 32, 33, 34, 35, 36, 37, 38, 39, 40, 41, 42, 43]))
def A39 : AF := ⟨44, [.tmp 4],
  (.seq (.region 0 [
  ⟨(some 4), .assign (.const (.bool false)), none⟩] 0 none) []
  (.seq (.seq (.region 1 [
  ⟨(some 5), .assign (.const (.int .i64 0)), none⟩] 0 none) []
  (.block 0
  (.loop [] [2, 3, 4, 6, 7, 8, 9, 10, 11, 12, 13, 14, 15, 16, 17, 18, 19, 20, 21, 22, 23, 24, 25, 26, 27, 28, 29, 30, 31, 32, 33, 34, 35, 36, 37, 38, 39, 40, 41, 42, 43]
    A39v6))) [4, 5, 6, 7, 8, 9, 10, 11, 12, 13, 14, 15, 16, 17, 18, 19, 20, 21, 22, 23, 24, 25, 26, 27, 28, 29, 30, 31, 32, 33, 34, 35, 36, 37, 38, 39, 40, 41, 42, 43]
  A39v7))⟩

def B39v2 (C : Oracle) (fuel : Nat) {ρ : Type} : St → (Ex → St → Option ρ) → Option ρ := fun st k => evalC C fuel A39v3 st k
def N39v2 : St → Option St := fun s => s.norm [2, 3, 4, 7, 8, 9, 10, 11, 12, 13, 14, 15, 16, 17, 18, 19, 20, 21, 22, 23, 24, 25, 26, 27, 28, 29, 30, 31, 32, 33, 34, 35, 36, 37, 38, 39, 40, 41, 42, 43] 0

def s39v0 (x31 : Nat) (x32 : Nat → Nat → CV) (x33 : Nat) (x34 : Nat → Nat → CV) (x35 : Int) (x36 : Int) : St := ⟨[.x (.c (.ro false (.pr (.int .i64) (.pr (.int .i64) .nil)) x31 x32)), .x (.c (.ro false (.pr (.int .i64) (.pr (.int .i64) .nil)) x33 x34)), .u, .u, .u, .x (.c (.i .i64 x35)), .x (.c (.i .i64 x36)), .u, .u, .u, .u, .u, .u, .u, .u, .u, .u, .u, .u, .u, .u, .u, .u, .u, .u, .u, .u, .u, .u, .u, .u, .u, .u, .u, .u, .u, .u, .u, .u, .u, .u, .u, .u, .u],
    []⟩

def s39v1 : St := ⟨[.u, .u, .u, .u, .x (.c (.b true)), .u, .u, .u, .u, .u, .u, .u, .u, .u, .u, .u, .u, .u, .u, .u, .u, .u, .u, .u, .u, .u, .u, .u, .u, .u, .u, .u, .u, .u, .u, .u, .u, .u, .u, .u, .u, .u, .u, .u],
    []⟩

def s39v2 (x31 : Nat) (x32 : Nat → Nat → CV) (x33 : Nat) (x34 : Nat → Nat → CV) (x35 : Int) : St := ⟨[.x (.c (.ro false (.pr (.int .i64) (.pr (.int .i64) .nil)) x31 x32)), .x (.c (.ro false (.pr (.int .i64) (.pr (.int .i64) .nil)) x33 x34)), .u, .u, .u, .x (.c (.i .i64 x35)), .u, .u, .u, .u, .u, .u, .u, .u, .u, .u, .u, .u, .u, .u, .u, .u, .u, .u, .u, .u, .u, .u, .u, .u, .u, .u, .u, .u, .u, .u, .u, .u, .u, .u, .u, .u, .u, .u],
    []⟩

def L39v2 {ρ : Type} (fuel : Nat) (x31 : Nat) (x32 : Nat → Nat → CV) (x33 : Nat) (x34 : Nat → Nat → CV) (x35 : Int) : Nat → Int → (Option ρ) → (Option ρ) → Option ρ
  | 0, _, _, _ => none
  | m + 1, x36, k0, k1 =>
    (bif (decide (x36 < (Int.ofNat x33))) then (bif (inb x35 x31) then (bif ((Int.ofNat x31) == 0) then none else (bif (inb (Int.tmod (w64 (x35 + 1)) (Int.ofNat x31)) x31) then (bif (inb x36 x33) then (bif ((Int.ofNat x33) == 0) then none else (bif (inb (Int.tmod (w64 (x36 + 1)) (Int.ofNat x33)) x33) then (ob (F68 fuel (CV.int (x32 (Int.toNat x35) 0)) (CV.int (x32 (Int.toNat x35) 1)) (CV.int (x32 (Int.toNat (Int.tmod (w64 (x35 + 1)) (Int.ofNat x31))) 0)) (CV.int (x32 (Int.toNat (Int.tmod (w64 (x35 + 1)) (Int.ofNat x31))) 1)) (CV.int (x34 (Int.toNat x36) 0)) (CV.int (x34 (Int.toNat x36) 1)) (CV.int (x34 (Int.toNat (Int.tmod (w64 (x36 + 1)) (Int.ofNat x33))) 0)) (CV.int (x34 (Int.toNat (Int.tmod (w64 (x36 + 1)) (Int.ofNat x33))) 1))) fun x37 => (bif x37 then k0 else (L39v2 fuel x31 x32 x33 x34 x35 m (w64 (x36 + 1)) k0 k1))) else none)) else none) else none)) else none) else k1)

theorem nl39v2 {ρ σ : Type} (fuel : Nat) (x31 : Nat) (x32 : Nat → Nat → CV) (x33 : Nat) (x34 : Nat → Nat → CV) (x35 : Int) (g : ρ → Option σ) : ∀ (m : Nat) (x36 : Int) (k0 : Option ρ) (k1 : Option ρ), ob (L39v2 fuel x31 x32 x33 x34 x35 m x36 k0 k1) g = L39v2 fuel x31 x32 x33 x34 x35 m x36 (ob k0 g) (ob k1 g)
  | 0, _, _, _ => rfl
  | m + 1, x36, k0, k1 => by
    simp only [L39v2, ob_bif, ob_ob, ob_none, nl39v2 fuel x31 x32 x33 x34 x35 g m]

theorem r39v2 (fuel : Nat) (m : Nat) {ρ : Type} (k : Ex → St → Option ρ) (x31 : Nat) (x32 : Nat → Nat → CV) (x33 : Nat) (x34 : Nat → Nat → CV) (x35 : Int) (x36 : Int) :
    loopH (B39v2 (C39 fuel) fuel) N39v2 (m + 1) (s39v0 x31 x32 x33 x34 x35 x36) k =
    (bif (decide (x36 < (Int.ofNat x33))) then (bif (inb x35 x31) then (bif ((Int.ofNat x31) == 0) then none else (bif (inb (Int.tmod (w64 (x35 + 1)) (Int.ofNat x31)) x31) then (bif (inb x36 x33) then (bif ((Int.ofNat x33) == 0) then none else (bif (inb (Int.tmod (w64 (x36 + 1)) (Int.ofNat x33)) x33) then (ob (F68 fuel (CV.int (x32 (Int.toNat x35) 0)) (CV.int (x32 (Int.toNat x35) 1)) (CV.int (x32 (Int.toNat (Int.tmod (w64 (x35 + 1)) (Int.ofNat x31))) 0)) (CV.int (x32 (Int.toNat (Int.tmod (w64 (x35 + 1)) (Int.ofNat x31))) 1)) (CV.int (x34 (Int.toNat x36) 0)) (CV.int (x34 (Int.toNat x36) 1)) (CV.int (x34 (Int.toNat (Int.tmod (w64 (x36 + 1)) (Int.ofNat x33))) 0)) (CV.int (x34 (Int.toNat (Int.tmod (w64 (x36 + 1)) (Int.ofNat x33))) 1))) fun x37 => (bif x37 then (k .ret s39v1) else (loopH (B39v2 (C39 fuel) fuel) N39v2 m (s39v0 x31 x32 x33 x34 x35 (w64 (x36 + 1))) k))) else none)) else none) else none)) else none) else (k (.exit 2) (s39v2 x31 x32 x33 x34 x35))) := by kernel_rfl

theorem q39v2 (fuel : Nat) (x31 : Nat) (x32 : Nat → Nat → CV) (x33 : Nat) (x34 : Nat → Nat → CV) (x35 : Int) {ρ : Type} (k : Ex → St → Option ρ) : ∀ (m : Nat) (x36 : Int),
    loopH (B39v2 (C39 fuel) fuel) N39v2 m (s39v0 x31 x32 x33 x34 x35 x36) k = L39v2 fuel x31 x32 x33 x34 x35 m x36 (k .ret s39v1) (k (.exit 2) (s39v2 x31 x32 x33 x34 x35))
  | 0, _ => rfl
  | m + 1, x36 => by
    rw [r39v2]
    simp only [L39v2, q39v2 fuel x31 x32 x33 x34 x35 k m]

def B39v3 (C : Oracle) (fuel : Nat) {ρ : Type} : St → (Ex → St → Option ρ) → Option ρ := fun st k => evalC C fuel A39v6 st k
def N39v3 : St → Option St := fun s => s.norm [2, 3, 4, 6, 7, 8, 9, 10, 11, 12, 13, 14, 15, 16, 17, 18, 19, 20, 21, 22, 23, 24, 25, 26, 27, 28, 29, 30, 31, 32, 33, 34, 35, 36, 37, 38, 39, 40, 41, 42, 43] 0

def s39v3 (x20 : Nat) (x21 : Nat → Nat → CV) (x22 : Nat) (x23 : Nat → Nat → CV) (x24 : Int) : St := ⟨[.x (.c (.ro false (.pr (.int .i64) (.pr (.int .i64) .nil)) x20 x21)), .x (.c (.ro false (.pr (.int .i64) (.pr (.int .i64) .nil)) x22 x23)), .u, .u, .u, .x (.c (.i .i64 x24)), .u, .u, .u, .u, .u, .u, .u, .u, .u, .u, .u, .u, .u, .u, .u, .u, .u, .u, .u, .u, .u, .u, .u, .u, .u, .u, .u, .u, .u, .u, .u, .u, .u, .u, .u, .u, .u, .u],
    []⟩

def s39v4 : St := ⟨[.u, .u, .u, .u, .u, .u, .u, .u, .u, .u, .u, .u, .u, .u, .u, .u, .u, .u, .u, .u, .u, .u, .u, .u, .u, .u, .u, .u, .u, .u, .u, .u, .u, .u, .u, .u, .u, .u, .u, .u, .u, .u, .u, .u],
    []⟩

def L39v3 {ρ : Type} (fuel : Nat) (x20 : Nat) (x21 : Nat → Nat → CV) (x22 : Nat) (x23 : Nat → Nat → CV) : Nat → Int → (Option ρ) → (Option ρ) → Option ρ
  | 0, _, _, _ => none
  | m + 1, x24, k0, k1 =>
    (bif (decide (x24 < (Int.ofNat x20))) then (L39v2 fuel x20 x21 x22 x23 x24 fuel 0
    k0
    (L39v3 fuel x20 x21 x22 x23 m (w64 (x24 + 1)) k0 k1)) else k1)

theorem nl39v3 {ρ σ : Type} (fuel : Nat) (x20 : Nat) (x21 : Nat → Nat → CV) (x22 : Nat) (x23 : Nat → Nat → CV) (g : ρ → Option σ) : ∀ (m : Nat) (x24 : Int) (k0 : Option ρ) (k1 : Option ρ), ob (L39v3 fuel x20 x21 x22 x23 m x24 k0 k1) g = L39v3 fuel x20 x21 x22 x23 m x24 (ob k0 g) (ob k1 g)
  | 0, _, _, _ => rfl
  | m + 1, x24, k0, k1 => by
    simp only [L39v3, ob_bif, ob_ob, ob_none, nl39v3 fuel x20 x21 x22 x23 g m, nl39v2]

def s39v5 (x20 : Nat) (x21 : Nat → Nat → CV) (x22 : Nat) (x23 : Nat → Nat → CV) (x24 : Int) : St := ⟨[.x (.c (.ro false (.pr (.int .i64) (.pr (.int .i64) .nil)) x20 x21)), .x (.c (.ro false (.pr (.int .i64) (.pr (.int .i64) .nil)) x22 x23)), .u, .u, .u, .x (.c (.i .i64 x24)), .x (.c (.i .i64 0)), .u, .u, .u, .u, .u, .u, .u, .u, .u, .u, .u, .u, .u, .u, .u, .u, .u, .u, .u, .u, .u, .u, .u, .u, .u, .u, .u, .u, .u, .u, .u, .u, .u, .u, .u, .u, .u],
    []⟩

theorem r39v3 (fuel : Nat) (m : Nat) {ρ : Type} (k : Ex → St → Option ρ) (x20 : Nat) (x21 : Nat → Nat → CV) (x22 : Nat) (x23 : Nat → Nat → CV) (x24 : Int) :
    loopH (B39v3 (C39 fuel) fuel) N39v3 (m + 1) (s39v3 x20 x21 x22 x23 x24) k =
    (bif (decide (x24 < (Int.ofNat x20))) then (loopN (B39v2 (C39 fuel) fuel) N39v2 fuel (s39v5 x20 x21 x22 x23 x24) (kBlk 2 (kBlk 1 (kSeq (C39 fuel) fuel [4, 6, 13, 14, 15, 16, 17, 18, 19, 20, 21, 22, 23, 24, 25, 26, 27, 28, 29, 30, 31, 32, 33, 34, 35, 36, 37, 38, 39, 40, 41, 42, 43] A39v4 (kLoop (B39v3 (C39 fuel) fuel) N39v3 m k))))) else (k (.exit 0) s39v4)) := by kernel_rfl

theorem t39v1 (fuel : Nat) {ρ : Type} (k : Ex → St → Option ρ) (x20 : Nat) (x21 : Nat → Nat → CV) (x22 : Nat) (x23 : Nat → Nat → CV) (x24 : Int) :
    loopN (B39v2 (C39 fuel) fuel) N39v2 fuel (s39v5 x20 x21 x22 x23 x24) k =
    L39v2 fuel x20 x21 x22 x23 x24 fuel 0 (k .ret s39v1) (k (.exit 2) (s39v2 x20 x21 x22 x23 x24)) :=
  (loopN_at (st' := (s39v0 x20 x21 x22 x23 x24 0)) (by kernel_rfl)).trans (q39v2 fuel x20 x21 x22 x23 x24 k fuel 0)

theorem g39v2 (fuel : Nat) (m : Nat) {ρ : Type} (k : Ex → St → Option ρ) :
    (kBlk 2 (kBlk 1 (kSeq (C39 fuel) fuel [4, 6, 13, 14, 15, 16, 17, 18, 19, 20, 21, 22, 23, 24, 25, 26, 27, 28, 29, 30, 31, 32, 33, 34, 35, 36, 37, 38, 39, 40, 41, 42, 43] A39v4 (kLoop (B39v3 (C39 fuel) fuel) N39v3 m k)))) .ret s39v1 =
    (k .ret s39v1) := by kernel_rfl

theorem g39v3 (fuel : Nat) (m : Nat) {ρ : Type} (k : Ex → St → Option ρ) (x20 : Nat) (x21 : Nat → Nat → CV) (x22 : Nat) (x23 : Nat → Nat → CV) (x24 : Int) :
    (kBlk 2 (kBlk 1 (kSeq (C39 fuel) fuel [4, 6, 13, 14, 15, 16, 17, 18, 19, 20, 21, 22, 23, 24, 25, 26, 27, 28, 29, 30, 31, 32, 33, 34, 35, 36, 37, 38, 39, 40, 41, 42, 43] A39v4 (kLoop (B39v3 (C39 fuel) fuel) N39v3 m k)))) (.exit 2) (s39v2 x20 x21 x22 x23 x24) =
    (loopH (B39v3 (C39 fuel) fuel) N39v3 m (s39v3 x20 x21 x22 x23 (w64 (x24 + 1))) k) := by kernel_rfl

theorem q39v3 (fuel : Nat) (x20 : Nat) (x21 : Nat → Nat → CV) (x22 : Nat) (x23 : Nat → Nat → CV) {ρ : Type} (k : Ex → St → Option ρ) : ∀ (m : Nat) (x24 : Int),
    loopH (B39v3 (C39 fuel) fuel) N39v3 m (s39v3 x20 x21 x22 x23 x24) k = L39v3 fuel x20 x21 x22 x23 m x24 (k .ret s39v1) (k (.exit 0) s39v4)
  | 0, _ => rfl
  | m + 1, x24 => by
    rw [r39v3]
    simp only [L39v3, q39v3 fuel x20 x21 x22 x23 k m, t39v1, g39v2, g39v3]

def D39 {ρ : Type} (fuel : Nat) (x1 : Nat) (x2 : Nat → Nat → CV) (x3 : Nat) (x4 : Nat → Nat → CV) (k : Bool → Option ρ) : Option ρ :=
  (L39v3 fuel x1 x2 x3 x4 fuel 0
    (k true)
    (k false))

def F39 (fuel : Nat) (x1 : Nat) (x2 : Nat → Nat → CV) (x3 : Nat) (x4 : Nat → Nat → CV) : Option (Bool) := D39 fuel x1 x2 x3 x4 some

theorem n39 {ρ σ : Type} (fuel : Nat) (x1 : Nat) (x2 : Nat → Nat → CV) (x3 : Nat) (x4 : Nat → Nat → CV) (k : (Bool) → Option ρ) (g : ρ → Option σ) : ob (D39 fuel x1 x2 x3 x4 k) g = D39 fuel x1 x2 x3 x4 fun t => ob (k t) g := by
  simp only [D39, ob_bif, ob_ob, ob_none, nl39v3]

theorem f39 {ρ : Type} (fuel : Nat) (x1 : Nat) (x2 : Nat → Nat → CV) (x3 : Nat) (x4 : Nat → Nat → CV) (k : (Bool) → Option ρ) : D39 fuel x1 x2 x3 x4 k = ob (F39 fuel x1 x2 x3 x4) k := by
  unfold F39
  rw [n39]
  simp only [ob_some]

def s39v6 (x1 : Nat) (x2 : Nat → Nat → CV) (x3 : Nat) (x4 : Nat → Nat → CV) : St := ⟨[.x (.c (.ro false (.pr (.int .i64) (.pr (.int .i64) .nil)) x1 x2)), .x (.c (.ro false (.pr (.int .i64) (.pr (.int .i64) .nil)) x3 x4)), .undef, .undef, .x (.c (.b false)), .x (.c (.i .i64 0)), .undef, .undef, .undef, .undef, .undef, .undef, .undef, .undef, .undef, .undef, .undef, .undef, .undef, .undef, .undef, .undef, .undef, .undef, .undef, .undef, .undef, .undef, .undef, .undef, .undef, .undef, .undef, .undef, .undef, .undef, .undef, .undef, .undef, .undef, .undef, .undef, .undef, .undef],
    []⟩

theorem walk39 (fuel : Nat) (x1 : Nat) (x2 : Nat → Nat → CV) (x3 : Nat) (x4 : Nat → Nat → CV) :
    evalF (C39 fuel) fuel A39 [.v (.ro false (.pr (.int .i64) (.pr (.int .i64) .nil)) x1 x2), .v (.ro false (.pr (.int .i64) (.pr (.int .i64) .nil)) x3 x4)] =
    (loopN (B39v3 (C39 fuel) fuel) N39v3 fuel (s39v6 x1 x2 x3 x4) (kBlk 0 (kSeq (C39 fuel) fuel [4, 5, 6, 7, 8, 9, 10, 11, 12, 13, 14, 15, 16, 17, 18, 19, 20, 21, 22, 23, 24, 25, 26, 27, 28, 29, 30, 31, 32, 33, 34, 35, 36, 37, 38, 39, 40, 41, 42, 43] A39v7 (finish A39)))) := by kernel_rfl

theorem t39v4 (fuel : Nat) {ρ : Type} (k : Ex → St → Option ρ) (x1 : Nat) (x2 : Nat → Nat → CV) (x3 : Nat) (x4 : Nat → Nat → CV) :
    loopN (B39v3 (C39 fuel) fuel) N39v3 fuel (s39v6 x1 x2 x3 x4) k =
    L39v3 fuel x1 x2 x3 x4 fuel 0 (k .ret s39v1) (k (.exit 0) s39v4) :=
  (loopN_at (st' := (s39v3 x1 x2 x3 x4 0)) (by kernel_rfl)).trans (q39v3 fuel x1 x2 x3 x4 k fuel 0)

theorem g39v5 (fuel : Nat) :
    (kBlk 0 (kSeq (C39 fuel) fuel [4, 5, 6, 7, 8, 9, 10, 11, 12, 13, 14, 15, 16, 17, 18, 19, 20, 21, 22, 23, 24, 25, 26, 27, 28, 29, 30, 31, 32, 33, 34, 35, 36, 37, 38, 39, 40, 41, 42, 43] A39v7 (finish A39))) .ret s39v1 =
    (some [.v (.b true)]) := by kernel_rfl

theorem g39v6 (fuel : Nat) :
    (kBlk 0 (kSeq (C39 fuel) fuel [4, 5, 6, 7, 8, 9, 10, 11, 12, 13, 14, 15, 16, 17, 18, 19, 20, 21, 22, 23, 24, 25, 26, 27, 28, 29, 30, 31, 32, 33, 34, 35, 36, 37, 38, 39, 40, 41, 42, 43] A39v7 (finish A39))) (.exit 0) s39v4 =
    (some [.v (.b false)]) := by kernel_rfl

theorem e39 (fuel : Nat) (x1 : Nat) (x2 : Nat → Nat → CV) (x3 : Nat) (x4 : Nat → Nat → CV) : evalF (C39 fuel) fuel A39 [.v (.ro false (.pr (.int .i64) (.pr (.int .i64) .nil)) x1 x2), .v (.ro false (.pr (.int .i64) (.pr (.int .i64) .nil)) x3 x4)] = ob (F39 fuel x1 x2 x3 x4) fun t => some [.v (.b t)] := by
  rw [walk39, ← f39]
  simp only [D39, t39v4, g39v5, g39v6]

def O39 (fuel : Nat) : Ora where
  o := fun args {ρ} K =>
    wc args fun a1 l2 =>
    wv a1 fun c3 =>
    wL (.pr (.int .i64) (.pr (.int .i64) .nil)) c3 fun y4 y5 =>
    wc l2 fun a7 l8 =>
    wv a7 fun c9 =>
    wL (.pr (.int .i64) (.pr (.int .i64) .nil)) c9 fun y10 y11 =>
    wn l8 <|
    (ob (F39 fuel y4 y5 y10 y11) fun t => K [.v (.b t)])
  nat := fun args {ρ} K => by
    simp only [bind_wc, bind_wn, bind_wv, bind_wagg, bind_wI, bind_wB, bind_wS, bind_wL, bind_wP, bind_wFn, bind_ob, Option.bind_some]

theorem d39 {P : Program} (fuel : Nat) (hmix : P.follows .mixedOrders = true) (hC : Sound P (C39 fuel)) (hF : FFits P 39 A39) (args res : List A) (h : (O39 fuel).o args some = some res) : Den P 39 args res := by
  obtain ⟨a1, l2, rfl, z0⟩ := inv_wc h
  obtain ⟨c3, rfl, z1⟩ := inv_wv z0
  obtain ⟨y4, y5, h6, z2⟩ := inv_wL z1
  obtain ⟨a7, l8, rfl, z3⟩ := inv_wc z2
  obtain ⟨c9, rfl, z4⟩ := inv_wv z3
  obtain ⟨y10, y11, h12, z5⟩ := inv_wL z4
  obtain ⟨hn, z6⟩ := inv_wn z5
  cases hn
  exact Den.weaken (.cons (WkA.v h6) (.cons (WkA.v h12) .nil)) (evalF_sound hmix hC hF ((e39 fuel y4 y5 y10 y11).trans z6))

def C40 (fuel : Nat) : Oracle := (C39 fuel).add 39 (fun _ => true) (O39 fuel)

/-- shipyard/shipyardref12.Where -/
def A40v1 : AC := (.seq (.region 10 [
  ⟨(some 41), .fieldAddr 34 (.tmp 7) 1 1, none⟩,
  ⟨(some 42), .load 3 none (.tmp 41), none⟩,
  ⟨(some 43), .fieldAddr 34 (.tmp 3) 1 1, none⟩,
  ⟨(some 44), .load 3 none (.tmp 43), none⟩,
  ⟨(some 45), .binOp .leq 3 (.tmp 42) (.tmp 44) 3, none⟩,
  ⟨(some 46), .move (.tmp 45), none⟩,
  ⟨(some 47), .fieldAddr 34 (.tmp 3) 1 1, (some (46, true))⟩,
  ⟨(some 48), .load 3 none (.tmp 47), (some (46, true))⟩,
  ⟨(some 49), .fieldAddr 34 (.tmp 8) 1 1, (some (46, true))⟩,
  ⟨(some 50), .load 3 none (.tmp 49), (some (46, true))⟩,
  ⟨(some 51), .binOp .lss 3 (.tmp 48) (.tmp 50) 3, (some (46, true))⟩,
  ⟨(some 52), .pick (.tmp 46) (.tmp 51) (.const (.bool false)), none⟩,
  ⟨(some 53), .move (.tmp 52), none⟩,
  ⟨(some 54), .load 34 (some 2) (.tmp 7), (some (53, true))⟩,
  ⟨(some 55), .load 34 (some 2) (.tmp 8), (some (53, true))⟩,
  ⟨(some 56), .load 34 (some 2) (.tmp 3), (some (53, true))⟩,
  ⟨(some 57), .call 71 [(.tmp 54), (.tmp 55), (.tmp 56)] [34, 34, 34] .snap, (some (53, true))⟩,
  ⟨(some 58), .binOp .gtr 3 (.tmp 57) (.const (.int .i64 0)) 3, (some (53, true))⟩,
  ⟨(some 59), .pick (.tmp 53) (.tmp 58) (.const (.bool false)), none⟩,
  ⟨(some 9), .assign (.tmp 59), none⟩] 0 none) []
  (.seq (.region 11 [
  ⟨(some 60), .fieldAddr 34 (.tmp 8) 1 1, none⟩,
  ⟨(some 61), .load 3 none (.tmp 60), none⟩,
  ⟨(some 62), .fieldAddr 34 (.tmp 3) 1 1, none⟩,
  ⟨(some 63), .load 3 none (.tmp 62), none⟩,
  ⟨(some 64), .binOp .leq 3 (.tmp 61) (.tmp 63) 3, none⟩,
  ⟨(some 65), .move (.tmp 64), none⟩,
  ⟨(some 66), .fieldAddr 34 (.tmp 3) 1 1, (some (65, true))⟩,
  ⟨(some 67), .load 3 none (.tmp 66), (some (65, true))⟩,
  ⟨(some 68), .fieldAddr 34 (.tmp 7) 1 1, (some (65, true))⟩,
  ⟨(some 69), .load 3 none (.tmp 68), (some (65, true))⟩,
  ⟨(some 70), .binOp .lss 3 (.tmp 67) (.tmp 69) 3, (some (65, true))⟩,
  ⟨(some 71), .pick (.tmp 65) (.tmp 70) (.const (.bool false)), none⟩,
  ⟨(some 72), .move (.tmp 71), none⟩,
  ⟨(some 73), .load 34 (some 2) (.tmp 7), (some (72, true))⟩,
  ⟨(some 74), .load 34 (some 2) (.tmp 8), (some (72, true))⟩,
  ⟨(some 75), .load 34 (some 2) (.tmp 3), (some (72, true))⟩,
  ⟨(some 76), .call 71 [(.tmp 73), (.tmp 74), (.tmp 75)] [34, 34, 34] .snap, (some (72, true))⟩,
  ⟨(some 77), .binOp .lss 3 (.tmp 76) (.const (.int .i64 0)) 3, (some (72, true))⟩,
  ⟨(some 78), .pick (.tmp 72) (.tmp 77) (.const (.bool false)), none⟩,
  ⟨(some 10), .assign (.tmp 78), none⟩] 0 none) []
  (.seq (.region 12 [
  ⟨(some 79), .move (.tmp 9), none⟩,
  ⟨(some 80), .move (.tmp 79), none⟩,
  ⟨(some 81), .move (.tmp 10), (some (80, false))⟩,
  ⟨(some 82), .pick (.tmp 80) (.const (.bool true)) (.tmp 81), none⟩] 0 none) []
  (.cond (.tmp 82)
  (.region 13 [
    ⟨(some 83), .move (.tmp 5), none⟩,
    ⟨(some 84), .unOp .not 4 (.tmp 83), none⟩,
    ⟨(some 5), .assign (.tmp 84), none⟩] 0 none)
  .skip))))
def A40v2 : AC := (.region 6 [
  ⟨(some 23), .move (.tmp 6), none⟩,
  ⟨(some 24), .binOp .add 3 (.tmp 23) (.const (.int .i64 1)) 3, none⟩,
  ⟨(some 6), .assign (.tmp 24), none⟩] 0 none)
def A40v3 : AC := (.seq (.block 1
  (.seq (.region 7 [
    ⟨(some 25), .move (.tmp 0), none⟩,
    ⟨(some 26), .move (.tmp 6), none⟩,
    ⟨(some 27), .indexAddr 22 34 2 (.tmp 25) (.tmp 26), none⟩,
    ⟨(some 28), .load 34 (some 2) (.tmp 27), none⟩,
    ⟨(some 29), .move (.tmp 0), none⟩,
    ⟨(some 30), .move (.tmp 6), none⟩,
    ⟨(some 31), .binOp .add 3 (.tmp 30) (.const (.int .i64 1)) 3, none⟩,
    ⟨(some 32), .move (.tmp 0), none⟩,
    ⟨(some 33), .len 22 false (.tmp 32), none⟩,
    ⟨(some 34), .binOp .rem 3 (.tmp 31) (.tmp 33) 3, none⟩,
    ⟨(some 35), .indexAddr 22 34 2 (.tmp 29) (.tmp 34), none⟩,
    ⟨(some 36), .load 34 (some 2) (.tmp 35), none⟩,
    ⟨(some 7), .alloc 0 34 [.c (.i .i64 0), .c (.i .i64 0)], none⟩,
    ⟨(some 8), .alloc 1 34 [.c (.i .i64 0), .c (.i .i64 0)], none⟩,
    ⟨none, .store 34 2 (.tmp 7) (.tmp 28), none⟩,
    ⟨none, .store 34 2 (.tmp 8) (.tmp 36), none⟩] 2 (some [[], [], [0, 1], [0, 1, 2], [], [], [5], [], [7], [5, 6, 7, 8], [4, 5, 6, 7, 8, 9], [4, 5, 6, 7, 8, 9, 10], [], [], [0, 1, 2, 3, 12, 13], [0, 1, 2, 3, 4, 5, 6, 7, 8, 9, 10, 11, 12, 13, 14]])) []
    (.seq (.seq (.region 8 [
    ⟨(some 37), .load 34 (some 2) (.tmp 3), none⟩,
    ⟨(some 38), .load 34 (some 2) (.tmp 7), none⟩,
    ⟨(some 39), .load 34 (some 2) (.tmp 8), none⟩,
    ⟨(some 40), .call 70 [(.tmp 37), (.tmp 38), (.tmp 39)] [34, 34, 34] .snap, none⟩] 0 none) []
    (.cond (.tmp 40)
    (.seq (.region 9 [
      ⟨(some 4), .assign (.const (.int .i64 0)), none⟩] 0 none) []
      (.ret [0, 1, 2, 3, 5, 6, 7, 8, 9, 10, 11, 12, 13, 14, 15, 16, 17, 18, 19, 20, 21, 22, 23, 24, 25, 26, 27, 28, 29, 30, 31, 32, 33, 34, 35, 36, 37, 38, 39, 40, 41, 42, 43, 44, 45, 46, 47, 48, 49, 50, 51, 52, 53, 54, 55, 56, 57, 58, 59, 60, 61, 62, 63, 64, 65, 66, 67, 68, 69, 70, 71, 72, 73, 74, 75, 76, 77, 78, 79, 80, 81, 82, 83, 84, 85]))
    .skip)) [4, 37, 38, 39, 40]
    A40v1))) [4, 7, 8, 9, 10, 25, 26, 27, 28, 29, 30, 31, 32, 33, 34, 35, 36, 37, 38, 39, 40, 41, 42, 43, 44, 45, 46, 47, 48, 49, 50, 51, 52, 53, 54, 55, 56, 57, 58, 59, 60, 61, 62, 63, 64, 65, 66, 67, 68, 69, 70, 71, 72, 73, 74, 75, 76, 77, 78, 79, 80, 81, 82, 83, 84]
  A40v2)
def A40v4 : AC := (.seq (.seq (.region 5 [
  ⟨(some 19), .move (.tmp 6), none⟩,
  ⟨(some 20), .move (.tmp 0), none⟩,
  ⟨(some 21), .len 22 false (.tmp 20), none⟩,
  ⟨(some 22), .binOp .lss 3 (.tmp 19) (.tmp 21) 3, none⟩] 0 none) []
  (.cond (.tmp 22)
  .skip
  (.exit 0 [0, 1, 2, 3, 4, 6, 7, 8, 9, 10, 11, 12, 13, 14, 15, 16, 17, 18, 19, 20, 21, 22, 23, 24, 25, 26, 27, 28, 29, 30, 31, 32, 33, 34, 35, 36, 37, 38, 39, 40, 41, 42, 43, 44, 45, 46, 47, 48, 49, 50, 51, 52, 53, 54, 55, 56, 57, 58, 59, 60, 61, 62, 63, 64, 65, 66, 67, 68, 69, 70, 71, 72, 73, 74, 75, 76, 77, 78, 79, 80, 81, 82, 83, 84, 85]))) [19, 20, 21, 22]
  A40v3)
def A40v5 : AC := (.seq (.region 16 [
  ⟨(some 4), .assign (.const (.int .i64 (-1))), none⟩] 0 none) []
  (.ret [0, 1, 2, 3, 5, 6, 7, 8, 9, 10, 11, 12, 13, 14, 15, 16, 17, 18, 19, 20, 21, 22, 23, 24, 25, 26, 27, 28, 29, 30, 31, 32, 33, 34, 35, 36, 37, 38, 39, 40, 41, 42, 43, 44, 45, 46, 47, 48, 49, 50, 51, 52, 53, 54, 55, 56, 57, 58, 59, 60, 61, 62, 63, 64, 65, 66, 67, 68, 69, 70, 71, 72, 73, 74, 75, 76, 77, 78, 79, 80, 81, 82, 83, 84, 85]))
def A40v6 : AC := (.seq (.seq (.region 14 [
  ⟨(some 85), .move (.tmp 5), none⟩] 0 none) []
  (.cond (.tmp 85)
  (.seq (.region 15 [
    ⟨(some 4), .assign (.const (.int .i64 1)), none⟩] 0 none) []
    (.ret [0, 1, 2, 3, 5, 6, 7, 8, 9, 10, 11, 12, 13, 14, 15, 16, 17, 18, 19, 20, 21, 22, 23, 24, 25, 26, 27, 28, 29, 30, 31, 32, 33, 34, 35, 36, 37, 38, 39, 40, 41, 42, 43, 44, 45, 46, 47, 48, 49, 50, 51, 52, 53, 54, 55, 56, 57, 58, 59, 60, 61, 62, 63, 64, 65, 66, 67, 68, 69, 70, 71, 72, 73, 74, 75, 76, 77, 78, 79, 80, 81, 82, 83, 84, 85]))
  .skip)) [4, 85]
  A40v5)
def A40v7 : AC := (.seq (.region 3 [
  ⟨(some 5), .assign (.const (.bool false)), none⟩] 0 none) []
  (.seq (.seq (.region 4 [
  ⟨(some 6), .assign (.const (.int .i64 0)), none⟩] 0 none) []
  (.block 0
  (.loop [] [1, 2, 4, 7, 8, 9, 10, 11, 12, 13, 14, 15, 16, 17, 18, 19, 20, 21, 22, 23, 24, 25, 26, 27, 28, 29, 30, 31, 32, 33, 34, 35, 36, 37, 38, 39, 40, 41, 42, 43, 44, 45, 46, 47, 48, 49, 50, 51, 52, 53, 54, 55, 56, 57, 58, 59, 60, 61, 62, 63, 64, 65, 66, 67, 68, 69, 70, 71, 72, 73, 74, 75, 76, 77, 78, 79, 80, 81, 82, 83, 84, 85]
    A40v4))) [4, 6, 7, 8, 9, 10, 19, 20, 21, 22, 23, 24, 25, 26, 27, 28, 29, 30, 31, 32, 33, 34, 35, 36, 37, 38, 39, 40, 41, 42, 43, 44, 45, 46, 47, 48, 49, 50, 51, 52, 53, 54, 55, 56, 57, 58, 59, 60, 61, 62, 63, 64, 65, 66, 67, 68, 69, 70, 71, 72, 73, 74, 75, 76, 77, 78, 79, 80, 81, 82, 83, 84]
  A40v6))
def A40 : AF := ⟨86, [.tmp 4],
  (.seq (.region 0 [
  ⟨(some 3), .box 0 34 (.tmp 1), none⟩,
  ⟨(some 4), .assign (.const (.int .i64 0)), none⟩] 1 none) []
  (.seq (.seq (.region 1 [
  ⟨(some 11), .move (.tmp 0), none⟩,
  ⟨(some 12), .call 37 [(.tmp 11)] [22] .snap, none⟩,
  ⟨(some 13), .binOp .neq 27 (.tmp 12) (.const (.int .i64 0)) 27, none⟩,
  ⟨(some 14), .move (.tmp 13), none⟩,
  ⟨(some 15), .load 34 (some 2) (.tmp 3), (some (14, false))⟩,
  ⟨(some 16), .call 69 [(.tmp 15)] [34] .snap, (some (14, false))⟩,
  ⟨(some 17), .unOp .not 4 (.tmp 16), (some (14, false))⟩,
  ⟨(some 18), .pick (.tmp 14) (.const (.bool true)) (.tmp 17), none⟩] 0 none) []
  (.cond (.tmp 18)
  (.seq (.region 2 [
    ⟨(some 4), .assign (.const (.int .i64 (-1))), none⟩] 0 none) []
    (.ret [0, 1, 2, 3, 5, 6, 7, 8, 9, 10, 11, 12, 13, 14, 15, 16, 17, 18, 19, 20, 21, 22, 23, 24, 25, 26, 27, 28, 29, 30, 31, 32, 33, 34, 35, 36, 37, 38, 39, 40, 41, 42, 43, 44, 45, 46, 47, 48, 49, 50, 51, 52, 53, 54, 55, 56, 57, 58, 59, 60, 61, 62, 63, 64, 65, 66, 67, 68, 69, 70, 71, 72, 73, 74, 75, 76, 77, 78, 79, 80, 81, 82, 83, 84, 85]))
  .skip)) [4, 11, 12, 13, 14, 15, 16, 17, 18]
  A40v7))⟩

def B40v1 (C : Oracle) (fuel : Nat) {ρ : Type} : St → (Ex → St → Option ρ) → Option ρ := fun st k => evalC C fuel A40v4 st k
def N40v1 : St → Option St := fun s => s.norm [1, 2, 4, 7, 8, 9, 10, 11, 12, 13, 14, 15, 16, 17, 18, 19, 20, 21, 22, 23, 24, 25, 26, 27, 28, 29, 30, 31, 32, 33, 34, 35, 36, 37, 38, 39, 40, 41, 42, 43, 44, 45, 46, 47, 48, 49, 50, 51, 52, 53, 54, 55, 56, 57, 58, 59, 60, 61, 62, 63, 64, 65, 66, 67, 68, 69, 70, 71, 72, 73, 74, 75, 76, 77, 78, 79, 80, 81, 82, 83, 84, 85] 1

def s40v0 (x16 : Nat) (x17 : Nat → Nat → CV) (x18 : Bool) (x19 : Int) (x20 : Int) (x21 : Int) : St := ⟨[.x (.c (.ro false (.pr (.int .i64) (.pr (.int .i64) .nil)) x16 x17)), .u, .u, .x (.ptr 0 0), .u, .x (.c (.b x18)), .x (.c (.i .i64 x19)), .u, .u, .u, .u, .u, .u, .u, .u, .u, .u, .u, .u, .u, .u, .u, .u, .u, .u, .u, .u, .u, .u, .u, .u, .u, .u, .u, .u, .u, .u, .u, .u, .u, .u, .u, .u, .u, .u, .u, .u, .u, .u, .u, .u, .u, .u, .u, .u, .u, .u, .u, .u, .u, .u, .u, .u, .u, .u, .u, .u, .u, .u, .u, .u, .u, .u, .u, .u, .u, .u, .u, .u, .u, .u, .u, .u, .u, .u, .u],
    [.box [(.c (.i .i64 x20)), (.c (.i .i64 x21))]]⟩

def s40v1 (x20 : Int) (x21 : Int) (x27 : Int) (x28 : Int) (x29 : Int) (x30 : Int) : St := ⟨[.u, .u, .u, .u, .x (.c (.i .i64 0)), .u, .u, .u, .u, .u, .u, .u, .u, .u, .u, .u, .u, .u, .u, .u, .u, .u, .u, .u, .u, .u, .u, .u, .u, .u, .u, .u, .u, .u, .u, .u, .u, .u, .u, .u, .u, .u, .u, .u, .u, .u, .u, .u, .u, .u, .u, .u, .u, .u, .u, .u, .u, .u, .u, .u, .u, .u, .u, .u, .u, .u, .u, .u, .u, .u, .u, .u, .u, .u, .u, .u, .u, .u, .u, .u, .u, .u, .u, .u, .u, .u],
    [.box [(.c (.i .i64 x20)), (.c (.i .i64 x21))], .box [(.c (.i .i64 x27)), (.c (.i .i64 x28))], .box [(.c (.i .i64 x29)), (.c (.i .i64 x30))]]⟩

def s40v2 (x31 : Bool) (x20 : Int) (x21 : Int) : St := ⟨[.u, .u, .u, .u, .u, .x (.c (.b x31)), .u, .u, .u, .u, .u, .u, .u, .u, .u, .u, .u, .u, .u, .u, .u, .u, .u, .u, .u, .u, .u, .u, .u, .u, .u, .u, .u, .u, .u, .u, .u, .u, .u, .u, .u, .u, .u, .u, .u, .u, .u, .u, .u, .u, .u, .u, .u, .u, .u, .u, .u, .u, .u, .u, .u, .u, .u, .u, .u, .u, .u, .u, .u, .u, .u, .u, .u, .u, .u, .u, .u, .u, .u, .u, .u, .u, .u, .u, .u, .u],
    [.box [(.c (.i .i64 x20)), (.c (.i .i64 x21))]]⟩

def L40v1 {ρ : Type} (fuel : Nat) (x16 : Nat) (x17 : Nat → Nat → CV) (x20 : Int) (x21 : Int) : Nat → Bool → Int → (Int → Int → Int → Int → Option ρ) → (Bool → Option ρ) → Option ρ
  | 0, _, _, _, _ => none
  | m + 1, x18, x19, k0, k1 =>
    (bif (decide (x19 < (Int.ofNat x16))) then (bif (inb x19 x16) then (bif ((Int.ofNat x16) == 0) then none else (bif (inb (Int.tmod (w64 (x19 + 1)) (Int.ofNat x16)) x16) then (ob (F70 fuel x20 x21 (CV.int (x17 (Int.toNat x19) 0)) (CV.int (x17 (Int.toNat x19) 1)) (CV.int (x17 (Int.toNat (Int.tmod (w64 (x19 + 1)) (Int.ofNat x16))) 0)) (CV.int (x17 (Int.toNat (Int.tmod (w64 (x19 + 1)) (Int.ofNat x16))) 1))) fun x22 => (bif x22 then (k0 (CV.int (x17 (Int.toNat x19) 0)) (CV.int (x17 (Int.toNat x19) 1)) (CV.int (x17 (Int.toNat (Int.tmod (w64 (x19 + 1)) (Int.ofNat x16))) 0)) (CV.int (x17 (Int.toNat (Int.tmod (w64 (x19 + 1)) (Int.ofNat x16))) 1))) else (bif ((decide ((CV.int (x17 (Int.toNat x19) 1)) ≤ x21)) == true) then (bif ((decide (x21 < (CV.int (x17 (Int.toNat (Int.tmod (w64 (x19 + 1)) (Int.ofNat x16))) 1)))) == true) then (ob (F71 fuel (CV.int (x17 (Int.toNat x19) 0)) (CV.int (x17 (Int.toNat x19) 1)) (CV.int (x17 (Int.toNat (Int.tmod (w64 (x19 + 1)) (Int.ofNat x16))) 0)) (CV.int (x17 (Int.toNat (Int.tmod (w64 (x19 + 1)) (Int.ofNat x16))) 1)) x20 x21) fun x23 => (bif ((decide ((CV.int (x17 (Int.toNat (Int.tmod (w64 (x19 + 1)) (Int.ofNat x16))) 1)) ≤ x21)) == true) then (bif ((decide (x21 < (CV.int (x17 (Int.toNat x19) 1)))) == true) then (ob (F71 fuel (CV.int (x17 (Int.toNat x19) 0)) (CV.int (x17 (Int.toNat x19) 1)) (CV.int (x17 (Int.toNat (Int.tmod (w64 (x19 + 1)) (Int.ofNat x16))) 0)) (CV.int (x17 (Int.toNat (Int.tmod (w64 (x19 + 1)) (Int.ofNat x16))) 1)) x20 x21) fun x24 => (bif ((decide (x23 > 0)) == false) then (bif (decide (x24 < 0)) then (L40v1 fuel x16 x17 x20 x21 m (!x18) (w64 (x19 + 1)) k0 k1) else (L40v1 fuel x16 x17 x20 x21 m x18 (w64 (x19 + 1)) k0 k1)) else (L40v1 fuel x16 x17 x20 x21 m (!x18) (w64 (x19 + 1)) k0 k1))) else (bif ((decide (x23 > 0)) == false) then (L40v1 fuel x16 x17 x20 x21 m x18 (w64 (x19 + 1)) k0 k1) else (L40v1 fuel x16 x17 x20 x21 m (!x18) (w64 (x19 + 1)) k0 k1))) else (bif ((decide (x23 > 0)) == false) then (L40v1 fuel x16 x17 x20 x21 m x18 (w64 (x19 + 1)) k0 k1) else (L40v1 fuel x16 x17 x20 x21 m (!x18) (w64 (x19 + 1)) k0 k1)))) else (bif ((decide ((CV.int (x17 (Int.toNat (Int.tmod (w64 (x19 + 1)) (Int.ofNat x16))) 1)) ≤ x21)) == true) then (bif ((decide (x21 < (CV.int (x17 (Int.toNat x19) 1)))) == true) then (ob (F71 fuel (CV.int (x17 (Int.toNat x19) 0)) (CV.int (x17 (Int.toNat x19) 1)) (CV.int (x17 (Int.toNat (Int.tmod (w64 (x19 + 1)) (Int.ofNat x16))) 0)) (CV.int (x17 (Int.toNat (Int.tmod (w64 (x19 + 1)) (Int.ofNat x16))) 1)) x20 x21) fun x25 => (bif (decide (x25 < 0)) then (L40v1 fuel x16 x17 x20 x21 m (!x18) (w64 (x19 + 1)) k0 k1) else (L40v1 fuel x16 x17 x20 x21 m x18 (w64 (x19 + 1)) k0 k1))) else (L40v1 fuel x16 x17 x20 x21 m x18 (w64 (x19 + 1)) k0 k1)) else (L40v1 fuel x16 x17 x20 x21 m x18 (w64 (x19 + 1)) k0 k1))) else (bif ((decide ((CV.int (x17 (Int.toNat (Int.tmod (w64 (x19 + 1)) (Int.ofNat x16))) 1)) ≤ x21)) == true) then (bif ((decide (x21 < (CV.int (x17 (Int.toNat x19) 1)))) == true) then (ob (F71 fuel (CV.int (x17 (Int.toNat x19) 0)) (CV.int (x17 (Int.toNat x19) 1)) (CV.int (x17 (Int.toNat (Int.tmod (w64 (x19 + 1)) (Int.ofNat x16))) 0)) (CV.int (x17 (Int.toNat (Int.tmod (w64 (x19 + 1)) (Int.ofNat x16))) 1)) x20 x21) fun x26 => (bif (decide (x26 < 0)) then (L40v1 fuel x16 x17 x20 x21 m (!x18) (w64 (x19 + 1)) k0 k1) else (L40v1 fuel x16 x17 x20 x21 m x18 (w64 (x19 + 1)) k0 k1))) else (L40v1 fuel x16 x17 x20 x21 m x18 (w64 (x19 + 1)) k0 k1)) else (L40v1 fuel x16 x17 x20 x21 m x18 (w64 (x19 + 1)) k0 k1))))) else none)) else none) else (k1 x18))

theorem nl40v1 {ρ σ : Type} (fuel : Nat) (x16 : Nat) (x17 : Nat → Nat → CV) (x20 : Int) (x21 : Int) (g : ρ → Option σ) : ∀ (m : Nat) (x18 : Bool) (x19 : Int) (k0 : Int → Int → Int → Int → Option ρ) (k1 : Bool → Option ρ), ob (L40v1 fuel x16 x17 x20 x21 m x18 x19 k0 k1) g = L40v1 fuel x16 x17 x20 x21 m x18 x19 (fun x27 x28 x29 x30 => ob (k0 x27 x28 x29 x30) g) (fun x31 => ob (k1 x31) g)
  | 0, _, _, _, _ => rfl
  | m + 1, x18, x19, k0, k1 => by
    simp only [L40v1, ob_bif, ob_ob, ob_none, nl40v1 fuel x16 x17 x20 x21 g m]

theorem r40v1 (fuel : Nat) (m : Nat) {ρ : Type} (k : Ex → St → Option ρ) (x16 : Nat) (x17 : Nat → Nat → CV) (x20 : Int) (x21 : Int) (x18 : Bool) (x19 : Int) :
    loopH (B40v1 (C40 fuel) fuel) N40v1 (m + 1) (s40v0 x16 x17 x18 x19 x20 x21) k =
    (bif (decide (x19 < (Int.ofNat x16))) then (bif (inb x19 x16) then (bif ((Int.ofNat x16) == 0) then none else (bif (inb (Int.tmod (w64 (x19 + 1)) (Int.ofNat x16)) x16) then (ob (F70 fuel x20 x21 (CV.int (x17 (Int.toNat x19) 0)) (CV.int (x17 (Int.toNat x19) 1)) (CV.int (x17 (Int.toNat (Int.tmod (w64 (x19 + 1)) (Int.ofNat x16))) 0)) (CV.int (x17 (Int.toNat (Int.tmod (w64 (x19 + 1)) (Int.ofNat x16))) 1))) fun x22 => (bif x22 then (k .ret (s40v1 x20 x21 (CV.int (x17 (Int.toNat x19) 0)) (CV.int (x17 (Int.toNat x19) 1)) (CV.int (x17 (Int.toNat (Int.tmod (w64 (x19 + 1)) (Int.ofNat x16))) 0)) (CV.int (x17 (Int.toNat (Int.tmod (w64 (x19 + 1)) (Int.ofNat x16))) 1)))) else (bif ((decide ((CV.int (x17 (Int.toNat x19) 1)) ≤ x21)) == true) then (bif ((decide (x21 < (CV.int (x17 (Int.toNat (Int.tmod (w64 (x19 + 1)) (Int.ofNat x16))) 1)))) == true) then (ob (F71 fuel (CV.int (x17 (Int.toNat x19) 0)) (CV.int (x17 (Int.toNat x19) 1)) (CV.int (x17 (Int.toNat (Int.tmod (w64 (x19 + 1)) (Int.ofNat x16))) 0)) (CV.int (x17 (Int.toNat (Int.tmod (w64 (x19 + 1)) (Int.ofNat x16))) 1)) x20 x21) fun x23 => (bif ((decide ((CV.int (x17 (Int.toNat (Int.tmod (w64 (x19 + 1)) (Int.ofNat x16))) 1)) ≤ x21)) == true) then (bif ((decide (x21 < (CV.int (x17 (Int.toNat x19) 1)))) == true) then (ob (F71 fuel (CV.int (x17 (Int.toNat x19) 0)) (CV.int (x17 (Int.toNat x19) 1)) (CV.int (x17 (Int.toNat (Int.tmod (w64 (x19 + 1)) (Int.ofNat x16))) 0)) (CV.int (x17 (Int.toNat (Int.tmod (w64 (x19 + 1)) (Int.ofNat x16))) 1)) x20 x21) fun x24 => (bif ((decide (x23 > 0)) == false) then (bif (decide (x24 < 0)) then (loopH (B40v1 (C40 fuel) fuel) N40v1 m (s40v0 x16 x17 (!x18) (w64 (x19 + 1)) x20 x21) k) else (loopH (B40v1 (C40 fuel) fuel) N40v1 m (s40v0 x16 x17 x18 (w64 (x19 + 1)) x20 x21) k)) else (loopH (B40v1 (C40 fuel) fuel) N40v1 m (s40v0 x16 x17 (!x18) (w64 (x19 + 1)) x20 x21) k))) else (bif ((decide (x23 > 0)) == false) then (loopH (B40v1 (C40 fuel) fuel) N40v1 m (s40v0 x16 x17 x18 (w64 (x19 + 1)) x20 x21) k) else (loopH (B40v1 (C40 fuel) fuel) N40v1 m (s40v0 x16 x17 (!x18) (w64 (x19 + 1)) x20 x21) k))) else (bif ((decide (x23 > 0)) == false) then (loopH (B40v1 (C40 fuel) fuel) N40v1 m (s40v0 x16 x17 x18 (w64 (x19 + 1)) x20 x21) k) else (loopH (B40v1 (C40 fuel) fuel) N40v1 m (s40v0 x16 x17 (!x18) (w64 (x19 + 1)) x20 x21) k)))) else (bif ((decide ((CV.int (x17 (Int.toNat (Int.tmod (w64 (x19 + 1)) (Int.ofNat x16))) 1)) ≤ x21)) == true) then (bif ((decide (x21 < (CV.int (x17 (Int.toNat x19) 1)))) == true) then (ob (F71 fuel (CV.int (x17 (Int.toNat x19) 0)) (CV.int (x17 (Int.toNat x19) 1)) (CV.int (x17 (Int.toNat (Int.tmod (w64 (x19 + 1)) (Int.ofNat x16))) 0)) (CV.int (x17 (Int.toNat (Int.tmod (w64 (x19 + 1)) (Int.ofNat x16))) 1)) x20 x21) fun x25 => (bif (decide (x25 < 0)) then (loopH (B40v1 (C40 fuel) fuel) N40v1 m (s40v0 x16 x17 (!x18) (w64 (x19 + 1)) x20 x21) k) else (loopH (B40v1 (C40 fuel) fuel) N40v1 m (s40v0 x16 x17 x18 (w64 (x19 + 1)) x20 x21) k))) else (loopH (B40v1 (C40 fuel) fuel) N40v1 m (s40v0 x16 x17 x18 (w64 (x19 + 1)) x20 x21) k)) else (loopH (B40v1 (C40 fuel) fuel) N40v1 m (s40v0 x16 x17 x18 (w64 (x19 + 1)) x20 x21) k))) else (bif ((decide ((CV.int (x17 (Int.toNat (Int.tmod (w64 (x19 + 1)) (Int.ofNat x16))) 1)) ≤ x21)) == true) then (bif ((decide (x21 < (CV.int (x17 (Int.toNat x19) 1)))) == true) then (ob (F71 fuel (CV.int (x17 (Int.toNat x19) 0)) (CV.int (x17 (Int.toNat x19) 1)) (CV.int (x17 (Int.toNat (Int.tmod (w64 (x19 + 1)) (Int.ofNat x16))) 0)) (CV.int (x17 (Int.toNat (Int.tmod (w64 (x19 + 1)) (Int.ofNat x16))) 1)) x20 x21) fun x26 => (bif (decide (x26 < 0)) then (loopH (B40v1 (C40 fuel) fuel) N40v1 m (s40v0 x16 x17 (!x18) (w64 (x19 + 1)) x20 x21) k) else (loopH (B40v1 (C40 fuel) fuel) N40v1 m (s40v0 x16 x17 x18 (w64 (x19 + 1)) x20 x21) k))) else (loopH (B40v1 (C40 fuel) fuel) N40v1 m (s40v0 x16 x17 x18 (w64 (x19 + 1)) x20 x21) k)) else (loopH (B40v1 (C40 fuel) fuel) N40v1 m (s40v0 x16 x17 x18 (w64 (x19 + 1)) x20 x21) k))))) else none)) else none) else (k (.exit 0) (s40v2 x18 x20 x21))) := by kernel_rfl

theorem q40v1 (fuel : Nat) (x16 : Nat) (x17 : Nat → Nat → CV) (x20 : Int) (x21 : Int) {ρ : Type} (k : Ex → St → Option ρ) : ∀ (m : Nat) (x18 : Bool) (x19 : Int),
    loopH (B40v1 (C40 fuel) fuel) N40v1 m (s40v0 x16 x17 x18 x19 x20 x21) k = L40v1 fuel x16 x17 x20 x21 m x18 x19 (fun x27 x28 x29 x30 => k .ret (s40v1 x20 x21 x27 x28 x29 x30)) (fun x31 => k (.exit 0) (s40v2 x31 x20 x21))
  | 0, _, _ => rfl
  | m + 1, x18, x19 => by
    rw [r40v1]
    simp only [L40v1, q40v1 fuel x16 x17 x20 x21 k m]

def D40 {ρ : Type} (fuel : Nat) (x1 : Nat) (x2 : Nat → Nat → CV) (x3 : Int) (x4 : Int) (k : Int → Option ρ) : Option ρ :=
  (ob (F37 fuel x1 x2) fun x5 => (bif ((x5 != 0) == false) then (ob (F69 fuel x3 x4) fun x6 => (bif (!x6) then (k (-1)) else (L40v1 fuel x1 x2 x3 x4 fuel false 0
    (fun x32 x33 x34 x35 => (k 0))
    (fun x36 => (bif x36 then (k 1) else (k (-1))))))) else (k (-1))))

def F40 (fuel : Nat) (x1 : Nat) (x2 : Nat → Nat → CV) (x3 : Int) (x4 : Int) : Option (Int) := D40 fuel x1 x2 x3 x4 some

theorem n40 {ρ σ : Type} (fuel : Nat) (x1 : Nat) (x2 : Nat → Nat → CV) (x3 : Int) (x4 : Int) (k : (Int) → Option ρ) (g : ρ → Option σ) : ob (D40 fuel x1 x2 x3 x4 k) g = D40 fuel x1 x2 x3 x4 fun t => ob (k t) g := by
  simp only [D40, ob_bif, ob_ob, ob_none, nl40v1]

theorem f40 {ρ : Type} (fuel : Nat) (x1 : Nat) (x2 : Nat → Nat → CV) (x3 : Int) (x4 : Int) (k : (Int) → Option ρ) : D40 fuel x1 x2 x3 x4 k = ob (F40 fuel x1 x2 x3 x4) k := by
  unfold F40
  rw [n40]
  simp only [ob_some]

def s40v3 (x1 : Nat) (x2 : Nat → Nat → CV) (x3 : Int) (x4 : Int) : St := ⟨[.x (.c (.ro false (.pr (.int .i64) (.pr (.int .i64) .nil)) x1 x2)), .agg [(.c (.i .i64 x3)), (.c (.i .i64 x4))], .undef, .x (.ptr 0 0), .u, .x (.c (.b false)), .x (.c (.i .i64 0)), .undef, .undef, .undef, .undef, .u, .u, .u, .u, .u, .u, .u, .u, .undef, .undef, .undef, .undef, .undef, .undef, .undef, .undef, .undef, .undef, .undef, .undef, .undef, .undef, .undef, .undef, .undef, .undef, .undef, .undef, .undef, .undef, .undef, .undef, .undef, .undef, .undef, .undef, .undef, .undef, .undef, .undef, .undef, .undef, .undef, .undef, .undef, .undef, .undef, .undef, .undef, .undef, .undef, .undef, .undef, .undef, .undef, .undef, .undef, .undef, .undef, .undef, .undef, .undef, .undef, .undef, .undef, .undef, .undef, .undef, .undef, .undef, .undef, .undef, .undef, .undef, .undef],
    [.box [(.c (.i .i64 x3)), (.c (.i .i64 x4))]]⟩

theorem walk40 (fuel : Nat) (x1 : Nat) (x2 : Nat → Nat → CV) (x3 : Int) (x4 : Int) :
    evalF (C40 fuel) fuel A40 [.v (.ro false (.pr (.int .i64) (.pr (.int .i64) .nil)) x1 x2), .agg [(.i .i64 x3), (.i .i64 x4)]] =
    (ob (F37 fuel x1 x2) fun x5 => (bif ((x5 != 0) == false) then (ob (F69 fuel x3 x4) fun x6 => (bif (!x6) then (some [.v (.i .i64 (-1))]) else (loopN (B40v1 (C40 fuel) fuel) N40v1 fuel (s40v3 x1 x2 x3 x4) (kBlk 0 (kSeq (C40 fuel) fuel [4, 6, 7, 8, 9, 10, 19, 20, 21, 22, 23, 24, 25, 26, 27, 28, 29, 30, 31, 32, 33, 34, 35, 36, 37, 38, 39, 40, 41, 42, 43, 44, 45, 46, 47, 48, 49, 50, 51, 52, 53, 54, 55, 56, 57, 58, 59, 60, 61, 62, 63, 64, 65, 66, 67, 68, 69, 70, 71, 72, 73, 74, 75, 76, 77, 78, 79, 80, 81, 82, 83, 84] A40v6 (finish A40)))))) else (some [.v (.i .i64 (-1))]))) := by kernel_rfl

theorem t40v1 (fuel : Nat) {ρ : Type} (k : Ex → St → Option ρ) (x1 : Nat) (x2 : Nat → Nat → CV) (x3 : Int) (x4 : Int) :
    loopN (B40v1 (C40 fuel) fuel) N40v1 fuel (s40v3 x1 x2 x3 x4) k =
    L40v1 fuel x1 x2 x3 x4 fuel false 0 (fun x27 x28 x29 x30 => k .ret (s40v1 x3 x4 x27 x28 x29 x30)) (fun x31 => k (.exit 0) (s40v2 x31 x3 x4)) :=
  (loopN_at (st' := (s40v0 x1 x2 false 0 x3 x4)) (by kernel_rfl)).trans (q40v1 fuel x1 x2 x3 x4 k fuel false 0)

theorem g40v2 (fuel : Nat) (x3 : Int) (x4 : Int) (x32 : Int) (x33 : Int) (x34 : Int) (x35 : Int) :
    (kBlk 0 (kSeq (C40 fuel) fuel [4, 6, 7, 8, 9, 10, 19, 20, 21, 22, 23, 24, 25, 26, 27, 28, 29, 30, 31, 32, 33, 34, 35, 36, 37, 38, 39, 40, 41, 42, 43, 44, 45, 46, 47, 48, 49, 50, 51, 52, 53, 54, 55, 56, 57, 58, 59, 60, 61, 62, 63, 64, 65, 66, 67, 68, 69, 70, 71, 72, 73, 74, 75, 76, 77, 78, 79, 80, 81, 82, 83, 84] A40v6 (finish A40))) .ret (s40v1 x3 x4 x32 x33 x34 x35) =
    (some [.v (.i .i64 0)]) := by kernel_rfl

theorem g40v3 (fuel : Nat) (x36 : Bool) (x3 : Int) (x4 : Int) :
    (kBlk 0 (kSeq (C40 fuel) fuel [4, 6, 7, 8, 9, 10, 19, 20, 21, 22, 23, 24, 25, 26, 27, 28, 29, 30, 31, 32, 33, 34, 35, 36, 37, 38, 39, 40, 41, 42, 43, 44, 45, 46, 47, 48, 49, 50, 51, 52, 53, 54, 55, 56, 57, 58, 59, 60, 61, 62, 63, 64, 65, 66, 67, 68, 69, 70, 71, 72, 73, 74, 75, 76, 77, 78, 79, 80, 81, 82, 83, 84] A40v6 (finish A40))) (.exit 0) (s40v2 x36 x3 x4) =
    (bif x36 then (some [.v (.i .i64 1)]) else (some [.v (.i .i64 (-1))])) := by kernel_rfl

theorem e40 (fuel : Nat) (x1 : Nat) (x2 : Nat → Nat → CV) (x3 : Int) (x4 : Int) : evalF (C40 fuel) fuel A40 [.v (.ro false (.pr (.int .i64) (.pr (.int .i64) .nil)) x1 x2), .agg [(.i .i64 x3), (.i .i64 x4)]] = ob (F40 fuel x1 x2 x3 x4) fun t => some [.v (.i .i64 t)] := by
  rw [walk40, ← f40]
  simp only [D40, t40v1, g40v2, g40v3]

def O40 (fuel : Nat) : Ora where
  o := fun args {ρ} K =>
    wc args fun a1 l2 =>
    wv a1 fun c3 =>
    wL (.pr (.int .i64) (.pr (.int .i64) .nil)) c3 fun y4 y5 =>
    wc l2 fun a7 l8 =>
    wagg a7 fun l9 =>
    wc l9 fun c10 l11 =>
    wI .i64 c10 fun y12 =>
    wc l11 fun c14 l15 =>
    wI .i64 c14 fun y16 =>
    wn l15 <|
    wn l8 <|
    (ob (F40 fuel y4 y5 y12 y16) fun t => K [.v (.i .i64 t)])
  nat := fun args {ρ} K => by
    simp only [bind_wc, bind_wn, bind_wv, bind_wagg, bind_wI, bind_wB, bind_wS, bind_wL, bind_wP, bind_wFn, bind_ob, Option.bind_some]

theorem d40 {P : Program} (fuel : Nat) (hmix : P.follows .mixedOrders = true) (hC : Sound P (C40 fuel)) (hF : FFits P 40 A40) (args res : List A) (h : (O40 fuel).o args some = some res) : Den P 40 args res := by
  obtain ⟨a1, l2, rfl, z0⟩ := inv_wc h
  obtain ⟨c3, rfl, z1⟩ := inv_wv z0
  obtain ⟨y4, y5, h6, z2⟩ := inv_wL z1
  obtain ⟨a7, l8, rfl, z3⟩ := inv_wc z2
  obtain ⟨l9, rfl, z4⟩ := inv_wagg z3
  obtain ⟨c10, l11, rfl, z5⟩ := inv_wc z4
  obtain ⟨y12, h13, z6⟩ := inv_wI z5
  obtain ⟨c14, l15, rfl, z7⟩ := inv_wc z6
  obtain ⟨y16, h17, z8⟩ := inv_wI z7
  obtain ⟨hn, z9⟩ := inv_wn z8
  cases hn
  obtain ⟨hn, z10⟩ := inv_wn z9
  cases hn
  exact Den.weaken (.cons (WkA.v h6) (.cons (WkA.agg (.cons (Wk.i h13) (.cons (Wk.i h17) .nil))) .nil)) (evalF_sound hmix hC hF ((e40 fuel y4 y5 y12 y16).trans z10))

def C41 (fuel : Nat) : Oracle := (C40 fuel).add 40 (fun _ => true) (O40 fuel)

end Go.Eng.R13
