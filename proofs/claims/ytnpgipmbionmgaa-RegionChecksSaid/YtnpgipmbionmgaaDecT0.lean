/-
  The functions of the program, run on symbols; printed by decomp.py.
-/
import Derived.Test.YtnpgipmbionmgaaEngS
set_option linter.all false
set_option maxRecDepth 1000000
set_option maxHeartbeats 4000000
namespace Go.Eng.R13
open Go Go.RowKit Go.Eng
def C0 (fuel : Nat) : Oracle := ⟨fun _ _ {_} _ => none, fun _ _ {_} _ => rfl, fun f r n g rest => bif ((Nat.beq f 52 && r.beq (.pr (.int .i64) (.pr (.int .i64) .nil)))) && rest.isEmpty then some (revF n g) else none⟩
def CE (fuel : Nat) : Oracle := ⟨fun _ _ {_} _ => none, fun _ _ {_} _ => rfl, fun _ _ _ _ _ => none⟩
theorem soundE {P : Program} (fuel : Nat) : Sound P (CE fuel) := ⟨fun _ _ _ h => (by cases h), fun _ _ _ _ _ _ h => (by cases h)⟩
/-- slices.Reverse[[]shipyard/api.Point,shipyard/api.Point] -/
def A52v1 : AC := (.seq (.block 1
  (.region 3 [
    ⟨(some 14), .move (.tmp 0), none⟩,
    ⟨(some 15), .move (.tmp 2), none⟩,
    ⟨(some 16), .move (.tmp 0), none⟩,
    ⟨(some 17), .move (.tmp 3), none⟩,
    ⟨(some 18), .move (.tmp 0), none⟩,
    ⟨(some 19), .move (.tmp 3), none⟩,
    ⟨(some 20), .indexAddr 22 34 2 (.tmp 18) (.tmp 19), none⟩,
    ⟨(some 21), .load 34 (some 2) (.tmp 20), none⟩,
    ⟨(some 22), .move (.tmp 0), none⟩,
    ⟨(some 23), .move (.tmp 2), none⟩,
    ⟨(some 24), .indexAddr 22 34 2 (.tmp 22) (.tmp 23), none⟩,
    ⟨(some 25), .load 34 (some 2) (.tmp 24), none⟩,
    ⟨(some 26), .indexAddr 22 34 2 (.tmp 14) (.tmp 15), none⟩,
    ⟨none, .store 34 2 (.tmp 26) (.tmp 21), none⟩,
    ⟨(some 27), .indexAddr 22 34 2 (.tmp 16) (.tmp 17), none⟩,
    ⟨none, .store 34 2 (.tmp 27) (.tmp 25), none⟩] 0 (some [[], [], [], [], [], [], [4, 5], [4, 5, 6], [], [], [8, 9], [8, 9, 10], [0, 1, 4, 5, 6, 7, 8, 9, 10, 11], [0, 1, 4, 5, 6, 7, 8, 9, 10, 11, 12], [0, 1, 2, 3, 4, 5, 6, 7, 8, 9, 10, 11, 12, 13], [0, 1, 2, 3, 4, 5, 6, 7, 8, 9, 10, 11, 12, 13, 14]]))) []
  (.region 2 [
  ⟨(some 10), .move (.tmp 2), none⟩,
  ⟨(some 11), .binOp .add 3 (.tmp 10) (.const (.int .i64 1)) 3, none⟩,
  ⟨(some 12), .move (.tmp 3), none⟩,
  ⟨(some 13), .binOp .sub 3 (.tmp 12) (.const (.int .i64 1)) 3, none⟩,
  ⟨(some 2), .assign (.tmp 11), none⟩,
  ⟨(some 3), .assign (.tmp 13), none⟩] 0 none))
def A52v2 : AC := (.seq (.seq (.region 1 [
  ⟨(some 7), .move (.tmp 2), none⟩,
  ⟨(some 8), .move (.tmp 3), none⟩,
  ⟨(some 9), .binOp .lss 3 (.tmp 7) (.tmp 8) 3, none⟩] 0 none) []
  (.cond (.tmp 9)
  .skip
  (.exit 0 [0, 1, 2, 3, 4, 5, 6, 7, 8, 9, 10, 11, 12, 13, 14, 15, 16, 17, 18, 19, 20, 21, 22, 23, 24, 25, 26, 27]))) [7, 8, 9]
  A52v1)
def A52 : AF := ⟨28, [],
  (.seq (.region 0 [
  ⟨(some 4), .move (.tmp 0), none⟩,
  ⟨(some 5), .len 22 false (.tmp 4), none⟩,
  ⟨(some 6), .binOp .sub 3 (.tmp 5) (.const (.int .i64 1)) 3, none⟩,
  ⟨(some 2), .assign (.const (.int .i64 0)), none⟩,
  ⟨(some 3), .assign (.tmp 6), none⟩] 0 none) []
  (.block 0
  (.loop [] [1, 4, 5, 6, 7, 8, 9, 10, 11, 12, 13, 14, 15, 16, 17, 18, 19, 20, 21, 22, 23, 24, 25, 26, 27]
    A52v2)))⟩

def B52v1 (C : Oracle) (fuel : Nat) {ρ : Type} : St → (Ex → St → Option ρ) → Option ρ := fun st k => evalC C fuel A52v2 st k
def N52v1 : St → Option St := fun s => s.norm [1, 4, 5, 6, 7, 8, 9, 10, 11, 12, 13, 14, 15, 16, 17, 18, 19, 20, 21, 22, 23, 24, 25, 26, 27] 1

def s52v0 (x6 : Nat) (x7 : Int) (x8 : Int) (x9 : Nat → Nat → CV) : St := ⟨[.x (.own 0 0 x6), .u, .x (.c (.i .i64 x7)), .x (.c (.i .i64 x8)), .u, .u, .u, .u, .u, .u, .u, .u, .u, .u, .u, .u, .u, .u, .u, .u, .u, .u, .u, .u, .u, .u, .u, .u],
    [.arr (.pr (.int .i64) (.pr (.int .i64) .bool)) x6 x9]⟩

def s52v1 (x6 : Nat) (x10 : Nat → Nat → CV) : St := ⟨[.u, .u, .u, .u, .u, .u, .u, .u, .u, .u, .u, .u, .u, .u, .u, .u, .u, .u, .u, .u, .u, .u, .u, .u, .u, .u, .u, .u],
    [.arr (.pr (.int .i64) (.pr (.int .i64) .bool)) x6 x10]⟩

def L52v1 {ρ : Type} (fuel : Nat) (x6 : Nat) : Nat → Int → Int → (Nat → Nat → CV) → ((Nat → Nat → CV) → Option ρ) → Option ρ
  | 0, _, _, _, _ => none
  | m + 1, x7, x8, x9, k0 =>
    (bif (decide (x7 < x8)) then (bif (inb x8 x6) then (bif (inb x7 x6) then (bif (inb x7 x6) then (bif (inb x8 x6) then (L52v1 fuel x6 m (w64 (x7 + 1)) (w64 (x8 - 1)) (setF (setF x9 (0 + (Int.toNat x7)) 0 2 (listF [(.i .i64 (CV.int (x9 (0 + (Int.toNat x8)) 0))), (.i .i64 (CV.int (x9 (0 + (Int.toNat x8)) 1)))])) (0 + (Int.toNat x8)) 0 2 (listF [(.i .i64 (CV.int (x9 (0 + (Int.toNat x7)) 0))), (.i .i64 (CV.int (x9 (0 + (Int.toNat x7)) 1)))])) k0) else none) else none) else none) else none) else (k0 x9))

theorem nl52v1 {ρ σ : Type} (fuel : Nat) (x6 : Nat) (g : ρ → Option σ) : ∀ (m : Nat) (x7 : Int) (x8 : Int) (x9 : Nat → Nat → CV) (k0 : (Nat → Nat → CV) → Option ρ), ob (L52v1 fuel x6 m x7 x8 x9 k0) g = L52v1 fuel x6 m x7 x8 x9 (fun x10 => ob (k0 x10) g)
  | 0, _, _, _, _ => rfl
  | m + 1, x7, x8, x9, k0 => by
    simp only [L52v1, ob_bif, ob_ob, ob_none, nl52v1 fuel x6 g m]

theorem r52v1 (fuel : Nat) (m : Nat) {ρ : Type} (k : Ex → St → Option ρ) (x6 : Nat) (x7 : Int) (x8 : Int) (x9 : Nat → Nat → CV) :
    loopH (B52v1 (CE fuel) fuel) N52v1 (m + 1) (s52v0 x6 x7 x8 x9) k =
    (bif (decide (x7 < x8)) then (bif (inb x8 x6) then (bif (inb x7 x6) then (bif (inb x7 x6) then (bif (inb x8 x6) then (loopH (B52v1 (CE fuel) fuel) N52v1 m (s52v0 x6 (w64 (x7 + 1)) (w64 (x8 - 1)) (setF (setF x9 (0 + (Int.toNat x7)) 0 2 (listF [(.i .i64 (CV.int (x9 (0 + (Int.toNat x8)) 0))), (.i .i64 (CV.int (x9 (0 + (Int.toNat x8)) 1)))])) (0 + (Int.toNat x8)) 0 2 (listF [(.i .i64 (CV.int (x9 (0 + (Int.toNat x7)) 0))), (.i .i64 (CV.int (x9 (0 + (Int.toNat x7)) 1)))]))) k) else none) else none) else none) else none) else (k (.exit 0) (s52v1 x6 x9))) := by kernel_rfl

theorem q52v1 (fuel : Nat) (x6 : Nat) {ρ : Type} (k : Ex → St → Option ρ) : ∀ (m : Nat) (x7 : Int) (x8 : Int) (x9 : Nat → Nat → CV),
    loopH (B52v1 (CE fuel) fuel) N52v1 m (s52v0 x6 x7 x8 x9) k = L52v1 fuel x6 m x7 x8 x9 (fun x10 => k (.exit 0) (s52v1 x6 x10))
  | 0, _, _, _ => rfl
  | m + 1, x7, x8, x9 => by
    rw [r52v1]
    simp only [L52v1, q52v1 fuel x6 k m]

def D52 {ρ : Type} (fuel : Nat) (x1 : Nat) (x2 : Nat → Nat → CV) (k : (Nat × (Nat → Nat → CV)) → Option ρ) : Option ρ :=
  (L52v1 fuel x1 fuel 0 (w64 ((Int.ofNat x1) - 1)) x2
    (fun x11 => (k (x1, x11))))

def F52 (fuel : Nat) (x1 : Nat) (x2 : Nat → Nat → CV) : Option (Nat × (Nat → Nat → CV)) := D52 fuel x1 x2 some

theorem n52 {ρ σ : Type} (fuel : Nat) (x1 : Nat) (x2 : Nat → Nat → CV) (k : (Nat × (Nat → Nat → CV)) → Option ρ) (g : ρ → Option σ) : ob (D52 fuel x1 x2 k) g = D52 fuel x1 x2 fun t => ob (k t) g := by
  simp only [D52, ob_bif, ob_ob, ob_none, nl52v1]

theorem f52 {ρ : Type} (fuel : Nat) (x1 : Nat) (x2 : Nat → Nat → CV) (k : (Nat × (Nat → Nat → CV)) → Option ρ) : D52 fuel x1 x2 k = ob (F52 fuel x1 x2) k := by
  unfold F52
  rw [n52]
  simp only [ob_some]

def s52v2 (x1 : Nat) (x2 : Nat → Nat → CV) : St := ⟨[.x (.own 0 0 x1), .undef, .x (.c (.i .i64 0)), .x (.c (.i .i64 (w64 ((Int.ofNat x1) - 1)))), .x (.own 0 0 x1), .x (.c (.i .i64 (Int.ofNat x1))), .x (.c (.i .i64 (w64 ((Int.ofNat x1) - 1)))), .undef, .undef, .undef, .undef, .undef, .undef, .undef, .undef, .undef, .undef, .undef, .undef, .undef, .undef, .undef, .undef, .undef, .undef, .undef, .undef, .undef],
    [.arr (.pr (.int .i64) (.pr (.int .i64) .bool)) x1 x2]⟩

theorem walk52 (fuel : Nat) (x1 : Nat) (x2 : Nat → Nat → CV) :
    evalT (CE fuel) fuel A52 (.pr (.int .i64) (.pr (.int .i64) .nil)) x1 x2 [] =
    (loopN (B52v1 (CE fuel) fuel) N52v1 fuel (s52v2 x1 x2) (kBlk 0 (finishT (Kd.mark (.pr (.int .i64) (.pr (.int .i64) .nil)))))) := by kernel_rfl

theorem t52v1 (fuel : Nat) {ρ : Type} (k : Ex → St → Option ρ) (x1 : Nat) (x2 : Nat → Nat → CV) :
    loopN (B52v1 (CE fuel) fuel) N52v1 fuel (s52v2 x1 x2) k =
    L52v1 fuel x1 fuel 0 (w64 ((Int.ofNat x1) - 1)) x2 (fun x10 => k (.exit 0) (s52v1 x1 x10)) :=
  (loopN_at (st' := (s52v0 x1 0 (w64 ((Int.ofNat x1) - 1)) x2)) (by kernel_rfl)).trans (q52v1 fuel x1 k fuel 0 (w64 ((Int.ofNat x1) - 1)) x2)

theorem g52v2 (x1 : Nat) (x11 : Nat → Nat → CV) :
    (kBlk 0 (finishT (Kd.mark (.pr (.int .i64) (.pr (.int .i64) .nil))))) (.exit 0) (s52v1 x1 x11) =
    (some (x1, x11)) := by kernel_rfl

theorem e52 (fuel : Nat) (x1 : Nat) (x2 : Nat → Nat → CV) : evalT (CE fuel) fuel A52 (.pr (.int .i64) (.pr (.int .i64) .nil)) x1 x2 [] = F52 fuel x1 x2 := by
  rw [walk52]
  simp only [F52, D52, t52v1, g52v2]

/-- shipyard/shipyardlaw13.great -/
def A12v1 : AC := (.region 5 [
  ⟨(some 19), .move (.tmp 3), none⟩,
  ⟨(some 20), .binOp .add 3 (.tmp 19) (.const (.int .i64 1)) 3, none⟩,
  ⟨(some 3), .assign (.tmp 20), none⟩] 0 none)
def A12v2 : AC := (.seq (.block 1
  (.seq (.region 6 [
    ⟨(some 21), .fieldAddr 25 (.tmp 1) 1 1, none⟩,
    ⟨(some 22), .load 23 none (.tmp 21), none⟩,
    ⟨(some 23), .move (.tmp 3), none⟩,
    ⟨(some 24), .indexAddr 23 22 1 (.tmp 22) (.tmp 23), none⟩,
    ⟨(some 25), .load 22 none (.tmp 24), none⟩,
    ⟨(some 26), .len 22 false (.tmp 25), none⟩,
    ⟨(some 27), .binOp .gtr 3 (.tmp 26) (.const (.int .i64 40)) 3, none⟩] 0 none) []
    (.cond (.tmp 27)
    (.seq (.region 7 [
      ⟨(some 2), .assign (.const (.bool true)), none⟩] 0 none) []
      (.ret [0, 1, 3, 4, 5, 6, 7, 8, 9, 10, 11, 12, 13, 14, 15, 16, 17, 18, 19, 20, 21, 22, 23, 24, 25, 26, 27]))
    .skip))) [2, 21, 22, 23, 24, 25, 26, 27]
  A12v1)
def A12v3 : AC := (.seq (.seq (.region 4 [
  ⟨(some 14), .move (.tmp 3), none⟩,
  ⟨(some 15), .fieldAddr 25 (.tmp 1) 1 1, none⟩,
  ⟨(some 16), .load 23 none (.tmp 15), none⟩,
  ⟨(some 17), .len 23 false (.tmp 16), none⟩,
  ⟨(some 18), .binOp .lss 3 (.tmp 14) (.tmp 17) 3, none⟩] 0 none) []
  (.cond (.tmp 18)
  .skip
  (.exit 0 [0, 1, 2, 3, 4, 5, 6, 7, 8, 9, 10, 11, 12, 13, 14, 15, 16, 17, 18, 19, 20, 21, 22, 23, 24, 25, 26, 27]))) [14, 15, 16, 17, 18]
  A12v2)
def A12v4 : AC := (.seq (.region 8 [
  ⟨(some 2), .assign (.const (.bool false)), none⟩] 0 none) []
  (.ret [0, 1, 3, 4, 5, 6, 7, 8, 9, 10, 11, 12, 13, 14, 15, 16, 17, 18, 19, 20, 21, 22, 23, 24, 25, 26, 27]))
def A12v5 : AC := (.seq (.seq (.region 3 [
  ⟨(some 3), .assign (.const (.int .i64 0)), none⟩] 0 none) []
  (.block 0
  (.loop [] [0, 2, 4, 5, 6, 7, 8, 9, 10, 11, 12, 13, 14, 15, 16, 17, 18, 19, 20, 21, 22, 23, 24, 25, 26, 27]
    A12v3))) [2, 3, 14, 15, 16, 17, 18, 19, 20, 21, 22, 23, 24, 25, 26, 27]
  A12v4)
def A12 : AF := ⟨28, [.tmp 2],
  (.seq (.region 0 [
  ⟨(some 1), .box 0 25 (.tmp 0), none⟩,
  ⟨(some 2), .assign (.const (.bool false)), none⟩] 1 none) []
  (.seq (.seq (.region 1 [
  ⟨(some 4), .fieldAddr 25 (.tmp 1) 1 1, none⟩,
  ⟨(some 5), .load 23 none (.tmp 4), none⟩,
  ⟨(some 6), .len 23 false (.tmp 5), none⟩,
  ⟨(some 7), .binOp .gtr 3 (.tmp 6) (.const (.int .i64 12)) 3, none⟩,
  ⟨(some 8), .move (.tmp 7), none⟩,
  ⟨(some 9), .fieldAddr 25 (.tmp 1) 0 0, (some (8, false))⟩,
  ⟨(some 10), .load 22 none (.tmp 9), (some (8, false))⟩,
  ⟨(some 11), .len 22 false (.tmp 10), (some (8, false))⟩,
  ⟨(some 12), .binOp .gtr 3 (.tmp 11) (.const (.int .i64 40)) 3, (some (8, false))⟩,
  ⟨(some 13), .pick (.tmp 8) (.const (.bool true)) (.tmp 12), none⟩] 0 none) []
  (.cond (.tmp 13)
  (.seq (.region 2 [
    ⟨(some 2), .assign (.const (.bool true)), none⟩] 0 none) []
    (.ret [0, 1, 3, 4, 5, 6, 7, 8, 9, 10, 11, 12, 13, 14, 15, 16, 17, 18, 19, 20, 21, 22, 23, 24, 25, 26, 27]))
  .skip)) [2, 4, 5, 6, 7, 8, 9, 10, 11, 12, 13]
  A12v5))⟩

def B12v1 (C : Oracle) (fuel : Nat) {ρ : Type} : St → (Ex → St → Option ρ) → Option ρ := fun st k => evalC C fuel A12v3 st k
def N12v1 : St → Option St := fun s => s.norm [0, 2, 4, 5, 6, 7, 8, 9, 10, 11, 12, 13, 14, 15, 16, 17, 18, 19, 20, 21, 22, 23, 24, 25, 26, 27] 1

def s12v0 (x9 : Int) (x10 : Nat) (x11 : Nat → Nat → CV) (x12 : Nat) (x13 : Nat → Nat → CV) : St := ⟨[.u, .x (.ptr 0 0), .u, .x (.c (.i .i64 x9)), .u, .u, .u, .u, .u, .u, .u, .u, .u, .u, .u, .u, .u, .u, .u, .u, .u, .u, .u, .u, .u, .u, .u, .u],
    [.box [(.c (.ro false (.pr (.int .i64) (.pr (.int .i64) .nil)) x10 x11)), (.c (.ro false (.pr (.sl (.pr (.int .i64) (.pr (.int .i64) .nil))) .nil) x12 x13))]]⟩

def s12v1 (x10 : Nat) (x11 : Nat → Nat → CV) (x12 : Nat) (x13 : Nat → Nat → CV) : St := ⟨[.u, .u, .x (.c (.b true)), .u, .u, .u, .u, .u, .u, .u, .u, .u, .u, .u, .u, .u, .u, .u, .u, .u, .u, .u, .u, .u, .u, .u, .u, .u],
    [.box [(.c (.ro false (.pr (.int .i64) (.pr (.int .i64) .nil)) x10 x11)), (.c (.ro false (.pr (.sl (.pr (.int .i64) (.pr (.int .i64) .nil))) .nil) x12 x13))]]⟩

def s12v2 (x10 : Nat) (x11 : Nat → Nat → CV) (x12 : Nat) (x13 : Nat → Nat → CV) : St := ⟨[.u, .u, .u, .u, .u, .u, .u, .u, .u, .u, .u, .u, .u, .u, .u, .u, .u, .u, .u, .u, .u, .u, .u, .u, .u, .u, .u, .u],
    [.box [(.c (.ro false (.pr (.int .i64) (.pr (.int .i64) .nil)) x10 x11)), (.c (.ro false (.pr (.sl (.pr (.int .i64) (.pr (.int .i64) .nil))) .nil) x12 x13))]]⟩

def L12v1 {ρ : Type} (fuel : Nat) (x10 : Nat) (x11 : Nat → Nat → CV) (x12 : Nat) (x13 : Nat → Nat → CV) : Nat → Int → (Option ρ) → (Option ρ) → Option ρ
  | 0, _, _, _ => none
  | m + 1, x9, k0, k1 =>
    (bif (decide (x9 < (Int.ofNat x12))) then (bif (inb x9 x12) then (bif (decide ((Int.ofNat (CV.len (x13 (Int.toNat x9) 0))) > 40)) then k0 else (L12v1 fuel x10 x11 x12 x13 m (w64 (x9 + 1)) k0 k1)) else none) else k1)

theorem nl12v1 {ρ σ : Type} (fuel : Nat) (x10 : Nat) (x11 : Nat → Nat → CV) (x12 : Nat) (x13 : Nat → Nat → CV) (g : ρ → Option σ) : ∀ (m : Nat) (x9 : Int) (k0 : Option ρ) (k1 : Option ρ), ob (L12v1 fuel x10 x11 x12 x13 m x9 k0 k1) g = L12v1 fuel x10 x11 x12 x13 m x9 (ob k0 g) (ob k1 g)
  | 0, _, _, _ => rfl
  | m + 1, x9, k0, k1 => by
    simp only [L12v1, ob_bif, ob_ob, ob_none, nl12v1 fuel x10 x11 x12 x13 g m]

theorem r12v1 (fuel : Nat) (m : Nat) {ρ : Type} (k : Ex → St → Option ρ) (x10 : Nat) (x11 : Nat → Nat → CV) (x12 : Nat) (x13 : Nat → Nat → CV) (x9 : Int) :
    loopH (B12v1 (C0 fuel) fuel) N12v1 (m + 1) (s12v0 x9 x10 x11 x12 x13) k =
    (bif (decide (x9 < (Int.ofNat x12))) then (bif (inb x9 x12) then (bif (decide ((Int.ofNat (CV.len (x13 (Int.toNat x9) 0))) > 40)) then (k .ret (s12v1 x10 x11 x12 x13)) else (loopH (B12v1 (C0 fuel) fuel) N12v1 m (s12v0 (w64 (x9 + 1)) x10 x11 x12 x13) k)) else none) else (k (.exit 0) (s12v2 x10 x11 x12 x13))) := by kernel_rfl

theorem q12v1 (fuel : Nat) (x10 : Nat) (x11 : Nat → Nat → CV) (x12 : Nat) (x13 : Nat → Nat → CV) {ρ : Type} (k : Ex → St → Option ρ) : ∀ (m : Nat) (x9 : Int),
    loopH (B12v1 (C0 fuel) fuel) N12v1 m (s12v0 x9 x10 x11 x12 x13) k = L12v1 fuel x10 x11 x12 x13 m x9 (k .ret (s12v1 x10 x11 x12 x13)) (k (.exit 0) (s12v2 x10 x11 x12 x13))
  | 0, _ => rfl
  | m + 1, x9 => by
    rw [r12v1]
    simp only [L12v1, q12v1 fuel x10 x11 x12 x13 k m]

def D12 {ρ : Type} (fuel : Nat) (x1 : Nat) (x2 : Nat → Nat → CV) (x3 : Nat) (x4 : Nat → Nat → CV) (k : Bool → Option ρ) : Option ρ :=
  (bif ((decide ((Int.ofNat x3) > 12)) == false) then (bif (decide ((Int.ofNat x1) > 40)) then (k true) else (L12v1 fuel x1 x2 x3 x4 fuel 0
    (k true)
    (k false))) else (k true))

def F12 (fuel : Nat) (x1 : Nat) (x2 : Nat → Nat → CV) (x3 : Nat) (x4 : Nat → Nat → CV) : Option (Bool) := D12 fuel x1 x2 x3 x4 some

theorem n12 {ρ σ : Type} (fuel : Nat) (x1 : Nat) (x2 : Nat → Nat → CV) (x3 : Nat) (x4 : Nat → Nat → CV) (k : (Bool) → Option ρ) (g : ρ → Option σ) : ob (D12 fuel x1 x2 x3 x4 k) g = D12 fuel x1 x2 x3 x4 fun t => ob (k t) g := by
  simp only [D12, ob_bif, ob_ob, ob_none, nl12v1]

theorem f12 {ρ : Type} (fuel : Nat) (x1 : Nat) (x2 : Nat → Nat → CV) (x3 : Nat) (x4 : Nat → Nat → CV) (k : (Bool) → Option ρ) : D12 fuel x1 x2 x3 x4 k = ob (F12 fuel x1 x2 x3 x4) k := by
  unfold F12
  rw [n12]
  simp only [ob_some]

def s12v3 (x1 : Nat) (x2 : Nat → Nat → CV) (x3 : Nat) (x4 : Nat → Nat → CV) : St := ⟨[.agg [(.c (.ro false (.pr (.int .i64) (.pr (.int .i64) .nil)) x1 x2)), (.c (.ro false (.pr (.sl (.pr (.int .i64) (.pr (.int .i64) .nil))) .nil) x3 x4))], .x (.ptr 0 0), .u, .x (.c (.i .i64 0)), .u, .u, .u, .u, .u, .u, .u, .u, .u, .u, .undef, .undef, .undef, .undef, .undef, .undef, .undef, .undef, .undef, .undef, .undef, .undef, .undef, .undef],
    [.box [(.c (.ro false (.pr (.int .i64) (.pr (.int .i64) .nil)) x1 x2)), (.c (.ro false (.pr (.sl (.pr (.int .i64) (.pr (.int .i64) .nil))) .nil) x3 x4))]]⟩

theorem walk12 (fuel : Nat) (x1 : Nat) (x2 : Nat → Nat → CV) (x3 : Nat) (x4 : Nat → Nat → CV) :
    evalF (C0 fuel) fuel A12 [.agg [(.ro false (.pr (.int .i64) (.pr (.int .i64) .nil)) x1 x2), (.ro false (.pr (.sl (.pr (.int .i64) (.pr (.int .i64) .nil))) .nil) x3 x4)]] =
    (bif ((decide ((Int.ofNat x3) > 12)) == false) then (bif (decide ((Int.ofNat x1) > 40)) then (some [.v (.b true)]) else (loopN (B12v1 (C0 fuel) fuel) N12v1 fuel (s12v3 x1 x2 x3 x4) (kBlk 0 (kSeq (C0 fuel) fuel [2, 3, 14, 15, 16, 17, 18, 19, 20, 21, 22, 23, 24, 25, 26, 27] A12v4 (finish A12))))) else (some [.v (.b true)])) := by kernel_rfl

theorem t12v1 (fuel : Nat) {ρ : Type} (k : Ex → St → Option ρ) (x1 : Nat) (x2 : Nat → Nat → CV) (x3 : Nat) (x4 : Nat → Nat → CV) :
    loopN (B12v1 (C0 fuel) fuel) N12v1 fuel (s12v3 x1 x2 x3 x4) k =
    L12v1 fuel x1 x2 x3 x4 fuel 0 (k .ret (s12v1 x1 x2 x3 x4)) (k (.exit 0) (s12v2 x1 x2 x3 x4)) :=
  (loopN_at (st' := (s12v0 0 x1 x2 x3 x4)) (by kernel_rfl)).trans (q12v1 fuel x1 x2 x3 x4 k fuel 0)

theorem g12v2 (fuel : Nat) (x1 : Nat) (x2 : Nat → Nat → CV) (x3 : Nat) (x4 : Nat → Nat → CV) :
    (kBlk 0 (kSeq (C0 fuel) fuel [2, 3, 14, 15, 16, 17, 18, 19, 20, 21, 22, 23, 24, 25, 26, 27] A12v4 (finish A12))) .ret (s12v1 x1 x2 x3 x4) =
    (some [.v (.b true)]) := by kernel_rfl

theorem g12v3 (fuel : Nat) (x1 : Nat) (x2 : Nat → Nat → CV) (x3 : Nat) (x4 : Nat → Nat → CV) :
    (kBlk 0 (kSeq (C0 fuel) fuel [2, 3, 14, 15, 16, 17, 18, 19, 20, 21, 22, 23, 24, 25, 26, 27] A12v4 (finish A12))) (.exit 0) (s12v2 x1 x2 x3 x4) =
    (some [.v (.b false)]) := by kernel_rfl

theorem e12 (fuel : Nat) (x1 : Nat) (x2 : Nat → Nat → CV) (x3 : Nat) (x4 : Nat → Nat → CV) : evalF (C0 fuel) fuel A12 [.agg [(.ro false (.pr (.int .i64) (.pr (.int .i64) .nil)) x1 x2), (.ro false (.pr (.sl (.pr (.int .i64) (.pr (.int .i64) .nil))) .nil) x3 x4)]] = ob (F12 fuel x1 x2 x3 x4) fun t => some [.v (.b t)] := by
  rw [walk12, ← f12]
  simp only [D12, t12v1, g12v2, g12v3]

def O12 (fuel : Nat) : Ora where
  o := fun args {ρ} K =>
    wc args fun a1 l2 =>
    wagg a1 fun l3 =>
    wc l3 fun c4 l5 =>
    wL (.pr (.int .i64) (.pr (.int .i64) .nil)) c4 fun y6 y7 =>
    wc l5 fun c9 l10 =>
    wL (.pr (.sl (.pr (.int .i64) (.pr (.int .i64) .nil))) .nil) c9 fun y11 y12 =>
    wn l10 <|
    wn l2 <|
    (ob (F12 fuel y6 y7 y11 y12) fun t => K [.v (.b t)])
  nat := fun args {ρ} K => by
    simp only [bind_wc, bind_wn, bind_wv, bind_wagg, bind_wI, bind_wB, bind_wS, bind_wL, bind_wP, bind_wFn, bind_ob, Option.bind_some]

theorem d12 {P : Program} (fuel : Nat) (hmix : P.follows .mixedOrders = true) (hC : Sound P (C0 fuel)) (hF : FFits P 12 A12) (args res : List A) (h : (O12 fuel).o args some = some res) : Den P 12 args res := by
  obtain ⟨a1, l2, rfl, z0⟩ := inv_wc h
  obtain ⟨l3, rfl, z1⟩ := inv_wagg z0
  obtain ⟨c4, l5, rfl, z2⟩ := inv_wc z1
  obtain ⟨y6, y7, h8, z3⟩ := inv_wL z2
  obtain ⟨c9, l10, rfl, z4⟩ := inv_wc z3
  obtain ⟨y11, y12, h13, z5⟩ := inv_wL z4
  obtain ⟨hn, z6⟩ := inv_wn z5
  cases hn
  obtain ⟨hn, z7⟩ := inv_wn z6
  cases hn
  exact Den.weaken (.cons (WkA.agg (.cons h8 (.cons h13 .nil))) .nil) (evalF_sound hmix hC hF ((e12 fuel y6 y7 y11 y12).trans z7))

def C1 (fuel : Nat) : Oracle := (C0 fuel).add 12 (fun _ => true) (O12 fuel)

/-- shipyard/poly.far -/
def A61 : AF := ⟨21, [.tmp 2],
  (.seq (.region 0 [
  ⟨(some 1), .box 0 34 (.tmp 0), none⟩,
  ⟨(some 2), .assign (.const (.bool false)), none⟩] 1 none) []
  (.seq (.region 1 [
  ⟨(some 3), .fieldAddr 34 (.tmp 1) 0 0, none⟩,
  ⟨(some 4), .load 3 none (.tmp 3), none⟩,
  ⟨(some 5), .binOp .lss 3 (.tmp 4) (.const (.int .i64 (-32768))) 3, none⟩,
  ⟨(some 6), .move (.tmp 5), none⟩,
  ⟨(some 7), .fieldAddr 34 (.tmp 1) 0 0, (some (6, false))⟩,
  ⟨(some 8), .load 3 none (.tmp 7), (some (6, false))⟩,
  ⟨(some 9), .binOp .gtr 3 (.tmp 8) (.const (.int .i64 32768)) 3, (some (6, false))⟩,
  ⟨(some 10), .pick (.tmp 6) (.const (.bool true)) (.tmp 9), none⟩,
  ⟨(some 11), .move (.tmp 10), none⟩,
  ⟨(some 12), .fieldAddr 34 (.tmp 1) 1 1, (some (11, false))⟩,
  ⟨(some 13), .load 3 none (.tmp 12), (some (11, false))⟩,
  ⟨(some 14), .binOp .lss 3 (.tmp 13) (.const (.int .i64 (-32768))) 3, (some (11, false))⟩,
  ⟨(some 15), .pick (.tmp 11) (.const (.bool true)) (.tmp 14), none⟩,
  ⟨(some 16), .move (.tmp 15), none⟩,
  ⟨(some 17), .fieldAddr 34 (.tmp 1) 1 1, (some (16, false))⟩,
  ⟨(some 18), .load 3 none (.tmp 17), (some (16, false))⟩,
  ⟨(some 19), .binOp .gtr 3 (.tmp 18) (.const (.int .i64 32768)) 3, (some (16, false))⟩,
  ⟨(some 20), .pick (.tmp 16) (.const (.bool true)) (.tmp 19), none⟩,
  ⟨(some 2), .assign (.tmp 20), none⟩] 0 none) []
  (.ret [0, 1, 3, 4, 5, 6, 7, 8, 9, 10, 11, 12, 13, 14, 15, 16, 17, 18, 19, 20])))⟩

def D61 {ρ : Type} (fuel : Nat) (x1 : Int) (x2 : Int) (k : Bool → Option ρ) : Option ρ :=
  (bif ((decide (x1 < (-32768))) == false) then (bif ((decide (x1 > 32768)) == false) then (bif ((decide (x2 < (-32768))) == false) then (k (decide (x2 > 32768))) else (k true)) else (k true)) else (k true))

def F61 (fuel : Nat) (x1 : Int) (x2 : Int) : Option (Bool) := D61 fuel x1 x2 some

theorem n61 {ρ σ : Type} (fuel : Nat) (x1 : Int) (x2 : Int) (k : (Bool) → Option ρ) (g : ρ → Option σ) : ob (D61 fuel x1 x2 k) g = D61 fuel x1 x2 fun t => ob (k t) g := by
  simp only [D61, ob_bif, ob_ob, ob_none]

theorem f61 {ρ : Type} (fuel : Nat) (x1 : Int) (x2 : Int) (k : (Bool) → Option ρ) : D61 fuel x1 x2 k = ob (F61 fuel x1 x2) k := by
  unfold F61
  rw [n61]
  simp only [ob_some]

theorem walk61 (fuel : Nat) (x1 : Int) (x2 : Int) :
    evalF (C1 fuel) fuel A61 [.agg [(.i .i64 x1), (.i .i64 x2)]] =
    (bif ((decide (x1 < (-32768))) == false) then (bif ((decide (x1 > 32768)) == false) then (bif ((decide (x2 < (-32768))) == false) then (some [.v (.b (decide (x2 > 32768)))]) else (some [.v (.b true)])) else (some [.v (.b true)])) else (some [.v (.b true)])) := by kernel_rfl

theorem e61 (fuel : Nat) (x1 : Int) (x2 : Int) : evalF (C1 fuel) fuel A61 [.agg [(.i .i64 x1), (.i .i64 x2)]] = ob (F61 fuel x1 x2) fun t => some [.v (.b t)] := by
  rw [walk61, ← f61]
  simp only [D61]

def O61 (fuel : Nat) : Ora where
  o := fun args {ρ} K =>
    wc args fun a1 l2 =>
    wagg a1 fun l3 =>
    wc l3 fun c4 l5 =>
    wI .i64 c4 fun y6 =>
    wc l5 fun c8 l9 =>
    wI .i64 c8 fun y10 =>
    wn l9 <|
    wn l2 <|
    (ob (F61 fuel y6 y10) fun t => K [.v (.b t)])
  nat := fun args {ρ} K => by
    simp only [bind_wc, bind_wn, bind_wv, bind_wagg, bind_wI, bind_wB, bind_wS, bind_wL, bind_wP, bind_wFn, bind_ob, Option.bind_some]

theorem d61 {P : Program} (fuel : Nat) (hmix : P.follows .mixedOrders = true) (hC : Sound P (C1 fuel)) (hF : FFits P 61 A61) (args res : List A) (h : (O61 fuel).o args some = some res) : Den P 61 args res := by
  obtain ⟨a1, l2, rfl, z0⟩ := inv_wc h
  obtain ⟨l3, rfl, z1⟩ := inv_wagg z0
  obtain ⟨c4, l5, rfl, z2⟩ := inv_wc z1
  obtain ⟨y6, h7, z3⟩ := inv_wI z2
  obtain ⟨c8, l9, rfl, z4⟩ := inv_wc z3
  obtain ⟨y10, h11, z5⟩ := inv_wI z4
  obtain ⟨hn, z6⟩ := inv_wn z5
  cases hn
  obtain ⟨hn, z7⟩ := inv_wn z6
  cases hn
  exact Den.weaken (.cons (WkA.agg (.cons (Wk.i h7) (.cons (Wk.i h11) .nil))) .nil) (evalF_sound hmix hC hF ((e61 fuel y6 y10).trans z7))

def C2 (fuel : Nat) : Oracle := (C1 fuel).add 61 (fun _ => true) (O61 fuel)

/-- slices.IndexFunc[[]shipyard/api.Point,shipyard/api.Point] -/
def A73v1 : AC := (.region 6 [
  ⟨(some 18), .binOp .add 3 (.tmp 8) (.const (.int .i64 1)) 3, none⟩,
  ⟨(some 8), .move (.tmp 18), none⟩] 0 none)
def A73v2 : AC := (.seq (.block 1
  (.seq (.region 3 [
    ⟨(some 10), .move (.tmp 8), none⟩,
    ⟨(some 5), .assign (.tmp 10), none⟩] 0 none) []
    (.seq (.region 4 [
    ⟨(some 11), .move (.tmp 1), none⟩,
    ⟨(some 12), .move (.tmp 0), none⟩,
    ⟨(some 13), .move (.tmp 5), none⟩,
    ⟨(some 14), .indexAddr 22 34 2 (.tmp 12) (.tmp 13), none⟩,
    ⟨(some 15), .load 34 (some 2) (.tmp 14), none⟩,
    ⟨(some 16), .callv (.tmp 11) [(.tmp 15)] [34] .snap, none⟩] 0 none) []
    (.cond (.tmp 16)
    (.seq (.region 5 [
      ⟨(some 17), .move (.tmp 5), none⟩,
      ⟨(some 4), .assign (.tmp 17), none⟩] 0 none) []
      (.ret [0, 1, 2, 3, 5, 6, 7, 8, 9, 10, 11, 12, 13, 14, 15, 16, 17, 18]))
    .skip)))) [4, 5, 10, 11, 12, 13, 14, 15, 16, 17]
  A73v1)
def A73v3 : AC := (.seq (.region 2 [
  ⟨(some 9), .binOp .lss 3 (.tmp 8) (.tmp 7) 3, none⟩] 0 none) []
  (.seq (.cond (.tmp 9)
  .skip
  (.exit 0 [0, 1, 2, 3, 4, 5, 6, 7, 8, 9, 10, 11, 12, 13, 14, 15, 16, 17, 18])) []
  A73v2))
def A73v4 : AC := (.seq (.region 7 [
  ⟨(some 4), .assign (.const (.int .i64 (-1))), none⟩] 0 none) []
  (.ret [0, 1, 2, 3, 5, 6, 7, 8, 9, 10, 11, 12, 13, 14, 15, 16, 17, 18]))
def A73 : AF := ⟨19, [.tmp 4],
  (.seq (.region 0 [
  ⟨(some 4), .assign (.const (.int .i64 0)), none⟩] 0 none) []
  (.seq (.seq (.region 1 [
  ⟨(some 6), .move (.tmp 0), none⟩,
  ⟨(some 7), .len 22 false (.tmp 6), none⟩,
  ⟨(some 8), .move (.const (.int .i64 0)), none⟩] 0 none) []
  (.block 0
  (.loop [] [2, 3, 4, 5, 6, 9, 10, 11, 12, 13, 14, 15, 16, 17, 18]
    A73v3))) [4, 5, 6, 7, 8, 9, 10, 11, 12, 13, 14, 15, 16, 17, 18]
  A73v4))⟩

def B73v1 (C : Oracle) (fuel : Nat) {ρ : Type} : St → (Ex → St → Option ρ) → Option ρ := fun st k => evalC C fuel A73v3 st k
def N73v1 : St → Option St := fun s => s.norm [2, 3, 4, 5, 6, 9, 10, 11, 12, 13, 14, 15, 16, 17, 18] 0

def s73v0 (x7 : Nat) (x8 : Nat → Nat → CV) (x9 : Int) (x10 : Int) : St := ⟨[.x (.c (.ro false (.pr (.int .i64) (.pr (.int .i64) .nil)) x7 x8)), .x (.c (.fn 61 0 (listF []))), .u, .u, .u, .u, .u, .x (.c (.i .i64 x9)), .x (.c (.i .i64 x10)), .u, .u, .u, .u, .u, .u, .u, .u, .u, .u],
    []⟩

def s73v1 (x12 : Int) : St := ⟨[.u, .u, .u, .u, .x (.c (.i .i64 x12)), .u, .u, .u, .u, .u, .u, .u, .u, .u, .u, .u, .u, .u, .u],
    []⟩

def s73v2 : St := ⟨[.u, .u, .u, .u, .u, .u, .u, .u, .u, .u, .u, .u, .u, .u, .u, .u, .u, .u, .u],
    []⟩

def L73v1 {ρ : Type} (fuel : Nat) (x7 : Nat) (x8 : Nat → Nat → CV) (x9 : Int) : Nat → Int → (Int → Option ρ) → (Option ρ) → Option ρ
  | 0, _, _, _ => none
  | m + 1, x10, k0, k1 =>
    (bif (decide (x10 < x9)) then (bif (inb x10 x7) then (ob (F61 fuel (CV.int (x8 (Int.toNat x10) 0)) (CV.int (x8 (Int.toNat x10) 1))) fun x11 => (bif x11 then (k0 x10) else (L73v1 fuel x7 x8 x9 m (w64 (x10 + 1)) k0 k1))) else none) else k1)

theorem nl73v1 {ρ σ : Type} (fuel : Nat) (x7 : Nat) (x8 : Nat → Nat → CV) (x9 : Int) (g : ρ → Option σ) : ∀ (m : Nat) (x10 : Int) (k0 : Int → Option ρ) (k1 : Option ρ), ob (L73v1 fuel x7 x8 x9 m x10 k0 k1) g = L73v1 fuel x7 x8 x9 m x10 (fun x12 => ob (k0 x12) g) (ob k1 g)
  | 0, _, _, _ => rfl
  | m + 1, x10, k0, k1 => by
    simp only [L73v1, ob_bif, ob_ob, ob_none, nl73v1 fuel x7 x8 x9 g m]

theorem r73v1 (fuel : Nat) (m : Nat) {ρ : Type} (k : Ex → St → Option ρ) (x7 : Nat) (x8 : Nat → Nat → CV) (x9 : Int) (x10 : Int) :
    loopH (B73v1 (C2 fuel) fuel) N73v1 (m + 1) (s73v0 x7 x8 x9 x10) k =
    (bif (decide (x10 < x9)) then (bif (inb x10 x7) then (ob (F61 fuel (CV.int (x8 (Int.toNat x10) 0)) (CV.int (x8 (Int.toNat x10) 1))) fun x11 => (bif x11 then (k .ret (s73v1 x10)) else (loopH (B73v1 (C2 fuel) fuel) N73v1 m (s73v0 x7 x8 x9 (w64 (x10 + 1))) k))) else none) else (k (.exit 0) s73v2)) := by kernel_rfl

theorem q73v1 (fuel : Nat) (x7 : Nat) (x8 : Nat → Nat → CV) (x9 : Int) {ρ : Type} (k : Ex → St → Option ρ) : ∀ (m : Nat) (x10 : Int),
    loopH (B73v1 (C2 fuel) fuel) N73v1 m (s73v0 x7 x8 x9 x10) k = L73v1 fuel x7 x8 x9 m x10 (fun x12 => k .ret (s73v1 x12)) (k (.exit 0) s73v2)
  | 0, _ => rfl
  | m + 1, x10 => by
    rw [r73v1]
    simp only [L73v1, q73v1 fuel x7 x8 x9 k m]

def D73 {ρ : Type} (fuel : Nat) (x1 : Nat) (x2 : Nat → Nat → CV) (k : Int → Option ρ) : Option ρ :=
  (L73v1 fuel x1 x2 (Int.ofNat x1) fuel 0
    (fun x13 => (k x13))
    (k (-1)))

def F73 (fuel : Nat) (x1 : Nat) (x2 : Nat → Nat → CV) : Option (Int) := D73 fuel x1 x2 some

theorem n73 {ρ σ : Type} (fuel : Nat) (x1 : Nat) (x2 : Nat → Nat → CV) (k : (Int) → Option ρ) (g : ρ → Option σ) : ob (D73 fuel x1 x2 k) g = D73 fuel x1 x2 fun t => ob (k t) g := by
  simp only [D73, ob_bif, ob_ob, ob_none, nl73v1]

theorem f73 {ρ : Type} (fuel : Nat) (x1 : Nat) (x2 : Nat → Nat → CV) (k : (Int) → Option ρ) : D73 fuel x1 x2 k = ob (F73 fuel x1 x2) k := by
  unfold F73
  rw [n73]
  simp only [ob_some]

def s73v3 (x1 : Nat) (x2 : Nat → Nat → CV) : St := ⟨[.x (.c (.ro false (.pr (.int .i64) (.pr (.int .i64) .nil)) x1 x2)), .x (.c (.fn 61 0 (listF []))), .undef, .undef, .x (.c (.i .i64 0)), .undef, .x (.c (.ro false (.pr (.int .i64) (.pr (.int .i64) .nil)) x1 x2)), .x (.c (.i .i64 (Int.ofNat x1))), .x (.c (.i .i64 0)), .undef, .undef, .undef, .undef, .undef, .undef, .undef, .undef, .undef, .undef],
    []⟩

theorem walk73 (fuel : Nat) (x1 : Nat) (x2 : Nat → Nat → CV) :
    evalF (C2 fuel) fuel A73 [.v (.ro false (.pr (.int .i64) (.pr (.int .i64) .nil)) x1 x2), .v (.fn 61 0 (listF []))] =
    (loopN (B73v1 (C2 fuel) fuel) N73v1 fuel (s73v3 x1 x2) (kBlk 0 (kSeq (C2 fuel) fuel [4, 5, 6, 7, 8, 9, 10, 11, 12, 13, 14, 15, 16, 17, 18] A73v4 (finish A73)))) := by kernel_rfl

theorem t73v1 (fuel : Nat) {ρ : Type} (k : Ex → St → Option ρ) (x1 : Nat) (x2 : Nat → Nat → CV) :
    loopN (B73v1 (C2 fuel) fuel) N73v1 fuel (s73v3 x1 x2) k =
    L73v1 fuel x1 x2 (Int.ofNat x1) fuel 0 (fun x12 => k .ret (s73v1 x12)) (k (.exit 0) s73v2) :=
  (loopN_at (st' := (s73v0 x1 x2 (Int.ofNat x1) 0)) (by kernel_rfl)).trans (q73v1 fuel x1 x2 (Int.ofNat x1) k fuel 0)

theorem g73v2 (fuel : Nat) (x13 : Int) :
    (kBlk 0 (kSeq (C2 fuel) fuel [4, 5, 6, 7, 8, 9, 10, 11, 12, 13, 14, 15, 16, 17, 18] A73v4 (finish A73))) .ret (s73v1 x13) =
    (some [.v (.i .i64 x13)]) := by kernel_rfl

theorem g73v3 (fuel : Nat) :
    (kBlk 0 (kSeq (C2 fuel) fuel [4, 5, 6, 7, 8, 9, 10, 11, 12, 13, 14, 15, 16, 17, 18] A73v4 (finish A73))) (.exit 0) s73v2 =
    (some [.v (.i .i64 (-1))]) := by kernel_rfl

theorem e73 (fuel : Nat) (x1 : Nat) (x2 : Nat → Nat → CV) : evalF (C2 fuel) fuel A73 [.v (.ro false (.pr (.int .i64) (.pr (.int .i64) .nil)) x1 x2), .v (.fn 61 0 (listF []))] = ob (F73 fuel x1 x2) fun t => some [.v (.i .i64 t)] := by
  rw [walk73, ← f73]
  simp only [D73, t73v1, g73v2, g73v3]

def O73 (fuel : Nat) : Ora where
  o := fun args {ρ} K =>
    wc args fun a1 l2 =>
    wv a1 fun c3 =>
    wL (.pr (.int .i64) (.pr (.int .i64) .nil)) c3 fun y4 y5 =>
    wc l2 fun a7 l8 =>
    wv a7 fun c9 =>
    wFn 61 0 c9 fun y10 =>
    wn l8 <|
    (ob (F73 fuel y4 y5) fun t => K [.v (.i .i64 t)])
  nat := fun args {ρ} K => by
    simp only [bind_wc, bind_wn, bind_wv, bind_wagg, bind_wI, bind_wB, bind_wS, bind_wL, bind_wP, bind_wFn, bind_ob, Option.bind_some]

theorem d73 {P : Program} (fuel : Nat) (hmix : P.follows .mixedOrders = true) (hC : Sound P (C2 fuel)) (hF : FFits P 73 A73) (args res : List A) (h : (O73 fuel).o args some = some res) : Den P 73 args res := by
  obtain ⟨a1, l2, rfl, z0⟩ := inv_wc h
  obtain ⟨c3, rfl, z1⟩ := inv_wv z0
  obtain ⟨y4, y5, h6, z2⟩ := inv_wL z1
  obtain ⟨a7, l8, rfl, z3⟩ := inv_wc z2
  obtain ⟨c9, rfl, z4⟩ := inv_wv z3
  obtain ⟨y10, h11, z5⟩ := inv_wFn z4
  obtain ⟨hn, z6⟩ := inv_wn z5
  cases hn
  exact Den.weaken (.cons (WkA.v h6) (.cons (WkA.v (wk_fn0 h11)) .nil)) (evalF_sound hmix hC hF ((e73 fuel y4 y5).trans z6))

def C3 (fuel : Nat) : Oracle := (C2 fuel).add 73 (fun l => isFn 61 l 1) (O73 fuel)

/-- slices.ContainsFunc[[]shipyard/api.Point,shipyard/api.Point] -/
def A50 : AF := ⟨9, [.tmp 4],
  (.seq (.region 0 [
  ⟨(some 4), .assign (.const (.bool false)), none⟩] 0 none) []
  (.seq (.region 1 [
  ⟨(some 5), .move (.tmp 0), none⟩,
  ⟨(some 6), .move (.tmp 1), none⟩,
  ⟨(some 7), .call 73 [(.tmp 5), (.tmp 6)] [22, 62] .snap, none⟩,
  ⟨(some 8), .binOp .geq 3 (.tmp 7) (.const (.int .i64 0)) 3, none⟩,
  ⟨(some 4), .assign (.tmp 8), none⟩] 0 none) []
  (.ret [0, 1, 2, 3, 5, 6, 7, 8])))⟩

def D50 {ρ : Type} (fuel : Nat) (x1 : Nat) (x2 : Nat → Nat → CV) (k : Bool → Option ρ) : Option ρ :=
  (ob (F73 fuel x1 x2) fun x3 => (k (decide (x3 ≥ 0))))

def F50 (fuel : Nat) (x1 : Nat) (x2 : Nat → Nat → CV) : Option (Bool) := D50 fuel x1 x2 some

theorem n50 {ρ σ : Type} (fuel : Nat) (x1 : Nat) (x2 : Nat → Nat → CV) (k : (Bool) → Option ρ) (g : ρ → Option σ) : ob (D50 fuel x1 x2 k) g = D50 fuel x1 x2 fun t => ob (k t) g := by
  simp only [D50, ob_bif, ob_ob, ob_none]

theorem f50 {ρ : Type} (fuel : Nat) (x1 : Nat) (x2 : Nat → Nat → CV) (k : (Bool) → Option ρ) : D50 fuel x1 x2 k = ob (F50 fuel x1 x2) k := by
  unfold F50
  rw [n50]
  simp only [ob_some]

theorem walk50 (fuel : Nat) (x1 : Nat) (x2 : Nat → Nat → CV) :
    evalF (C3 fuel) fuel A50 [.v (.ro false (.pr (.int .i64) (.pr (.int .i64) .nil)) x1 x2), .v (.fn 61 0 (listF []))] =
    (ob (F73 fuel x1 x2) fun x3 => (some [.v (.b (decide (x3 ≥ 0)))])) := by kernel_rfl

theorem e50 (fuel : Nat) (x1 : Nat) (x2 : Nat → Nat → CV) : evalF (C3 fuel) fuel A50 [.v (.ro false (.pr (.int .i64) (.pr (.int .i64) .nil)) x1 x2), .v (.fn 61 0 (listF []))] = ob (F50 fuel x1 x2) fun t => some [.v (.b t)] := by
  rw [walk50, ← f50]
  simp only [D50]

def O50 (fuel : Nat) : Ora where
  o := fun args {ρ} K =>
    wc args fun a1 l2 =>
    wv a1 fun c3 =>
    wL (.pr (.int .i64) (.pr (.int .i64) .nil)) c3 fun y4 y5 =>
    wc l2 fun a7 l8 =>
    wv a7 fun c9 =>
    wFn 61 0 c9 fun y10 =>
    wn l8 <|
    (ob (F50 fuel y4 y5) fun t => K [.v (.b t)])
  nat := fun args {ρ} K => by
    simp only [bind_wc, bind_wn, bind_wv, bind_wagg, bind_wI, bind_wB, bind_wS, bind_wL, bind_wP, bind_wFn, bind_ob, Option.bind_some]

theorem d50 {P : Program} (fuel : Nat) (hmix : P.follows .mixedOrders = true) (hC : Sound P (C3 fuel)) (hF : FFits P 50 A50) (args res : List A) (h : (O50 fuel).o args some = some res) : Den P 50 args res := by
  obtain ⟨a1, l2, rfl, z0⟩ := inv_wc h
  obtain ⟨c3, rfl, z1⟩ := inv_wv z0
  obtain ⟨y4, y5, h6, z2⟩ := inv_wL z1
  obtain ⟨a7, l8, rfl, z3⟩ := inv_wc z2
  obtain ⟨c9, rfl, z4⟩ := inv_wv z3
  obtain ⟨y10, h11, z5⟩ := inv_wFn z4
  obtain ⟨hn, z6⟩ := inv_wn z5
  cases hn
  exact Den.weaken (.cons (WkA.v h6) (.cons (WkA.v (wk_fn0 h11)) .nil)) (evalF_sound hmix hC hF ((e50 fuel y4 y5).trans z6))

def C4 (fuel : Nat) : Oracle := (C3 fuel).add 50 (fun l => isFn 61 l 1) (O50 fuel)

/-- shipyard/poly.cross -/
def A79 : AF := ⟨30, [.tmp 6],
  (.seq (.region 0 [
  ⟨(some 3), .box 0 34 (.tmp 0), none⟩,
  ⟨(some 4), .box 1 34 (.tmp 1), none⟩,
  ⟨(some 5), .box 2 34 (.tmp 2), none⟩,
  ⟨(some 6), .assign (.const (.int .i64 0)), none⟩] 3 none) []
  (.seq (.region 1 [
  ⟨(some 7), .fieldAddr 34 (.tmp 4) 0 0, none⟩,
  ⟨(some 8), .load 3 none (.tmp 7), none⟩,
  ⟨(some 9), .fieldAddr 34 (.tmp 3) 0 0, none⟩,
  ⟨(some 10), .load 3 none (.tmp 9), none⟩,
  ⟨(some 11), .binOp .sub 3 (.tmp 8) (.tmp 10) 3, none⟩,
  ⟨(some 12), .fieldAddr 34 (.tmp 5) 1 1, none⟩,
  ⟨(some 13), .load 3 none (.tmp 12), none⟩,
  ⟨(some 14), .fieldAddr 34 (.tmp 3) 1 1, none⟩,
  ⟨(some 15), .load 3 none (.tmp 14), none⟩,
  ⟨(some 16), .binOp .sub 3 (.tmp 13) (.tmp 15) 3, none⟩,
  ⟨(some 17), .binOp .mul 3 (.tmp 11) (.tmp 16) 3, none⟩,
  ⟨(some 18), .fieldAddr 34 (.tmp 4) 1 1, none⟩,
  ⟨(some 19), .load 3 none (.tmp 18), none⟩,
  ⟨(some 20), .fieldAddr 34 (.tmp 3) 1 1, none⟩,
  ⟨(some 21), .load 3 none (.tmp 20), none⟩,
  ⟨(some 22), .binOp .sub 3 (.tmp 19) (.tmp 21) 3, none⟩,
  ⟨(some 23), .fieldAddr 34 (.tmp 5) 0 0, none⟩,
  ⟨(some 24), .load 3 none (.tmp 23), none⟩,
  ⟨(some 25), .fieldAddr 34 (.tmp 3) 0 0, none⟩,
  ⟨(some 26), .load 3 none (.tmp 25), none⟩,
  ⟨(some 27), .binOp .sub 3 (.tmp 24) (.tmp 26) 3, none⟩,
  ⟨(some 28), .binOp .mul 3 (.tmp 22) (.tmp 27) 3, none⟩,
  ⟨(some 29), .binOp .sub 3 (.tmp 17) (.tmp 28) 3, none⟩,
  ⟨(some 6), .assign (.tmp 29), none⟩] 0 none) []
  (.ret [0, 1, 2, 3, 4, 5, 7, 8, 9, 10, 11, 12, 13, 14, 15, 16, 17, 18, 19, 20, 21, 22, 23, 24, 25, 26, 27, 28, 29])))⟩

def D79 {ρ : Type} (fuel : Nat) (x1 : Int) (x2 : Int) (x3 : Int) (x4 : Int) (x5 : Int) (x6 : Int) (k : Int → Option ρ) : Option ρ :=
  (k (w64 ((w64 ((w64 (x3 - x1)) * (w64 (x6 - x2)))) - (w64 ((w64 (x4 - x2)) * (w64 (x5 - x1)))))))

def F79 (fuel : Nat) (x1 : Int) (x2 : Int) (x3 : Int) (x4 : Int) (x5 : Int) (x6 : Int) : Option (Int) := D79 fuel x1 x2 x3 x4 x5 x6 some

theorem n79 {ρ σ : Type} (fuel : Nat) (x1 : Int) (x2 : Int) (x3 : Int) (x4 : Int) (x5 : Int) (x6 : Int) (k : (Int) → Option ρ) (g : ρ → Option σ) : ob (D79 fuel x1 x2 x3 x4 x5 x6 k) g = D79 fuel x1 x2 x3 x4 x5 x6 fun t => ob (k t) g := by
  simp only [D79, ob_bif, ob_ob, ob_none]

theorem f79 {ρ : Type} (fuel : Nat) (x1 : Int) (x2 : Int) (x3 : Int) (x4 : Int) (x5 : Int) (x6 : Int) (k : (Int) → Option ρ) : D79 fuel x1 x2 x3 x4 x5 x6 k = ob (F79 fuel x1 x2 x3 x4 x5 x6) k := by
  unfold F79
  rw [n79]
  simp only [ob_some]

theorem walk79 (fuel : Nat) (x1 : Int) (x2 : Int) (x3 : Int) (x4 : Int) (x5 : Int) (x6 : Int) :
    evalF (C4 fuel) fuel A79 [.agg [(.i .i64 x1), (.i .i64 x2)], .agg [(.i .i64 x3), (.i .i64 x4)], .agg [(.i .i64 x5), (.i .i64 x6)]] =
    (some [.v (.i .i64 (w64 ((w64 ((w64 (x3 - x1)) * (w64 (x6 - x2)))) - (w64 ((w64 (x4 - x2)) * (w64 (x5 - x1)))))))]) := by kernel_rfl

theorem e79 (fuel : Nat) (x1 : Int) (x2 : Int) (x3 : Int) (x4 : Int) (x5 : Int) (x6 : Int) : evalF (C4 fuel) fuel A79 [.agg [(.i .i64 x1), (.i .i64 x2)], .agg [(.i .i64 x3), (.i .i64 x4)], .agg [(.i .i64 x5), (.i .i64 x6)]] = ob (F79 fuel x1 x2 x3 x4 x5 x6) fun t => some [.v (.i .i64 t)] := by
  rw [walk79, ← f79]
  simp only [D79]

def O79 (fuel : Nat) : Ora where
  o := fun args {ρ} K =>
    wc args fun a1 l2 =>
    wagg a1 fun l3 =>
    wc l3 fun c4 l5 =>
    wI .i64 c4 fun y6 =>
    wc l5 fun c8 l9 =>
    wI .i64 c8 fun y10 =>
    wn l9 <|
    wc l2 fun a12 l13 =>
    wagg a12 fun l14 =>
    wc l14 fun c15 l16 =>
    wI .i64 c15 fun y17 =>
    wc l16 fun c19 l20 =>
    wI .i64 c19 fun y21 =>
    wn l20 <|
    wc l13 fun a23 l24 =>
    wagg a23 fun l25 =>
    wc l25 fun c26 l27 =>
    wI .i64 c26 fun y28 =>
    wc l27 fun c30 l31 =>
    wI .i64 c30 fun y32 =>
    wn l31 <|
    wn l24 <|
    (ob (F79 fuel y6 y10 y17 y21 y28 y32) fun t => K [.v (.i .i64 t)])
  nat := fun args {ρ} K => by
    simp only [bind_wc, bind_wn, bind_wv, bind_wagg, bind_wI, bind_wB, bind_wS, bind_wL, bind_wP, bind_wFn, bind_ob, Option.bind_some]

theorem d79 {P : Program} (fuel : Nat) (hmix : P.follows .mixedOrders = true) (hC : Sound P (C4 fuel)) (hF : FFits P 79 A79) (args res : List A) (h : (O79 fuel).o args some = some res) : Den P 79 args res := by
  obtain ⟨a1, l2, rfl, z0⟩ := inv_wc h
  obtain ⟨l3, rfl, z1⟩ := inv_wagg z0
  obtain ⟨c4, l5, rfl, z2⟩ := inv_wc z1
  obtain ⟨y6, h7, z3⟩ := inv_wI z2
  obtain ⟨c8, l9, rfl, z4⟩ := inv_wc z3
  obtain ⟨y10, h11, z5⟩ := inv_wI z4
  obtain ⟨hn, z6⟩ := inv_wn z5
  cases hn
  obtain ⟨a12, l13, rfl, z7⟩ := inv_wc z6
  obtain ⟨l14, rfl, z8⟩ := inv_wagg z7
  obtain ⟨c15, l16, rfl, z9⟩ := inv_wc z8
  obtain ⟨y17, h18, z10⟩ := inv_wI z9
  obtain ⟨c19, l20, rfl, z11⟩ := inv_wc z10
  obtain ⟨y21, h22, z12⟩ := inv_wI z11
  obtain ⟨hn, z13⟩ := inv_wn z12
  cases hn
  obtain ⟨a23, l24, rfl, z14⟩ := inv_wc z13
  obtain ⟨l25, rfl, z15⟩ := inv_wagg z14
  obtain ⟨c26, l27, rfl, z16⟩ := inv_wc z15
  obtain ⟨y28, h29, z17⟩ := inv_wI z16
  obtain ⟨c30, l31, rfl, z18⟩ := inv_wc z17
  obtain ⟨y32, h33, z19⟩ := inv_wI z18
  obtain ⟨hn, z20⟩ := inv_wn z19
  cases hn
  obtain ⟨hn, z21⟩ := inv_wn z20
  cases hn
  exact Den.weaken (.cons (WkA.agg (.cons (Wk.i h7) (.cons (Wk.i h11) .nil))) (.cons (WkA.agg (.cons (Wk.i h18) (.cons (Wk.i h22) .nil))) (.cons (WkA.agg (.cons (Wk.i h29) (.cons (Wk.i h33) .nil))) .nil))) (evalF_sound hmix hC hF ((e79 fuel y6 y10 y17 y21 y28 y32).trans z21))

def C5 (fuel : Nat) : Oracle := (C4 fuel).add 79 (fun _ => true) (O79 fuel)

/-- shipyard/poly.within -/
def A87 : AF := ⟨45, [.tmp 6],
  (.seq (.region 0 [
  ⟨(some 3), .box 0 34 (.tmp 0), none⟩,
  ⟨(some 4), .box 1 34 (.tmp 1), none⟩,
  ⟨(some 5), .box 2 34 (.tmp 2), none⟩,
  ⟨(some 6), .assign (.const (.bool false)), none⟩] 3 none) []
  (.seq (.region 1 [
  ⟨(some 7), .fieldAddr 34 (.tmp 3) 0 0, none⟩,
  ⟨(some 8), .load 3 none (.tmp 7), none⟩,
  ⟨(some 9), .fieldAddr 34 (.tmp 4) 0 0, none⟩,
  ⟨(some 10), .load 3 none (.tmp 9), none⟩,
  ⟨(some 11), .mm false [(.tmp 8), (.tmp 10)] [3, 3], none⟩,
  ⟨(some 12), .fieldAddr 34 (.tmp 5) 0 0, none⟩,
  ⟨(some 13), .load 3 none (.tmp 12), none⟩,
  ⟨(some 14), .binOp .leq 3 (.tmp 11) (.tmp 13) 3, none⟩,
  ⟨(some 15), .move (.tmp 14), none⟩,
  ⟨(some 16), .fieldAddr 34 (.tmp 5) 0 0, (some (15, true))⟩,
  ⟨(some 17), .load 3 none (.tmp 16), (some (15, true))⟩,
  ⟨(some 18), .fieldAddr 34 (.tmp 3) 0 0, (some (15, true))⟩,
  ⟨(some 19), .load 3 none (.tmp 18), (some (15, true))⟩,
  ⟨(some 20), .fieldAddr 34 (.tmp 4) 0 0, (some (15, true))⟩,
  ⟨(some 21), .load 3 none (.tmp 20), (some (15, true))⟩,
  ⟨(some 22), .mm true [(.tmp 19), (.tmp 21)] [3, 3], (some (15, true))⟩,
  ⟨(some 23), .binOp .leq 3 (.tmp 17) (.tmp 22) 3, (some (15, true))⟩,
  ⟨(some 24), .pick (.tmp 15) (.tmp 23) (.const (.bool false)), none⟩,
  ⟨(some 25), .move (.tmp 24), none⟩,
  ⟨(some 26), .fieldAddr 34 (.tmp 3) 1 1, (some (25, true))⟩,
  ⟨(some 27), .load 3 none (.tmp 26), (some (25, true))⟩,
  ⟨(some 28), .fieldAddr 34 (.tmp 4) 1 1, (some (25, true))⟩,
  ⟨(some 29), .load 3 none (.tmp 28), (some (25, true))⟩,
  ⟨(some 30), .mm false [(.tmp 27), (.tmp 29)] [3, 3], (some (25, true))⟩,
  ⟨(some 31), .fieldAddr 34 (.tmp 5) 1 1, (some (25, true))⟩,
  ⟨(some 32), .load 3 none (.tmp 31), (some (25, true))⟩,
  ⟨(some 33), .binOp .leq 3 (.tmp 30) (.tmp 32) 3, (some (25, true))⟩,
  ⟨(some 34), .pick (.tmp 25) (.tmp 33) (.const (.bool false)), none⟩,
  ⟨(some 35), .move (.tmp 34), none⟩,
  ⟨(some 36), .fieldAddr 34 (.tmp 5) 1 1, (some (35, true))⟩,
  ⟨(some 37), .load 3 none (.tmp 36), (some (35, true))⟩,
  ⟨(some 38), .fieldAddr 34 (.tmp 3) 1 1, (some (35, true))⟩,
  ⟨(some 39), .load 3 none (.tmp 38), (some (35, true))⟩,
  ⟨(some 40), .fieldAddr 34 (.tmp 4) 1 1, (some (35, true))⟩,
  ⟨(some 41), .load 3 none (.tmp 40), (some (35, true))⟩,
  ⟨(some 42), .mm true [(.tmp 39), (.tmp 41)] [3, 3], (some (35, true))⟩,
  ⟨(some 43), .binOp .leq 3 (.tmp 37) (.tmp 42) 3, (some (35, true))⟩,
  ⟨(some 44), .pick (.tmp 35) (.tmp 43) (.const (.bool false)), none⟩,
  ⟨(some 6), .assign (.tmp 44), none⟩] 0 none) []
  (.ret [0, 1, 2, 3, 4, 5, 7, 8, 9, 10, 11, 12, 13, 14, 15, 16, 17, 18, 19, 20, 21, 22, 23, 24, 25, 26, 27, 28, 29, 30, 31, 32, 33, 34, 35, 36, 37, 38, 39, 40, 41, 42, 43, 44])))⟩

def D87 {ρ : Type} (fuel : Nat) (x1 : Int) (x2 : Int) (x3 : Int) (x4 : Int) (x5 : Int) (x6 : Int) (k : Bool → Option ρ) : Option ρ :=
  (bif ((decide ((if x3 < x1 then x3 else x1) ≤ x5)) == true) then (bif ((decide (x5 ≤ (if x3 > x1 then x3 else x1))) == true) then (bif ((decide ((if x4 < x2 then x4 else x2) ≤ x6)) == true) then (k (decide (x6 ≤ (if x4 > x2 then x4 else x2)))) else (k false)) else (k false)) else (k false))

def F87 (fuel : Nat) (x1 : Int) (x2 : Int) (x3 : Int) (x4 : Int) (x5 : Int) (x6 : Int) : Option (Bool) := D87 fuel x1 x2 x3 x4 x5 x6 some

theorem n87 {ρ σ : Type} (fuel : Nat) (x1 : Int) (x2 : Int) (x3 : Int) (x4 : Int) (x5 : Int) (x6 : Int) (k : (Bool) → Option ρ) (g : ρ → Option σ) : ob (D87 fuel x1 x2 x3 x4 x5 x6 k) g = D87 fuel x1 x2 x3 x4 x5 x6 fun t => ob (k t) g := by
  simp only [D87, ob_bif, ob_ob, ob_none]

theorem f87 {ρ : Type} (fuel : Nat) (x1 : Int) (x2 : Int) (x3 : Int) (x4 : Int) (x5 : Int) (x6 : Int) (k : (Bool) → Option ρ) : D87 fuel x1 x2 x3 x4 x5 x6 k = ob (F87 fuel x1 x2 x3 x4 x5 x6) k := by
  unfold F87
  rw [n87]
  simp only [ob_some]

theorem walk87 (fuel : Nat) (x1 : Int) (x2 : Int) (x3 : Int) (x4 : Int) (x5 : Int) (x6 : Int) :
    evalF (C5 fuel) fuel A87 [.agg [(.i .i64 x1), (.i .i64 x2)], .agg [(.i .i64 x3), (.i .i64 x4)], .agg [(.i .i64 x5), (.i .i64 x6)]] =
    (bif ((decide ((if x3 < x1 then x3 else x1) ≤ x5)) == true) then (bif ((decide (x5 ≤ (if x3 > x1 then x3 else x1))) == true) then (bif ((decide ((if x4 < x2 then x4 else x2) ≤ x6)) == true) then (some [.v (.b (decide (x6 ≤ (if x4 > x2 then x4 else x2))))]) else (some [.v (.b false)])) else (some [.v (.b false)])) else (some [.v (.b false)])) := by kernel_rfl

theorem e87 (fuel : Nat) (x1 : Int) (x2 : Int) (x3 : Int) (x4 : Int) (x5 : Int) (x6 : Int) : evalF (C5 fuel) fuel A87 [.agg [(.i .i64 x1), (.i .i64 x2)], .agg [(.i .i64 x3), (.i .i64 x4)], .agg [(.i .i64 x5), (.i .i64 x6)]] = ob (F87 fuel x1 x2 x3 x4 x5 x6) fun t => some [.v (.b t)] := by
  rw [walk87, ← f87]
  simp only [D87]

def O87 (fuel : Nat) : Ora where
  o := fun args {ρ} K =>
    wc args fun a1 l2 =>
    wagg a1 fun l3 =>
    wc l3 fun c4 l5 =>
    wI .i64 c4 fun y6 =>
    wc l5 fun c8 l9 =>
    wI .i64 c8 fun y10 =>
    wn l9 <|
    wc l2 fun a12 l13 =>
    wagg a12 fun l14 =>
    wc l14 fun c15 l16 =>
    wI .i64 c15 fun y17 =>
    wc l16 fun c19 l20 =>
    wI .i64 c19 fun y21 =>
    wn l20 <|
    wc l13 fun a23 l24 =>
    wagg a23 fun l25 =>
    wc l25 fun c26 l27 =>
    wI .i64 c26 fun y28 =>
    wc l27 fun c30 l31 =>
    wI .i64 c30 fun y32 =>
    wn l31 <|
    wn l24 <|
    (ob (F87 fuel y6 y10 y17 y21 y28 y32) fun t => K [.v (.b t)])
  nat := fun args {ρ} K => by
    simp only [bind_wc, bind_wn, bind_wv, bind_wagg, bind_wI, bind_wB, bind_wS, bind_wL, bind_wP, bind_wFn, bind_ob, Option.bind_some]

theorem d87 {P : Program} (fuel : Nat) (hmix : P.follows .mixedOrders = true) (hC : Sound P (C5 fuel)) (hF : FFits P 87 A87) (args res : List A) (h : (O87 fuel).o args some = some res) : Den P 87 args res := by
  obtain ⟨a1, l2, rfl, z0⟩ := inv_wc h
  obtain ⟨l3, rfl, z1⟩ := inv_wagg z0
  obtain ⟨c4, l5, rfl, z2⟩ := inv_wc z1
  obtain ⟨y6, h7, z3⟩ := inv_wI z2
  obtain ⟨c8, l9, rfl, z4⟩ := inv_wc z3
  obtain ⟨y10, h11, z5⟩ := inv_wI z4
  obtain ⟨hn, z6⟩ := inv_wn z5
  cases hn
  obtain ⟨a12, l13, rfl, z7⟩ := inv_wc z6
  obtain ⟨l14, rfl, z8⟩ := inv_wagg z7
  obtain ⟨c15, l16, rfl, z9⟩ := inv_wc z8
  obtain ⟨y17, h18, z10⟩ := inv_wI z9
  obtain ⟨c19, l20, rfl, z11⟩ := inv_wc z10
  obtain ⟨y21, h22, z12⟩ := inv_wI z11
  obtain ⟨hn, z13⟩ := inv_wn z12
  cases hn
  obtain ⟨a23, l24, rfl, z14⟩ := inv_wc z13
  obtain ⟨l25, rfl, z15⟩ := inv_wagg z14
  obtain ⟨c26, l27, rfl, z16⟩ := inv_wc z15
  obtain ⟨y28, h29, z17⟩ := inv_wI z16
  obtain ⟨c30, l31, rfl, z18⟩ := inv_wc z17
  obtain ⟨y32, h33, z19⟩ := inv_wI z18
  obtain ⟨hn, z20⟩ := inv_wn z19
  cases hn
  obtain ⟨hn, z21⟩ := inv_wn z20
  cases hn
  exact Den.weaken (.cons (WkA.agg (.cons (Wk.i h7) (.cons (Wk.i h11) .nil))) (.cons (WkA.agg (.cons (Wk.i h18) (.cons (Wk.i h22) .nil))) (.cons (WkA.agg (.cons (Wk.i h29) (.cons (Wk.i h33) .nil))) .nil))) (evalF_sound hmix hC hF ((e87 fuel y6 y10 y17 y21 y28 y32).trans z21))

def C6 (fuel : Nat) : Oracle := (C5 fuel).add 87 (fun _ => true) (O87 fuel)

/-- shipyard/poly.on -/
def A81 : AF := ⟨18, [.tmp 6],
  (.seq (.region 0 [
  ⟨(some 3), .box 0 34 (.tmp 0), none⟩,
  ⟨(some 4), .box 1 34 (.tmp 1), none⟩,
  ⟨(some 5), .box 2 34 (.tmp 2), none⟩,
  ⟨(some 6), .assign (.const (.bool false)), none⟩] 3 none) []
  (.seq (.region 1 [
  ⟨(some 7), .load 34 (some 2) (.tmp 3), none⟩,
  ⟨(some 8), .load 34 (some 2) (.tmp 4), none⟩,
  ⟨(some 9), .load 34 (some 2) (.tmp 5), none⟩,
  ⟨(some 10), .call 79 [(.tmp 7), (.tmp 8), (.tmp 9)] [34, 34, 34] .snap, none⟩,
  ⟨(some 11), .binOp .eql 3 (.tmp 10) (.const (.int .i64 0)) 3, none⟩,
  ⟨(some 12), .move (.tmp 11), none⟩,
  ⟨(some 13), .load 34 (some 2) (.tmp 3), (some (12, true))⟩,
  ⟨(some 14), .load 34 (some 2) (.tmp 4), (some (12, true))⟩,
  ⟨(some 15), .load 34 (some 2) (.tmp 5), (some (12, true))⟩,
  ⟨(some 16), .call 87 [(.tmp 13), (.tmp 14), (.tmp 15)] [34, 34, 34] .snap, (some (12, true))⟩,
  ⟨(some 17), .pick (.tmp 12) (.tmp 16) (.const (.bool false)), none⟩,
  ⟨(some 6), .assign (.tmp 17), none⟩] 0 none) []
  (.ret [0, 1, 2, 3, 4, 5, 7, 8, 9, 10, 11, 12, 13, 14, 15, 16, 17])))⟩

def D81 {ρ : Type} (fuel : Nat) (x1 : Int) (x2 : Int) (x3 : Int) (x4 : Int) (x5 : Int) (x6 : Int) (k : Bool → Option ρ) : Option ρ :=
  (ob (F79 fuel x1 x2 x3 x4 x5 x6) fun x7 => (bif ((x7 == 0) == true) then (ob (F87 fuel x1 x2 x3 x4 x5 x6) fun x8 => (k x8)) else (k false)))

def F81 (fuel : Nat) (x1 : Int) (x2 : Int) (x3 : Int) (x4 : Int) (x5 : Int) (x6 : Int) : Option (Bool) := D81 fuel x1 x2 x3 x4 x5 x6 some

theorem n81 {ρ σ : Type} (fuel : Nat) (x1 : Int) (x2 : Int) (x3 : Int) (x4 : Int) (x5 : Int) (x6 : Int) (k : (Bool) → Option ρ) (g : ρ → Option σ) : ob (D81 fuel x1 x2 x3 x4 x5 x6 k) g = D81 fuel x1 x2 x3 x4 x5 x6 fun t => ob (k t) g := by
  simp only [D81, ob_bif, ob_ob, ob_none]

theorem f81 {ρ : Type} (fuel : Nat) (x1 : Int) (x2 : Int) (x3 : Int) (x4 : Int) (x5 : Int) (x6 : Int) (k : (Bool) → Option ρ) : D81 fuel x1 x2 x3 x4 x5 x6 k = ob (F81 fuel x1 x2 x3 x4 x5 x6) k := by
  unfold F81
  rw [n81]
  simp only [ob_some]

theorem walk81 (fuel : Nat) (x1 : Int) (x2 : Int) (x3 : Int) (x4 : Int) (x5 : Int) (x6 : Int) :
    evalF (C6 fuel) fuel A81 [.agg [(.i .i64 x1), (.i .i64 x2)], .agg [(.i .i64 x3), (.i .i64 x4)], .agg [(.i .i64 x5), (.i .i64 x6)]] =
    (ob (F79 fuel x1 x2 x3 x4 x5 x6) fun x7 => (bif ((x7 == 0) == true) then (ob (F87 fuel x1 x2 x3 x4 x5 x6) fun x8 => (some [.v (.b x8)])) else (some [.v (.b false)]))) := by kernel_rfl

theorem e81 (fuel : Nat) (x1 : Int) (x2 : Int) (x3 : Int) (x4 : Int) (x5 : Int) (x6 : Int) : evalF (C6 fuel) fuel A81 [.agg [(.i .i64 x1), (.i .i64 x2)], .agg [(.i .i64 x3), (.i .i64 x4)], .agg [(.i .i64 x5), (.i .i64 x6)]] = ob (F81 fuel x1 x2 x3 x4 x5 x6) fun t => some [.v (.b t)] := by
  rw [walk81, ← f81]
  simp only [D81]

def O81 (fuel : Nat) : Ora where
  o := fun args {ρ} K =>
    wc args fun a1 l2 =>
    wagg a1 fun l3 =>
    wc l3 fun c4 l5 =>
    wI .i64 c4 fun y6 =>
    wc l5 fun c8 l9 =>
    wI .i64 c8 fun y10 =>
    wn l9 <|
    wc l2 fun a12 l13 =>
    wagg a12 fun l14 =>
    wc l14 fun c15 l16 =>
    wI .i64 c15 fun y17 =>
    wc l16 fun c19 l20 =>
    wI .i64 c19 fun y21 =>
    wn l20 <|
    wc l13 fun a23 l24 =>
    wagg a23 fun l25 =>
    wc l25 fun c26 l27 =>
    wI .i64 c26 fun y28 =>
    wc l27 fun c30 l31 =>
    wI .i64 c30 fun y32 =>
    wn l31 <|
    wn l24 <|
    (ob (F81 fuel y6 y10 y17 y21 y28 y32) fun t => K [.v (.b t)])
  nat := fun args {ρ} K => by
    simp only [bind_wc, bind_wn, bind_wv, bind_wagg, bind_wI, bind_wB, bind_wS, bind_wL, bind_wP, bind_wFn, bind_ob, Option.bind_some]

theorem d81 {P : Program} (fuel : Nat) (hmix : P.follows .mixedOrders = true) (hC : Sound P (C6 fuel)) (hF : FFits P 81 A81) (args res : List A) (h : (O81 fuel).o args some = some res) : Den P 81 args res := by
  obtain ⟨a1, l2, rfl, z0⟩ := inv_wc h
  obtain ⟨l3, rfl, z1⟩ := inv_wagg z0
  obtain ⟨c4, l5, rfl, z2⟩ := inv_wc z1
  obtain ⟨y6, h7, z3⟩ := inv_wI z2
  obtain ⟨c8, l9, rfl, z4⟩ := inv_wc z3
  obtain ⟨y10, h11, z5⟩ := inv_wI z4
  obtain ⟨hn, z6⟩ := inv_wn z5
  cases hn
  obtain ⟨a12, l13, rfl, z7⟩ := inv_wc z6
  obtain ⟨l14, rfl, z8⟩ := inv_wagg z7
  obtain ⟨c15, l16, rfl, z9⟩ := inv_wc z8
  obtain ⟨y17, h18, z10⟩ := inv_wI z9
  obtain ⟨c19, l20, rfl, z11⟩ := inv_wc z10
  obtain ⟨y21, h22, z12⟩ := inv_wI z11
  obtain ⟨hn, z13⟩ := inv_wn z12
  cases hn
  obtain ⟨a23, l24, rfl, z14⟩ := inv_wc z13
  obtain ⟨l25, rfl, z15⟩ := inv_wagg z14
  obtain ⟨c26, l27, rfl, z16⟩ := inv_wc z15
  obtain ⟨y28, h29, z17⟩ := inv_wI z16
  obtain ⟨c30, l31, rfl, z18⟩ := inv_wc z17
  obtain ⟨y32, h33, z19⟩ := inv_wI z18
  obtain ⟨hn, z20⟩ := inv_wn z19
  cases hn
  obtain ⟨hn, z21⟩ := inv_wn z20
  cases hn
  exact Den.weaken (.cons (WkA.agg (.cons (Wk.i h7) (.cons (Wk.i h11) .nil))) (.cons (WkA.agg (.cons (Wk.i h18) (.cons (Wk.i h22) .nil))) (.cons (WkA.agg (.cons (Wk.i h29) (.cons (Wk.i h33) .nil))) .nil))) (evalF_sound hmix hC hF ((e81 fuel y6 y10 y17 y21 y28 y32).trans z21))

def C7 (fuel : Nat) : Oracle := (C6 fuel).add 81 (fun _ => true) (O81 fuel)

/-- cmp.isNaN[int] -/
def A90 : AF := ⟨6, [.tmp 2],
  (.seq (.region 0 [
  ⟨(some 2), .assign (.const (.bool false)), none⟩] 0 none) []
  (.seq (.region 1 [
  ⟨(some 3), .move (.tmp 0), none⟩,
  ⟨(some 4), .move (.tmp 0), none⟩,
  ⟨(some 5), .binOp .neq 3 (.tmp 3) (.tmp 4) 3, none⟩,
  ⟨(some 2), .assign (.tmp 5), none⟩] 0 none) []
  (.ret [0, 1, 3, 4, 5])))⟩

def D90 {ρ : Type} (fuel : Nat) (x1 : Int) (k : Bool → Option ρ) : Option ρ :=
  (k (x1 != x1))

def F90 (fuel : Nat) (x1 : Int) : Option (Bool) := D90 fuel x1 some

theorem n90 {ρ σ : Type} (fuel : Nat) (x1 : Int) (k : (Bool) → Option ρ) (g : ρ → Option σ) : ob (D90 fuel x1 k) g = D90 fuel x1 fun t => ob (k t) g := by
  simp only [D90, ob_bif, ob_ob, ob_none]

theorem f90 {ρ : Type} (fuel : Nat) (x1 : Int) (k : (Bool) → Option ρ) : D90 fuel x1 k = ob (F90 fuel x1) k := by
  unfold F90
  rw [n90]
  simp only [ob_some]

theorem walk90 (fuel : Nat) (x1 : Int) :
    evalF (C7 fuel) fuel A90 [.v (.i .i64 x1)] =
    (some [.v (.b (x1 != x1))]) := by kernel_rfl

theorem e90 (fuel : Nat) (x1 : Int) : evalF (C7 fuel) fuel A90 [.v (.i .i64 x1)] = ob (F90 fuel x1) fun t => some [.v (.b t)] := by
  rw [walk90, ← f90]
  simp only [D90]

def O90 (fuel : Nat) : Ora where
  o := fun args {ρ} K =>
    wc args fun a1 l2 =>
    wv a1 fun c3 =>
    wI .i64 c3 fun y4 =>
    wn l2 <|
    (ob (F90 fuel y4) fun t => K [.v (.b t)])
  nat := fun args {ρ} K => by
    simp only [bind_wc, bind_wn, bind_wv, bind_wagg, bind_wI, bind_wB, bind_wS, bind_wL, bind_wP, bind_wFn, bind_ob, Option.bind_some]

theorem d90 {P : Program} (fuel : Nat) (hmix : P.follows .mixedOrders = true) (hC : Sound P (C7 fuel)) (hF : FFits P 90 A90) (args res : List A) (h : (O90 fuel).o args some = some res) : Den P 90 args res := by
  obtain ⟨a1, l2, rfl, z0⟩ := inv_wc h
  obtain ⟨c3, rfl, z1⟩ := inv_wv z0
  obtain ⟨y4, h5, z2⟩ := inv_wI z1
  obtain ⟨hn, z3⟩ := inv_wn z2
  cases hn
  exact Den.weaken (.cons (WkA.v (Wk.i h5)) .nil) (evalF_sound hmix hC hF ((e90 fuel y4).trans z3))

def C8 (fuel : Nat) : Oracle := (C7 fuel).add 90 (fun _ => true) (O90 fuel)

/-- cmp.Compare[int] -/
def A89v1 : AC := (.seq (.region 6 [
  ⟨(some 4), .assign (.const (.int .i64 (-1))), none⟩] 0 none) []
  (.ret [0, 1, 2, 3, 5, 6, 7, 8, 9, 10, 11, 12, 13, 14, 15, 16, 17, 18, 19]))
def A89v2 : AC := (.seq (.region 13 [
  ⟨(some 4), .assign (.const (.int .i64 0)), none⟩] 0 none) []
  (.ret [0, 1, 2, 3, 5, 6, 7, 8, 9, 10, 11, 12, 13, 14, 15, 16, 17, 18, 19]))
def A89v3 : AC := (.seq (.seq (.region 11 [
  ⟨(some 17), .move (.tmp 0), none⟩,
  ⟨(some 18), .move (.tmp 1), none⟩,
  ⟨(some 19), .binOp .gtr 3 (.tmp 17) (.tmp 18) 3, none⟩] 0 none) []
  (.cond (.tmp 19)
  (.seq (.region 12 [
    ⟨(some 4), .assign (.const (.int .i64 1)), none⟩] 0 none) []
    (.ret [0, 1, 2, 3, 5, 6, 7, 8, 9, 10, 11, 12, 13, 14, 15, 16, 17, 18, 19]))
  .skip)) [4, 17, 18, 19]
  A89v2)
def A89v4 : AC := (.seq (.seq (.region 9 [
  ⟨(some 14), .move (.tmp 0), none⟩,
  ⟨(some 15), .move (.tmp 1), none⟩,
  ⟨(some 16), .binOp .lss 3 (.tmp 14) (.tmp 15) 3, none⟩] 0 none) []
  (.cond (.tmp 16)
  (.seq (.region 10 [
    ⟨(some 4), .assign (.const (.int .i64 (-1))), none⟩] 0 none) []
    (.ret [0, 1, 2, 3, 5, 6, 7, 8, 9, 10, 11, 12, 13, 14, 15, 16, 17, 18, 19]))
  .skip)) [4, 14, 15, 16]
  A89v3)
def A89v5 : AC := (.seq (.seq (.region 7 [
  ⟨(some 13), .move (.tmp 6), none⟩] 0 none) []
  (.cond (.tmp 13)
  (.seq (.region 8 [
    ⟨(some 4), .assign (.const (.int .i64 1)), none⟩] 0 none) []
    (.ret [0, 1, 2, 3, 5, 6, 7, 8, 9, 10, 11, 12, 13, 14, 15, 16, 17, 18, 19]))
  .skip)) [4, 13]
  A89v4)
def A89 : AF := ⟨20, [.tmp 4],
  (.seq (.region 0 [
  ⟨(some 4), .assign (.const (.int .i64 0)), none⟩] 0 none) []
  (.seq (.region 1 [
  ⟨(some 7), .move (.tmp 0), none⟩,
  ⟨(some 8), .call 90 [(.tmp 7)] [3] .snap, none⟩,
  ⟨(some 5), .assign (.tmp 8), none⟩] 0 none) []
  (.seq (.region 2 [
  ⟨(some 9), .move (.tmp 1), none⟩,
  ⟨(some 10), .call 90 [(.tmp 9)] [3] .snap, none⟩,
  ⟨(some 6), .assign (.tmp 10), none⟩] 0 none) []
  (.seq (.seq (.region 3 [
  ⟨(some 11), .move (.tmp 5), none⟩] 0 none) []
  (.cond (.tmp 11)
  (.seq (.seq (.region 4 [
    ⟨(some 12), .move (.tmp 6), none⟩] 0 none) []
    (.cond (.tmp 12)
    (.seq (.region 5 [
      ⟨(some 4), .assign (.const (.int .i64 0)), none⟩] 0 none) []
      (.ret [0, 1, 2, 3, 5, 6, 7, 8, 9, 10, 11, 12, 13, 14, 15, 16, 17, 18, 19]))
    .skip)) [4, 12]
    A89v1)
  .skip)) [4, 11, 12]
  A89v5))))⟩

def D89 {ρ : Type} (fuel : Nat) (x1 : Int) (x2 : Int) (k : Int → Option ρ) : Option ρ :=
  (ob (F90 fuel x1) fun x3 => (ob (F90 fuel x2) fun x4 => (bif x3 then (bif x4 then (k 0) else (k (-1))) else (bif x4 then (k 1) else (bif (decide (x1 < x2)) then (k (-1)) else (bif (decide (x1 > x2)) then (k 1) else (k 0)))))))

def F89 (fuel : Nat) (x1 : Int) (x2 : Int) : Option (Int) := D89 fuel x1 x2 some

theorem n89 {ρ σ : Type} (fuel : Nat) (x1 : Int) (x2 : Int) (k : (Int) → Option ρ) (g : ρ → Option σ) : ob (D89 fuel x1 x2 k) g = D89 fuel x1 x2 fun t => ob (k t) g := by
  simp only [D89, ob_bif, ob_ob, ob_none]

theorem f89 {ρ : Type} (fuel : Nat) (x1 : Int) (x2 : Int) (k : (Int) → Option ρ) : D89 fuel x1 x2 k = ob (F89 fuel x1 x2) k := by
  unfold F89
  rw [n89]
  simp only [ob_some]

theorem walk89 (fuel : Nat) (x1 : Int) (x2 : Int) :
    evalF (C8 fuel) fuel A89 [.v (.i .i64 x1), .v (.i .i64 x2)] =
    (ob (F90 fuel x1) fun x3 => (ob (F90 fuel x2) fun x4 => (bif x3 then (bif x4 then (some [.v (.i .i64 0)]) else (some [.v (.i .i64 (-1))])) else (bif x4 then (some [.v (.i .i64 1)]) else (bif (decide (x1 < x2)) then (some [.v (.i .i64 (-1))]) else (bif (decide (x1 > x2)) then (some [.v (.i .i64 1)]) else (some [.v (.i .i64 0)]))))))) := by kernel_rfl

theorem e89 (fuel : Nat) (x1 : Int) (x2 : Int) : evalF (C8 fuel) fuel A89 [.v (.i .i64 x1), .v (.i .i64 x2)] = ob (F89 fuel x1 x2) fun t => some [.v (.i .i64 t)] := by
  rw [walk89, ← f89]
  simp only [D89]

def O89 (fuel : Nat) : Ora where
  o := fun args {ρ} K =>
    wc args fun a1 l2 =>
    wv a1 fun c3 =>
    wI .i64 c3 fun y4 =>
    wc l2 fun a6 l7 =>
    wv a6 fun c8 =>
    wI .i64 c8 fun y9 =>
    wn l7 <|
    (ob (F89 fuel y4 y9) fun t => K [.v (.i .i64 t)])
  nat := fun args {ρ} K => by
    simp only [bind_wc, bind_wn, bind_wv, bind_wagg, bind_wI, bind_wB, bind_wS, bind_wL, bind_wP, bind_wFn, bind_ob, Option.bind_some]

theorem d89 {P : Program} (fuel : Nat) (hmix : P.follows .mixedOrders = true) (hC : Sound P (C8 fuel)) (hF : FFits P 89 A89) (args res : List A) (h : (O89 fuel).o args some = some res) : Den P 89 args res := by
  obtain ⟨a1, l2, rfl, z0⟩ := inv_wc h
  obtain ⟨c3, rfl, z1⟩ := inv_wv z0
  obtain ⟨y4, h5, z2⟩ := inv_wI z1
  obtain ⟨a6, l7, rfl, z3⟩ := inv_wc z2
  obtain ⟨c8, rfl, z4⟩ := inv_wv z3
  obtain ⟨y9, h10, z5⟩ := inv_wI z4
  obtain ⟨hn, z6⟩ := inv_wn z5
  cases hn
  exact Den.weaken (.cons (WkA.v (Wk.i h5)) (.cons (WkA.v (Wk.i h10)) .nil)) (evalF_sound hmix hC hF ((e89 fuel y4 y9).trans z6))

def C9 (fuel : Nat) : Oracle := (C8 fuel).add 89 (fun _ => true) (O89 fuel)

/-- shipyard/poly.sign -/
def A86 : AF := ⟨5, [.tmp 2],
  (.seq (.region 0 [
  ⟨(some 2), .assign (.const (.int .i64 0)), none⟩] 0 none) []
  (.seq (.region 1 [
  ⟨(some 3), .move (.tmp 0), none⟩,
  ⟨(some 4), .call 89 [(.tmp 3), (.const (.int .i64 0))] [3, 3] .snap, none⟩,
  ⟨(some 2), .assign (.tmp 4), none⟩] 0 none) []
  (.ret [0, 1, 3, 4])))⟩

def D86 {ρ : Type} (fuel : Nat) (x1 : Int) (k : Int → Option ρ) : Option ρ :=
  (ob (F89 fuel x1 0) fun x2 => (k x2))

def F86 (fuel : Nat) (x1 : Int) : Option (Int) := D86 fuel x1 some

theorem n86 {ρ σ : Type} (fuel : Nat) (x1 : Int) (k : (Int) → Option ρ) (g : ρ → Option σ) : ob (D86 fuel x1 k) g = D86 fuel x1 fun t => ob (k t) g := by
  simp only [D86, ob_bif, ob_ob, ob_none]

theorem f86 {ρ : Type} (fuel : Nat) (x1 : Int) (k : (Int) → Option ρ) : D86 fuel x1 k = ob (F86 fuel x1) k := by
  unfold F86
  rw [n86]
  simp only [ob_some]

theorem walk86 (fuel : Nat) (x1 : Int) :
    evalF (C9 fuel) fuel A86 [.v (.i .i64 x1)] =
    (ob (F89 fuel x1 0) fun x2 => (some [.v (.i .i64 x2)])) := by kernel_rfl

theorem e86 (fuel : Nat) (x1 : Int) : evalF (C9 fuel) fuel A86 [.v (.i .i64 x1)] = ob (F86 fuel x1) fun t => some [.v (.i .i64 t)] := by
  rw [walk86, ← f86]
  simp only [D86]

def O86 (fuel : Nat) : Ora where
  o := fun args {ρ} K =>
    wc args fun a1 l2 =>
    wv a1 fun c3 =>
    wI .i64 c3 fun y4 =>
    wn l2 <|
    (ob (F86 fuel y4) fun t => K [.v (.i .i64 t)])
  nat := fun args {ρ} K => by
    simp only [bind_wc, bind_wn, bind_wv, bind_wagg, bind_wI, bind_wB, bind_wS, bind_wL, bind_wP, bind_wFn, bind_ob, Option.bind_some]

theorem d86 {P : Program} (fuel : Nat) (hmix : P.follows .mixedOrders = true) (hC : Sound P (C9 fuel)) (hF : FFits P 86 A86) (args res : List A) (h : (O86 fuel).o args some = some res) : Den P 86 args res := by
  obtain ⟨a1, l2, rfl, z0⟩ := inv_wc h
  obtain ⟨c3, rfl, z1⟩ := inv_wv z0
  obtain ⟨y4, h5, z2⟩ := inv_wI z1
  obtain ⟨hn, z3⟩ := inv_wn z2
  cases hn
  exact Den.weaken (.cons (WkA.v (Wk.i h5)) .nil) (evalF_sound hmix hC hF ((e86 fuel y4).trans z3))

def C10 (fuel : Nat) : Oracle := (C9 fuel).add 86 (fun _ => true) (O86 fuel)

/-- shipyard/poly.meet -/
def A80v1 : AC := (.seq (.region 3 [
  ⟨(some 31), .load 34 (some 2) (.tmp 4), none⟩,
  ⟨(some 32), .load 34 (some 2) (.tmp 5), none⟩,
  ⟨(some 33), .load 34 (some 2) (.tmp 6), none⟩,
  ⟨(some 34), .call 79 [(.tmp 31), (.tmp 32), (.tmp 33)] [34, 34, 34] .snap, none⟩,
  ⟨(some 35), .call 86 [(.tmp 34)] [3] .snap, none⟩,
  ⟨(some 36), .load 34 (some 2) (.tmp 4), none⟩,
  ⟨(some 37), .load 34 (some 2) (.tmp 5), none⟩,
  ⟨(some 38), .load 34 (some 2) (.tmp 7), none⟩,
  ⟨(some 39), .call 79 [(.tmp 36), (.tmp 37), (.tmp 38)] [34, 34, 34] .snap, none⟩,
  ⟨(some 40), .call 86 [(.tmp 39)] [3] .snap, none⟩,
  ⟨(some 41), .binOp .mul 3 (.tmp 35) (.tmp 40) 3, none⟩,
  ⟨(some 42), .binOp .lss 3 (.tmp 41) (.const (.int .i64 0)) 3, none⟩,
  ⟨(some 43), .move (.tmp 42), none⟩,
  ⟨(some 44), .load 34 (some 2) (.tmp 6), (some (43, true))⟩,
  ⟨(some 45), .load 34 (some 2) (.tmp 7), (some (43, true))⟩,
  ⟨(some 46), .load 34 (some 2) (.tmp 4), (some (43, true))⟩,
  ⟨(some 47), .call 79 [(.tmp 44), (.tmp 45), (.tmp 46)] [34, 34, 34] .snap, (some (43, true))⟩,
  ⟨(some 48), .call 86 [(.tmp 47)] [3] .snap, (some (43, true))⟩,
  ⟨(some 49), .load 34 (some 2) (.tmp 6), (some (43, true))⟩,
  ⟨(some 50), .load 34 (some 2) (.tmp 7), (some (43, true))⟩,
  ⟨(some 51), .load 34 (some 2) (.tmp 5), (some (43, true))⟩,
  ⟨(some 52), .call 79 [(.tmp 49), (.tmp 50), (.tmp 51)] [34, 34, 34] .snap, (some (43, true))⟩,
  ⟨(some 53), .call 86 [(.tmp 52)] [3] .snap, (some (43, true))⟩,
  ⟨(some 54), .binOp .mul 3 (.tmp 48) (.tmp 53) 3, (some (43, true))⟩,
  ⟨(some 55), .binOp .lss 3 (.tmp 54) (.const (.int .i64 0)) 3, (some (43, true))⟩,
  ⟨(some 56), .pick (.tmp 43) (.tmp 55) (.const (.bool false)), none⟩,
  ⟨(some 8), .assign (.tmp 56), none⟩] 0 (some [[], [], [], [0, 1, 2], [0, 1, 2, 3], [], [], [], [0, 1, 2, 3, 4, 5, 6, 7], [0, 1, 2, 3, 4, 5, 6, 7, 8], [0, 1, 2, 3, 4, 5, 6, 7, 8, 9], [0, 1, 2, 3, 4, 5, 6, 7, 8, 9, 10], [0, 1, 2, 3, 4, 5, 6, 7, 8, 9, 10, 11], [0, 1, 2, 3, 4, 5, 6, 7, 8, 9, 10, 11, 12], [0, 1, 2, 3, 4, 5, 6, 7, 8, 9, 10, 11, 12], [0, 1, 2, 3, 4, 5, 6, 7, 8, 9, 10, 11, 12], [0, 1, 2, 3, 4, 5, 6, 7, 8, 9, 10, 11, 12, 13, 14, 15], [0, 1, 2, 3, 4, 5, 6, 7, 8, 9, 10, 11, 12, 13, 14, 15, 16], [0, 1, 2, 3, 4, 5, 6, 7, 8, 9, 10, 11, 12], [0, 1, 2, 3, 4, 5, 6, 7, 8, 9, 10, 11, 12], [0, 1, 2, 3, 4, 5, 6, 7, 8, 9, 10, 11, 12], [0, 1, 2, 3, 4, 5, 6, 7, 8, 9, 10, 11, 12, 13, 14, 15, 16, 17, 18, 19, 20], [0, 1, 2, 3, 4, 5, 6, 7, 8, 9, 10, 11, 12, 13, 14, 15, 16, 17, 18, 19, 20, 21], [0, 1, 2, 3, 4, 5, 6, 7, 8, 9, 10, 11, 12, 13, 14, 15, 16, 17, 18, 19, 20, 21, 22], [0, 1, 2, 3, 4, 5, 6, 7, 8, 9, 10, 11, 12, 13, 14, 15, 16, 17, 18, 19, 20, 21, 22, 23], [0, 1, 2, 3, 4, 5, 6, 7, 8, 9, 10, 11, 12, 13, 14, 15, 16, 17, 18, 19, 20, 21, 22, 23, 24], [0, 1, 2, 3, 4, 5, 6, 7, 8, 9, 10, 11, 12, 13, 14, 15, 16, 17, 18, 19, 20, 21, 22, 23, 24, 25]])) []
  (.ret [0, 1, 2, 3, 4, 5, 6, 7, 9, 10, 11, 12, 13, 14, 15, 16, 17, 18, 19, 20, 21, 22, 23, 24, 25, 26, 27, 28, 29, 30, 31, 32, 33, 34, 35, 36, 37, 38, 39, 40, 41, 42, 43, 44, 45, 46, 47, 48, 49, 50, 51, 52, 53, 54, 55, 56]))
def A80 : AF := ⟨57, [.tmp 8],
  (.seq (.region 0 [
  ⟨(some 4), .box 0 34 (.tmp 0), none⟩,
  ⟨(some 5), .box 1 34 (.tmp 1), none⟩,
  ⟨(some 6), .box 2 34 (.tmp 2), none⟩,
  ⟨(some 7), .box 3 34 (.tmp 3), none⟩,
  ⟨(some 8), .assign (.const (.bool false)), none⟩] 4 none) []
  (.seq (.seq (.region 1 [
  ⟨(some 9), .load 34 (some 2) (.tmp 4), none⟩,
  ⟨(some 10), .load 34 (some 2) (.tmp 5), none⟩,
  ⟨(some 11), .load 34 (some 2) (.tmp 6), none⟩,
  ⟨(some 12), .call 81 [(.tmp 9), (.tmp 10), (.tmp 11)] [34, 34, 34] .snap, none⟩,
  ⟨(some 13), .move (.tmp 12), none⟩,
  ⟨(some 14), .load 34 (some 2) (.tmp 4), (some (13, false))⟩,
  ⟨(some 15), .load 34 (some 2) (.tmp 5), (some (13, false))⟩,
  ⟨(some 16), .load 34 (some 2) (.tmp 7), (some (13, false))⟩,
  ⟨(some 17), .call 81 [(.tmp 14), (.tmp 15), (.tmp 16)] [34, 34, 34] .snap, (some (13, false))⟩,
  ⟨(some 18), .pick (.tmp 13) (.const (.bool true)) (.tmp 17), none⟩,
  ⟨(some 19), .move (.tmp 18), none⟩,
  ⟨(some 20), .load 34 (some 2) (.tmp 6), (some (19, false))⟩,
  ⟨(some 21), .load 34 (some 2) (.tmp 7), (some (19, false))⟩,
  ⟨(some 22), .load 34 (some 2) (.tmp 4), (some (19, false))⟩,
  ⟨(some 23), .call 81 [(.tmp 20), (.tmp 21), (.tmp 22)] [34, 34, 34] .snap, (some (19, false))⟩,
  ⟨(some 24), .pick (.tmp 19) (.const (.bool true)) (.tmp 23), none⟩,
  ⟨(some 25), .move (.tmp 24), none⟩,
  ⟨(some 26), .load 34 (some 2) (.tmp 6), (some (25, false))⟩,
  ⟨(some 27), .load 34 (some 2) (.tmp 7), (some (25, false))⟩,
  ⟨(some 28), .load 34 (some 2) (.tmp 5), (some (25, false))⟩,
  ⟨(some 29), .call 81 [(.tmp 26), (.tmp 27), (.tmp 28)] [34, 34, 34] .snap, (some (25, false))⟩,
  ⟨(some 30), .pick (.tmp 25) (.const (.bool true)) (.tmp 29), none⟩] 0 none) []
  (.cond (.tmp 30)
  (.seq (.region 2 [
    ⟨(some 8), .assign (.const (.bool true)), none⟩] 0 none) []
    (.ret [0, 1, 2, 3, 4, 5, 6, 7, 9, 10, 11, 12, 13, 14, 15, 16, 17, 18, 19, 20, 21, 22, 23, 24, 25, 26, 27, 28, 29, 30, 31, 32, 33, 34, 35, 36, 37, 38, 39, 40, 41, 42, 43, 44, 45, 46, 47, 48, 49, 50, 51, 52, 53, 54, 55, 56]))
  .skip)) [8, 9, 10, 11, 12, 13, 14, 15, 16, 17, 18, 19, 20, 21, 22, 23, 24, 25, 26, 27, 28, 29, 30]
  A80v1))⟩

def D80 {ρ : Type} (fuel : Nat) (x1 : Int) (x2 : Int) (x3 : Int) (x4 : Int) (x5 : Int) (x6 : Int) (x7 : Int) (x8 : Int) (k : Bool → Option ρ) : Option ρ :=
  (ob (F81 fuel x1 x2 x3 x4 x5 x6) fun x9 => (bif (x9 == false) then (ob (F81 fuel x1 x2 x3 x4 x7 x8) fun x10 => (bif (x10 == false) then (ob (F81 fuel x5 x6 x7 x8 x1 x2) fun x11 => (bif (x11 == false) then (ob (F81 fuel x5 x6 x7 x8 x3 x4) fun x12 => (bif x12 then (k true) else (ob (F79 fuel x1 x2 x3 x4 x5 x6) fun x13 => (ob (F86 fuel x13) fun x14 => (ob (F79 fuel x1 x2 x3 x4 x7 x8) fun x15 => (ob (F86 fuel x15) fun x16 => (bif ((decide ((w64 (x14 * x16)) < 0)) == true) then (ob (F79 fuel x5 x6 x7 x8 x1 x2) fun x17 => (ob (F86 fuel x17) fun x18 => (ob (F79 fuel x5 x6 x7 x8 x3 x4) fun x19 => (ob (F86 fuel x19) fun x20 => (k (decide ((w64 (x18 * x20)) < 0))))))) else (k false)))))))) else (k true))) else (k true))) else (k true)))

def F80 (fuel : Nat) (x1 : Int) (x2 : Int) (x3 : Int) (x4 : Int) (x5 : Int) (x6 : Int) (x7 : Int) (x8 : Int) : Option (Bool) := D80 fuel x1 x2 x3 x4 x5 x6 x7 x8 some

theorem n80 {ρ σ : Type} (fuel : Nat) (x1 : Int) (x2 : Int) (x3 : Int) (x4 : Int) (x5 : Int) (x6 : Int) (x7 : Int) (x8 : Int) (k : (Bool) → Option ρ) (g : ρ → Option σ) : ob (D80 fuel x1 x2 x3 x4 x5 x6 x7 x8 k) g = D80 fuel x1 x2 x3 x4 x5 x6 x7 x8 fun t => ob (k t) g := by
  simp only [D80, ob_bif, ob_ob, ob_none]

theorem f80 {ρ : Type} (fuel : Nat) (x1 : Int) (x2 : Int) (x3 : Int) (x4 : Int) (x5 : Int) (x6 : Int) (x7 : Int) (x8 : Int) (k : (Bool) → Option ρ) : D80 fuel x1 x2 x3 x4 x5 x6 x7 x8 k = ob (F80 fuel x1 x2 x3 x4 x5 x6 x7 x8) k := by
  unfold F80
  rw [n80]
  simp only [ob_some]

theorem walk80 (fuel : Nat) (x1 : Int) (x2 : Int) (x3 : Int) (x4 : Int) (x5 : Int) (x6 : Int) (x7 : Int) (x8 : Int) :
    evalF (C10 fuel) fuel A80 [.agg [(.i .i64 x1), (.i .i64 x2)], .agg [(.i .i64 x3), (.i .i64 x4)], .agg [(.i .i64 x5), (.i .i64 x6)], .agg [(.i .i64 x7), (.i .i64 x8)]] =
    (ob (F81 fuel x1 x2 x3 x4 x5 x6) fun x9 => (bif (x9 == false) then (ob (F81 fuel x1 x2 x3 x4 x7 x8) fun x10 => (bif (x10 == false) then (ob (F81 fuel x5 x6 x7 x8 x1 x2) fun x11 => (bif (x11 == false) then (ob (F81 fuel x5 x6 x7 x8 x3 x4) fun x12 => (bif x12 then (some [.v (.b true)]) else (ob (F79 fuel x1 x2 x3 x4 x5 x6) fun x13 => (ob (F86 fuel x13) fun x14 => (ob (F79 fuel x1 x2 x3 x4 x7 x8) fun x15 => (ob (F86 fuel x15) fun x16 => (bif ((decide ((w64 (x14 * x16)) < 0)) == true) then (ob (F79 fuel x5 x6 x7 x8 x1 x2) fun x17 => (ob (F86 fuel x17) fun x18 => (ob (F79 fuel x5 x6 x7 x8 x3 x4) fun x19 => (ob (F86 fuel x19) fun x20 => (some [.v (.b (decide ((w64 (x18 * x20)) < 0)))]))))) else (some [.v (.b false)])))))))) else (some [.v (.b true)]))) else (some [.v (.b true)]))) else (some [.v (.b true)]))) := by kernel_rfl

theorem e80 (fuel : Nat) (x1 : Int) (x2 : Int) (x3 : Int) (x4 : Int) (x5 : Int) (x6 : Int) (x7 : Int) (x8 : Int) : evalF (C10 fuel) fuel A80 [.agg [(.i .i64 x1), (.i .i64 x2)], .agg [(.i .i64 x3), (.i .i64 x4)], .agg [(.i .i64 x5), (.i .i64 x6)], .agg [(.i .i64 x7), (.i .i64 x8)]] = ob (F80 fuel x1 x2 x3 x4 x5 x6 x7 x8) fun t => some [.v (.b t)] := by
  rw [walk80, ← f80]
  simp only [D80]

def O80 (fuel : Nat) : Ora where
  o := fun args {ρ} K =>
    wc args fun a1 l2 =>
    wagg a1 fun l3 =>
    wc l3 fun c4 l5 =>
    wI .i64 c4 fun y6 =>
    wc l5 fun c8 l9 =>
    wI .i64 c8 fun y10 =>
    wn l9 <|
    wc l2 fun a12 l13 =>
    wagg a12 fun l14 =>
    wc l14 fun c15 l16 =>
    wI .i64 c15 fun y17 =>
    wc l16 fun c19 l20 =>
    wI .i64 c19 fun y21 =>
    wn l20 <|
    wc l13 fun a23 l24 =>
    wagg a23 fun l25 =>
    wc l25 fun c26 l27 =>
    wI .i64 c26 fun y28 =>
    wc l27 fun c30 l31 =>
    wI .i64 c30 fun y32 =>
    wn l31 <|
    wc l24 fun a34 l35 =>
    wagg a34 fun l36 =>
    wc l36 fun c37 l38 =>
    wI .i64 c37 fun y39 =>
    wc l38 fun c41 l42 =>
    wI .i64 c41 fun y43 =>
    wn l42 <|
    wn l35 <|
    (ob (F80 fuel y6 y10 y17 y21 y28 y32 y39 y43) fun t => K [.v (.b t)])
  nat := fun args {ρ} K => by
    simp only [bind_wc, bind_wn, bind_wv, bind_wagg, bind_wI, bind_wB, bind_wS, bind_wL, bind_wP, bind_wFn, bind_ob, Option.bind_some]

theorem d80 {P : Program} (fuel : Nat) (hmix : P.follows .mixedOrders = true) (hC : Sound P (C10 fuel)) (hF : FFits P 80 A80) (args res : List A) (h : (O80 fuel).o args some = some res) : Den P 80 args res := by
  obtain ⟨a1, l2, rfl, z0⟩ := inv_wc h
  obtain ⟨l3, rfl, z1⟩ := inv_wagg z0
  obtain ⟨c4, l5, rfl, z2⟩ := inv_wc z1
  obtain ⟨y6, h7, z3⟩ := inv_wI z2
  obtain ⟨c8, l9, rfl, z4⟩ := inv_wc z3
  obtain ⟨y10, h11, z5⟩ := inv_wI z4
  obtain ⟨hn, z6⟩ := inv_wn z5
  cases hn
  obtain ⟨a12, l13, rfl, z7⟩ := inv_wc z6
  obtain ⟨l14, rfl, z8⟩ := inv_wagg z7
  obtain ⟨c15, l16, rfl, z9⟩ := inv_wc z8
  obtain ⟨y17, h18, z10⟩ := inv_wI z9
  obtain ⟨c19, l20, rfl, z11⟩ := inv_wc z10
  obtain ⟨y21, h22, z12⟩ := inv_wI z11
  obtain ⟨hn, z13⟩ := inv_wn z12
  cases hn
  obtain ⟨a23, l24, rfl, z14⟩ := inv_wc z13
  obtain ⟨l25, rfl, z15⟩ := inv_wagg z14
  obtain ⟨c26, l27, rfl, z16⟩ := inv_wc z15
  obtain ⟨y28, h29, z17⟩ := inv_wI z16
  obtain ⟨c30, l31, rfl, z18⟩ := inv_wc z17
  obtain ⟨y32, h33, z19⟩ := inv_wI z18
  obtain ⟨hn, z20⟩ := inv_wn z19
  cases hn
  obtain ⟨a34, l35, rfl, z21⟩ := inv_wc z20
  obtain ⟨l36, rfl, z22⟩ := inv_wagg z21
  obtain ⟨c37, l38, rfl, z23⟩ := inv_wc z22
  obtain ⟨y39, h40, z24⟩ := inv_wI z23
  obtain ⟨c41, l42, rfl, z25⟩ := inv_wc z24
  obtain ⟨y43, h44, z26⟩ := inv_wI z25
  obtain ⟨hn, z27⟩ := inv_wn z26
  cases hn
  obtain ⟨hn, z28⟩ := inv_wn z27
  cases hn
  exact Den.weaken (.cons (WkA.agg (.cons (Wk.i h7) (.cons (Wk.i h11) .nil))) (.cons (WkA.agg (.cons (Wk.i h18) (.cons (Wk.i h22) .nil))) (.cons (WkA.agg (.cons (Wk.i h29) (.cons (Wk.i h33) .nil))) (.cons (WkA.agg (.cons (Wk.i h40) (.cons (Wk.i h44) .nil))) .nil)))) (evalF_sound hmix hC hF ((e80 fuel y6 y10 y17 y21 y28 y32 y39 y43).trans z28))

def C11 (fuel : Nat) : Oracle := (C10 fuel).add 80 (fun _ => true) (O80 fuel)

/-- shipyard/poly.simple -/
def A62v1 : AC := (.region 13 [
  ⟨(some 73), .move (.tmp 8), none⟩,
  ⟨(some 74), .binOp .add 3 (.tmp 73) (.const (.int .i64 1)) 3, none⟩,
  ⟨(some 8), .assign (.tmp 74), none⟩] 0 none)
def A62v2 : AC := (.seq (.block 3
  (.seq (.region 14 [
    ⟨(some 75), .move (.tmp 8), none⟩,
    ⟨(some 76), .binOp .add 3 (.tmp 75) (.const (.int .i64 1)) 3, none⟩,
    ⟨(some 77), .move (.tmp 3), none⟩,
    ⟨(some 78), .binOp .rem 3 (.tmp 76) (.tmp 77) 3, none⟩,
    ⟨(some 79), .move (.tmp 4), none⟩,
    ⟨(some 80), .binOp .neq 3 (.tmp 78) (.tmp 79) 3, none⟩,
    ⟨(some 81), .move (.tmp 80), none⟩,
    ⟨(some 82), .load 34 (some 2) (.tmp 5), (some (81, true))⟩,
    ⟨(some 83), .load 34 (some 2) (.tmp 6), (some (81, true))⟩,
    ⟨(some 84), .move (.tmp 0), (some (81, true))⟩,
    ⟨(some 85), .move (.tmp 8), (some (81, true))⟩,
    ⟨(some 86), .indexAddr 22 34 2 (.tmp 84) (.tmp 85), (some (81, true))⟩,
    ⟨(some 87), .load 34 (some 2) (.tmp 86), (some (81, true))⟩,
    ⟨(some 88), .move (.tmp 0), (some (81, true))⟩,
    ⟨(some 89), .move (.tmp 8), (some (81, true))⟩,
    ⟨(some 90), .binOp .add 3 (.tmp 89) (.const (.int .i64 1)) 3, (some (81, true))⟩,
    ⟨(some 91), .move (.tmp 3), (some (81, true))⟩,
    ⟨(some 92), .binOp .rem 3 (.tmp 90) (.tmp 91) 3, (some (81, true))⟩,
    ⟨(some 93), .indexAddr 22 34 2 (.tmp 88) (.tmp 92), (some (81, true))⟩,
    ⟨(some 94), .load 34 (some 2) (.tmp 93), (some (81, true))⟩,
    ⟨(some 95), .call 80 [(.tmp 82), (.tmp 83), (.tmp 87), (.tmp 94)] [34, 34, 34, 34] .snap, (some (81, true))⟩,
    ⟨(some 96), .pick (.tmp 81) (.tmp 95) (.const (.bool false)), none⟩] 0 (some [[], [0], [], [0, 1, 2], [], [0, 1, 2, 3, 4], [0, 1, 2, 3, 4, 5], [0, 1, 2, 3, 4, 5, 6], [0, 1, 2, 3, 4, 5, 6], [0, 1, 2, 3, 4, 5, 6], [0, 1, 2, 3, 4, 5, 6], [0, 1, 2, 3, 4, 5, 6, 9, 10], [0, 1, 2, 3, 4, 5, 6, 9, 10, 11], [0, 1, 2, 3, 4, 5, 6], [0, 1, 2, 3, 4, 5, 6], [0, 1, 2, 3, 4, 5, 6, 14], [0, 1, 2, 3, 4, 5, 6], [0, 1, 2, 3, 4, 5, 6, 14, 15, 16], [0, 1, 2, 3, 4, 5, 6, 13, 14, 15, 16, 17], [0, 1, 2, 3, 4, 5, 6, 13, 14, 15, 16, 17, 18], [0, 1, 2, 3, 4, 5, 6, 7, 8, 9, 10, 11, 12, 13, 14, 15, 16, 17, 18, 19], [0, 1, 2, 3, 4, 5, 6, 7, 8, 9, 10, 11, 12, 13, 14, 15, 16, 17, 18, 19, 20]])) []
    (.cond (.tmp 96)
    (.seq (.region 15 [
      ⟨(some 2), .assign (.const (.bool false)), none⟩] 0 none) []
      (.ret [0, 1, 3, 4, 5, 6, 7, 8, 9, 10, 11, 12, 13, 14, 15, 16, 17, 18, 19, 20, 21, 22, 23, 24, 25, 26, 27, 28, 29, 30, 31, 32, 33, 34, 35, 36, 37, 38, 39, 40, 41, 42, 43, 44, 45, 46, 47, 48, 49, 50, 51, 52, 53, 54, 55, 56, 57, 58, 59, 60, 61, 62, 63, 64, 65, 66, 67, 68, 69, 70, 71, 72, 73, 74, 75, 76, 77, 78, 79, 80, 81, 82, 83, 84, 85, 86, 87, 88, 89, 90, 91, 92, 93, 94, 95, 96, 97]))
    .skip))) [2, 75, 76, 77, 78, 79, 80, 81, 82, 83, 84, 85, 86, 87, 88, 89, 90, 91, 92, 93, 94, 95, 96]
  A62v1)
def A62v3 : AC := (.seq (.seq (.region 12 [
  ⟨(some 70), .move (.tmp 8), none⟩,
  ⟨(some 71), .move (.tmp 3), none⟩,
  ⟨(some 72), .binOp .lss 3 (.tmp 70) (.tmp 71) 3, none⟩] 0 none) []
  (.cond (.tmp 72)
  .skip
  (.exit 2 [1, 2, 4, 5, 6, 7, 8, 9, 10, 11, 14, 15, 16, 17, 18, 19, 20, 21, 22, 23, 24, 25, 26, 27, 28, 29, 30, 31, 32, 33, 34, 35, 36, 37, 38, 39, 40, 41, 42, 43, 44, 45, 46, 47, 48, 49, 50, 51, 52, 53, 54, 55, 56, 57, 58, 59, 60, 61, 62, 63, 64, 65, 66, 67, 68, 69, 70, 71, 72, 73, 74, 75, 76, 77, 78, 79, 80, 81, 82, 83, 84, 85, 86, 87, 88, 89, 90, 91, 92, 93, 94, 95, 96, 97]))) [70, 71, 72]
  A62v2)
def A62v4 : AC := (.seq (.region 11 [
  ⟨(some 68), .move (.tmp 4), none⟩,
  ⟨(some 69), .binOp .add 3 (.tmp 68) (.const (.int .i64 2)) 3, none⟩,
  ⟨(some 8), .assign (.tmp 69), none⟩] 0 none) []
  (.block 2
  (.loop [] [1, 2, 7, 9, 10, 11, 14, 15, 16, 17, 18, 19, 20, 21, 22, 23, 24, 25, 26, 27, 28, 29, 30, 31, 32, 33, 34, 35, 36, 37, 38, 39, 40, 41, 42, 43, 44, 45, 46, 47, 48, 49, 50, 51, 52, 53, 54, 55, 56, 57, 58, 59, 60, 61, 62, 63, 64, 65, 66, 67, 68, 69, 70, 71, 72, 73, 74, 75, 76, 77, 78, 79, 80, 81, 82, 83, 84, 85, 86, 87, 88, 89, 90, 91, 92, 93, 94, 95, 96, 97]
    A62v3)))
def A62v5 : AC := (.seq (.region 8 [
  ⟨(some 30), .move (.tmp 0), none⟩,
  ⟨(some 31), .move (.tmp 4), none⟩,
  ⟨(some 32), .binOp .add 3 (.tmp 31) (.const (.int .i64 2)) 3, none⟩,
  ⟨(some 33), .move (.tmp 3), none⟩,
  ⟨(some 34), .binOp .rem 3 (.tmp 32) (.tmp 33) 3, none⟩,
  ⟨(some 35), .indexAddr 22 34 2 (.tmp 30) (.tmp 34), none⟩,
  ⟨(some 36), .load 34 (some 2) (.tmp 35), none⟩,
  ⟨(some 7), .alloc 0 34 [.c (.i .i64 0), .c (.i .i64 0)], none⟩,
  ⟨none, .store 34 2 (.tmp 7) (.tmp 36), none⟩] 1 none) []
  (.seq (.seq (.region 9 [
  ⟨(some 37), .load 34 (some 2) (.tmp 5), none⟩,
  ⟨(some 38), .load 34 (some 2) (.tmp 6), none⟩,
  ⟨(some 39), .load 34 (some 2) (.tmp 7), none⟩,
  ⟨(some 40), .call 79 [(.tmp 37), (.tmp 38), (.tmp 39)] [34, 34, 34] .snap, none⟩,
  ⟨(some 41), .binOp .eql 3 (.tmp 40) (.const (.int .i64 0)) 3, none⟩,
  ⟨(some 42), .move (.tmp 41), none⟩,
  ⟨(some 43), .fieldAddr 34 (.tmp 5) 0 0, (some (42, true))⟩,
  ⟨(some 44), .load 3 none (.tmp 43), (some (42, true))⟩,
  ⟨(some 45), .fieldAddr 34 (.tmp 6) 0 0, (some (42, true))⟩,
  ⟨(some 46), .load 3 none (.tmp 45), (some (42, true))⟩,
  ⟨(some 47), .binOp .sub 3 (.tmp 44) (.tmp 46) 3, (some (42, true))⟩,
  ⟨(some 48), .fieldAddr 34 (.tmp 7) 0 0, (some (42, true))⟩,
  ⟨(some 49), .load 3 none (.tmp 48), (some (42, true))⟩,
  ⟨(some 50), .fieldAddr 34 (.tmp 6) 0 0, (some (42, true))⟩,
  ⟨(some 51), .load 3 none (.tmp 50), (some (42, true))⟩,
  ⟨(some 52), .binOp .sub 3 (.tmp 49) (.tmp 51) 3, (some (42, true))⟩,
  ⟨(some 53), .binOp .mul 3 (.tmp 47) (.tmp 52) 3, (some (42, true))⟩,
  ⟨(some 54), .fieldAddr 34 (.tmp 5) 1 1, (some (42, true))⟩,
  ⟨(some 55), .load 3 none (.tmp 54), (some (42, true))⟩,
  ⟨(some 56), .fieldAddr 34 (.tmp 6) 1 1, (some (42, true))⟩,
  ⟨(some 57), .load 3 none (.tmp 56), (some (42, true))⟩,
  ⟨(some 58), .binOp .sub 3 (.tmp 55) (.tmp 57) 3, (some (42, true))⟩,
  ⟨(some 59), .fieldAddr 34 (.tmp 7) 1 1, (some (42, true))⟩,
  ⟨(some 60), .load 3 none (.tmp 59), (some (42, true))⟩,
  ⟨(some 61), .fieldAddr 34 (.tmp 6) 1 1, (some (42, true))⟩,
  ⟨(some 62), .load 3 none (.tmp 61), (some (42, true))⟩,
  ⟨(some 63), .binOp .sub 3 (.tmp 60) (.tmp 62) 3, (some (42, true))⟩,
  ⟨(some 64), .binOp .mul 3 (.tmp 58) (.tmp 63) 3, (some (42, true))⟩,
  ⟨(some 65), .binOp .add 3 (.tmp 53) (.tmp 64) 3, (some (42, true))⟩,
  ⟨(some 66), .binOp .gtr 3 (.tmp 65) (.const (.int .i64 0)) 3, (some (42, true))⟩,
  ⟨(some 67), .pick (.tmp 42) (.tmp 66) (.const (.bool false)), none⟩] 0 none) []
  (.cond (.tmp 67)
  (.seq (.region 10 [
    ⟨(some 2), .assign (.const (.bool false)), none⟩] 0 none) []
    (.ret [0, 1, 3, 4, 5, 6, 7, 8, 9, 10, 11, 12, 13, 14, 15, 16, 17, 18, 19, 20, 21, 22, 23, 24, 25, 26, 27, 28, 29, 30, 31, 32, 33, 34, 35, 36, 37, 38, 39, 40, 41, 42, 43, 44, 45, 46, 47, 48, 49, 50, 51, 52, 53, 54, 55, 56, 57, 58, 59, 60, 61, 62, 63, 64, 65, 66, 67, 68, 69, 70, 71, 72, 73, 74, 75, 76, 77, 78, 79, 80, 81, 82, 83, 84, 85, 86, 87, 88, 89, 90, 91, 92, 93, 94, 95, 96, 97]))
  .skip)) [2, 37, 38, 39, 40, 41, 42, 43, 44, 45, 46, 47, 48, 49, 50, 51, 52, 53, 54, 55, 56, 57, 58, 59, 60, 61, 62, 63, 64, 65, 66, 67]
  A62v4))
def A62v6 : AC := (.region 16 [
  ⟨(some 97), .binOp .add 3 (.tmp 13) (.const (.int .i64 1)) 3, none⟩,
  ⟨(some 13), .move (.tmp 97), none⟩] 0 none)
def A62v7 : AC := (.seq (.block 1
  (.seq (.region 4 [
    ⟨(some 15), .move (.tmp 13), none⟩,
    ⟨(some 4), .assign (.tmp 15), none⟩] 0 none) []
    (.seq (.region 5 [
    ⟨(some 16), .move (.tmp 0), none⟩,
    ⟨(some 17), .move (.tmp 4), none⟩,
    ⟨(some 18), .indexAddr 22 34 2 (.tmp 16) (.tmp 17), none⟩,
    ⟨(some 19), .load 34 (some 2) (.tmp 18), none⟩,
    ⟨(some 20), .move (.tmp 0), none⟩,
    ⟨(some 21), .move (.tmp 4), none⟩,
    ⟨(some 22), .binOp .add 3 (.tmp 21) (.const (.int .i64 1)) 3, none⟩,
    ⟨(some 23), .move (.tmp 3), none⟩,
    ⟨(some 24), .binOp .rem 3 (.tmp 22) (.tmp 23) 3, none⟩,
    ⟨(some 25), .indexAddr 22 34 2 (.tmp 20) (.tmp 24), none⟩,
    ⟨(some 26), .load 34 (some 2) (.tmp 25), none⟩,
    ⟨(some 5), .alloc 0 34 [.c (.i .i64 0), .c (.i .i64 0)], none⟩,
    ⟨(some 6), .alloc 1 34 [.c (.i .i64 0), .c (.i .i64 0)], none⟩,
    ⟨none, .store 34 2 (.tmp 5) (.tmp 19), none⟩,
    ⟨none, .store 34 2 (.tmp 6) (.tmp 26), none⟩] 2 (some [[], [], [0, 1], [0, 1, 2], [], [], [5], [], [5, 6, 7], [4, 5, 6, 7, 8], [4, 5, 6, 7, 8, 9], [], [], [0, 1, 2, 3, 11, 12], [0, 1, 2, 3, 4, 5, 6, 7, 8, 9, 10, 11, 12, 13]])) []
    (.seq (.seq (.region 6 [
    ⟨(some 27), .load 34 (some 2) (.tmp 5), none⟩,
    ⟨(some 28), .load 34 (some 2) (.tmp 6), none⟩,
    ⟨(some 29), .eqA false (.pr (.int .i64) (.pr (.int .i64) .nil)) 34 (.tmp 27) (.tmp 28) 34, none⟩] 0 none) []
    (.cond (.tmp 29)
    (.seq (.region 7 [
      ⟨(some 2), .assign (.const (.bool false)), none⟩] 0 none) []
      (.ret [0, 1, 3, 4, 5, 6, 7, 8, 9, 10, 11, 12, 13, 14, 15, 16, 17, 18, 19, 20, 21, 22, 23, 24, 25, 26, 27, 28, 29, 30, 31, 32, 33, 34, 35, 36, 37, 38, 39, 40, 41, 42, 43, 44, 45, 46, 47, 48, 49, 50, 51, 52, 53, 54, 55, 56, 57, 58, 59, 60, 61, 62, 63, 64, 65, 66, 67, 68, 69, 70, 71, 72, 73, 74, 75, 76, 77, 78, 79, 80, 81, 82, 83, 84, 85, 86, 87, 88, 89, 90, 91, 92, 93, 94, 95, 96, 97]))
    .skip)) [2, 27, 28, 29]
    A62v5)))) [2, 4, 5, 6, 7, 8, 15, 16, 17, 18, 19, 20, 21, 22, 23, 24, 25, 26, 27, 28, 29, 30, 31, 32, 33, 34, 35, 36, 37, 38, 39, 40, 41, 42, 43, 44, 45, 46, 47, 48, 49, 50, 51, 52, 53, 54, 55, 56, 57, 58, 59, 60, 61, 62, 63, 64, 65, 66, 67, 68, 69, 70, 71, 72, 73, 74, 75, 76, 77, 78, 79, 80, 81, 82, 83, 84, 85, 86, 87, 88, 89, 90, 91, 92, 93, 94, 95, 96]
  A62v6)
def A62v8 : AC := (.seq (.region 3 [
  ⟨(some 14), .binOp .lss 3 (.tmp 13) (.tmp 12) 3, none⟩] 0 none) []
  (.seq (.cond (.tmp 14)
  .skip
  (.exit 0 [0, 1, 2, 3, 4, 5, 6, 7, 8, 9, 10, 11, 12, 13, 14, 15, 16, 17, 18, 19, 20, 21, 22, 23, 24, 25, 26, 27, 28, 29, 30, 31, 32, 33, 34, 35, 36, 37, 38, 39, 40, 41, 42, 43, 44, 45, 46, 47, 48, 49, 50, 51, 52, 53, 54, 55, 56, 57, 58, 59, 60, 61, 62, 63, 64, 65, 66, 67, 68, 69, 70, 71, 72, 73, 74, 75, 76, 77, 78, 79, 80, 81, 82, 83, 84, 85, 86, 87, 88, 89, 90, 91, 92, 93, 94, 95, 96, 97])) []
  A62v7))
def A62v9 : AC := (.seq (.region 17 [
  ⟨(some 2), .assign (.const (.bool true)), none⟩] 0 none) []
  (.ret [0, 1, 3, 4, 5, 6, 7, 8, 9, 10, 11, 12, 13, 14, 15, 16, 17, 18, 19, 20, 21, 22, 23, 24, 25, 26, 27, 28, 29, 30, 31, 32, 33, 34, 35, 36, 37, 38, 39, 40, 41, 42, 43, 44, 45, 46, 47, 48, 49, 50, 51, 52, 53, 54, 55, 56, 57, 58, 59, 60, 61, 62, 63, 64, 65, 66, 67, 68, 69, 70, 71, 72, 73, 74, 75, 76, 77, 78, 79, 80, 81, 82, 83, 84, 85, 86, 87, 88, 89, 90, 91, 92, 93, 94, 95, 96, 97]))
def A62 : AF := ⟨98, [.tmp 2],
  (.seq (.region 0 [
  ⟨(some 2), .assign (.const (.bool false)), none⟩] 0 none) []
  (.seq (.region 1 [
  ⟨(some 9), .move (.tmp 0), none⟩,
  ⟨(some 10), .len 22 false (.tmp 9), none⟩,
  ⟨(some 3), .assign (.tmp 10), none⟩] 0 none) []
  (.seq (.seq (.region 2 [
  ⟨(some 11), .move (.tmp 0), none⟩,
  ⟨(some 12), .len 22 false (.tmp 11), none⟩,
  ⟨(some 13), .move (.const (.int .i64 0)), none⟩] 0 none) []
  (.block 0
  (.loop [] [1, 2, 4, 5, 6, 7, 8, 9, 10, 11, 14, 15, 16, 17, 18, 19, 20, 21, 22, 23, 24, 25, 26, 27, 28, 29, 30, 31, 32, 33, 34, 35, 36, 37, 38, 39, 40, 41, 42, 43, 44, 45, 46, 47, 48, 49, 50, 51, 52, 53, 54, 55, 56, 57, 58, 59, 60, 61, 62, 63, 64, 65, 66, 67, 68, 69, 70, 71, 72, 73, 74, 75, 76, 77, 78, 79, 80, 81, 82, 83, 84, 85, 86, 87, 88, 89, 90, 91, 92, 93, 94, 95, 96, 97]
    A62v8))) [2, 4, 5, 6, 7, 8, 11, 12, 13, 14, 15, 16, 17, 18, 19, 20, 21, 22, 23, 24, 25, 26, 27, 28, 29, 30, 31, 32, 33, 34, 35, 36, 37, 38, 39, 40, 41, 42, 43, 44, 45, 46, 47, 48, 49, 50, 51, 52, 53, 54, 55, 56, 57, 58, 59, 60, 61, 62, 63, 64, 65, 66, 67, 68, 69, 70, 71, 72, 73, 74, 75, 76, 77, 78, 79, 80, 81, 82, 83, 84, 85, 86, 87, 88, 89, 90, 91, 92, 93, 94, 95, 96, 97]
  A62v9)))⟩

def B62v2 (C : Oracle) (fuel : Nat) {ρ : Type} : St → (Ex → St → Option ρ) → Option ρ := fun st k => evalC C fuel A62v3 st k
def N62v2 : St → Option St := fun s => s.norm [1, 2, 7, 9, 10, 11, 14, 15, 16, 17, 18, 19, 20, 21, 22, 23, 24, 25, 26, 27, 28, 29, 30, 31, 32, 33, 34, 35, 36, 37, 38, 39, 40, 41, 42, 43, 44, 45, 46, 47, 48, 49, 50, 51, 52, 53, 54, 55, 56, 57, 58, 59, 60, 61, 62, 63, 64, 65, 66, 67, 68, 69, 70, 71, 72, 73, 74, 75, 76, 77, 78, 79, 80, 81, 82, 83, 84, 85, 86, 87, 88, 89, 90, 91, 92, 93, 94, 95, 96, 97] 3

def s62v0 (x45 : Nat) (x46 : Nat → Nat → CV) (x47 : Int) (x48 : Int) (x49 : Int) (x50 : Int) (x51 : Int) (x52 : Int) (x53 : Int) (x54 : Int) (x55 : Int) : St := ⟨[.x (.c (.ro false (.pr (.int .i64) (.pr (.int .i64) .nil)) x45 x46)), .u, .u, .x (.c (.i .i64 x47)), .x (.c (.i .i64 x48)), .x (.ptr 0 0), .x (.ptr 1 0), .u, .x (.c (.i .i64 x49)), .u, .u, .u, .x (.c (.i .i64 x47)), .x (.c (.i .i64 x48)), .u, .u, .u, .u, .u, .u, .u, .u, .u, .u, .u, .u, .u, .u, .u, .u, .u, .u, .u, .u, .u, .u, .u, .u, .u, .u, .u, .u, .u, .u, .u, .u, .u, .u, .u, .u, .u, .u, .u, .u, .u, .u, .u, .u, .u, .u, .u, .u, .u, .u, .u, .u, .u, .u, .u, .u, .u, .u, .u, .u, .u, .u, .u, .u, .u, .u, .u, .u, .u, .u, .u, .u, .u, .u, .u, .u, .u, .u, .u, .u, .u, .u, .u, .u],
    [.box [(.c (.i .i64 x50)), (.c (.i .i64 x51))], .box [(.c (.i .i64 x52)), (.c (.i .i64 x53))], .box [(.c (.i .i64 x54)), (.c (.i .i64 x55))]]⟩

def s62v1 (x50 : Int) (x51 : Int) (x52 : Int) (x53 : Int) (x54 : Int) (x55 : Int) : St := ⟨[.u, .u, .x (.c (.b false)), .u, .u, .u, .u, .u, .u, .u, .u, .u, .u, .u, .u, .u, .u, .u, .u, .u, .u, .u, .u, .u, .u, .u, .u, .u, .u, .u, .u, .u, .u, .u, .u, .u, .u, .u, .u, .u, .u, .u, .u, .u, .u, .u, .u, .u, .u, .u, .u, .u, .u, .u, .u, .u, .u, .u, .u, .u, .u, .u, .u, .u, .u, .u, .u, .u, .u, .u, .u, .u, .u, .u, .u, .u, .u, .u, .u, .u, .u, .u, .u, .u, .u, .u, .u, .u, .u, .u, .u, .u, .u, .u, .u, .u, .u, .u],
    [.box [(.c (.i .i64 x50)), (.c (.i .i64 x51))], .box [(.c (.i .i64 x52)), (.c (.i .i64 x53))], .box [(.c (.i .i64 x54)), (.c (.i .i64 x55))]]⟩

def s62v2 (x45 : Nat) (x46 : Nat → Nat → CV) (x47 : Int) (x48 : Int) (x50 : Int) (x51 : Int) (x52 : Int) (x53 : Int) (x54 : Int) (x55 : Int) : St := ⟨[.x (.c (.ro false (.pr (.int .i64) (.pr (.int .i64) .nil)) x45 x46)), .u, .u, .x (.c (.i .i64 x47)), .u, .u, .u, .u, .u, .u, .u, .u, .x (.c (.i .i64 x47)), .x (.c (.i .i64 x48)), .u, .u, .u, .u, .u, .u, .u, .u, .u, .u, .u, .u, .u, .u, .u, .u, .u, .u, .u, .u, .u, .u, .u, .u, .u, .u, .u, .u, .u, .u, .u, .u, .u, .u, .u, .u, .u, .u, .u, .u, .u, .u, .u, .u, .u, .u, .u, .u, .u, .u, .u, .u, .u, .u, .u, .u, .u, .u, .u, .u, .u, .u, .u, .u, .u, .u, .u, .u, .u, .u, .u, .u, .u, .u, .u, .u, .u, .u, .u, .u, .u, .u, .u, .u],
    [.box [(.c (.i .i64 x50)), (.c (.i .i64 x51))], .box [(.c (.i .i64 x52)), (.c (.i .i64 x53))], .box [(.c (.i .i64 x54)), (.c (.i .i64 x55))]]⟩

def L62v2 {ρ : Type} (fuel : Nat) (x45 : Nat) (x46 : Nat → Nat → CV) (x47 : Int) (x48 : Int) (x50 : Int) (x51 : Int) (x52 : Int) (x53 : Int) (x54 : Int) (x55 : Int) : Nat → Int → (Option ρ) → (Option ρ) → Option ρ
  | 0, _, _, _ => none
  | m + 1, x49, k0, k1 =>
    (bif (decide (x49 < x47)) then (bif (x47 == 0) then none else (bif (((Int.tmod (w64 (x49 + 1)) x47) != x48) == true) then (bif (inb x49 x45) then (bif (x47 == 0) then none else (bif (inb (Int.tmod (w64 (x49 + 1)) x47) x45) then (ob (F80 fuel x50 x51 x52 x53 (CV.int (x46 (Int.toNat x49) 0)) (CV.int (x46 (Int.toNat x49) 1)) (CV.int (x46 (Int.toNat (Int.tmod (w64 (x49 + 1)) x47)) 0)) (CV.int (x46 (Int.toNat (Int.tmod (w64 (x49 + 1)) x47)) 1))) fun x56 => (bif x56 then k0 else (L62v2 fuel x45 x46 x47 x48 x50 x51 x52 x53 x54 x55 m (w64 (x49 + 1)) k0 k1))) else none)) else none) else (L62v2 fuel x45 x46 x47 x48 x50 x51 x52 x53 x54 x55 m (w64 (x49 + 1)) k0 k1))) else k1)

theorem nl62v2 {ρ σ : Type} (fuel : Nat) (x45 : Nat) (x46 : Nat → Nat → CV) (x47 : Int) (x48 : Int) (x50 : Int) (x51 : Int) (x52 : Int) (x53 : Int) (x54 : Int) (x55 : Int) (g : ρ → Option σ) : ∀ (m : Nat) (x49 : Int) (k0 : Option ρ) (k1 : Option ρ), ob (L62v2 fuel x45 x46 x47 x48 x50 x51 x52 x53 x54 x55 m x49 k0 k1) g = L62v2 fuel x45 x46 x47 x48 x50 x51 x52 x53 x54 x55 m x49 (ob k0 g) (ob k1 g)
  | 0, _, _, _ => rfl
  | m + 1, x49, k0, k1 => by
    simp only [L62v2, ob_bif, ob_ob, ob_none, nl62v2 fuel x45 x46 x47 x48 x50 x51 x52 x53 x54 x55 g m]

theorem r62v2 (fuel : Nat) (m : Nat) {ρ : Type} (k : Ex → St → Option ρ) (x45 : Nat) (x46 : Nat → Nat → CV) (x47 : Int) (x48 : Int) (x50 : Int) (x51 : Int) (x52 : Int) (x53 : Int) (x54 : Int) (x55 : Int) (x49 : Int) :
    loopH (B62v2 (C11 fuel) fuel) N62v2 (m + 1) (s62v0 x45 x46 x47 x48 x49 x50 x51 x52 x53 x54 x55) k =
    (bif (decide (x49 < x47)) then (bif (x47 == 0) then none else (bif (((Int.tmod (w64 (x49 + 1)) x47) != x48) == true) then (bif (inb x49 x45) then (bif (x47 == 0) then none else (bif (inb (Int.tmod (w64 (x49 + 1)) x47) x45) then (ob (F80 fuel x50 x51 x52 x53 (CV.int (x46 (Int.toNat x49) 0)) (CV.int (x46 (Int.toNat x49) 1)) (CV.int (x46 (Int.toNat (Int.tmod (w64 (x49 + 1)) x47)) 0)) (CV.int (x46 (Int.toNat (Int.tmod (w64 (x49 + 1)) x47)) 1))) fun x56 => (bif x56 then (k .ret (s62v1 x50 x51 x52 x53 x54 x55)) else (loopH (B62v2 (C11 fuel) fuel) N62v2 m (s62v0 x45 x46 x47 x48 (w64 (x49 + 1)) x50 x51 x52 x53 x54 x55) k))) else none)) else none) else (loopH (B62v2 (C11 fuel) fuel) N62v2 m (s62v0 x45 x46 x47 x48 (w64 (x49 + 1)) x50 x51 x52 x53 x54 x55) k))) else (k (.exit 2) (s62v2 x45 x46 x47 x48 x50 x51 x52 x53 x54 x55))) := by kernel_rfl

theorem q62v2 (fuel : Nat) (x45 : Nat) (x46 : Nat → Nat → CV) (x47 : Int) (x48 : Int) (x50 : Int) (x51 : Int) (x52 : Int) (x53 : Int) (x54 : Int) (x55 : Int) {ρ : Type} (k : Ex → St → Option ρ) : ∀ (m : Nat) (x49 : Int),
    loopH (B62v2 (C11 fuel) fuel) N62v2 m (s62v0 x45 x46 x47 x48 x49 x50 x51 x52 x53 x54 x55) k = L62v2 fuel x45 x46 x47 x48 x50 x51 x52 x53 x54 x55 m x49 (k .ret (s62v1 x50 x51 x52 x53 x54 x55)) (k (.exit 2) (s62v2 x45 x46 x47 x48 x50 x51 x52 x53 x54 x55))
  | 0, _ => rfl
  | m + 1, x49 => by
    rw [r62v2]
    simp only [L62v2, q62v2 fuel x45 x46 x47 x48 x50 x51 x52 x53 x54 x55 k m]

def B62v3 (C : Oracle) (fuel : Nat) {ρ : Type} : St → (Ex → St → Option ρ) → Option ρ := fun st k => evalC C fuel A62v8 st k
def N62v3 : St → Option St := fun s => s.norm [1, 2, 4, 5, 6, 7, 8, 9, 10, 11, 14, 15, 16, 17, 18, 19, 20, 21, 22, 23, 24, 25, 26, 27, 28, 29, 30, 31, 32, 33, 34, 35, 36, 37, 38, 39, 40, 41, 42, 43, 44, 45, 46, 47, 48, 49, 50, 51, 52, 53, 54, 55, 56, 57, 58, 59, 60, 61, 62, 63, 64, 65, 66, 67, 68, 69, 70, 71, 72, 73, 74, 75, 76, 77, 78, 79, 80, 81, 82, 83, 84, 85, 86, 87, 88, 89, 90, 91, 92, 93, 94, 95, 96, 97] 0

def s62v3 (x28 : Nat) (x29 : Nat → Nat → CV) (x30 : Int) (x31 : Int) : St := ⟨[.x (.c (.ro false (.pr (.int .i64) (.pr (.int .i64) .nil)) x28 x29)), .u, .u, .x (.c (.i .i64 x30)), .u, .u, .u, .u, .u, .u, .u, .u, .x (.c (.i .i64 x30)), .x (.c (.i .i64 x31)), .u, .u, .u, .u, .u, .u, .u, .u, .u, .u, .u, .u, .u, .u, .u, .u, .u, .u, .u, .u, .u, .u, .u, .u, .u, .u, .u, .u, .u, .u, .u, .u, .u, .u, .u, .u, .u, .u, .u, .u, .u, .u, .u, .u, .u, .u, .u, .u, .u, .u, .u, .u, .u, .u, .u, .u, .u, .u, .u, .u, .u, .u, .u, .u, .u, .u, .u, .u, .u, .u, .u, .u, .u, .u, .u, .u, .u, .u, .u, .u, .u, .u, .u, .u],
    []⟩

def s62v4 (x57 : Int) (x58 : Int) (x59 : Int) (x60 : Int) : St := ⟨[.u, .u, .x (.c (.b false)), .u, .u, .u, .u, .u, .u, .u, .u, .u, .u, .u, .u, .u, .u, .u, .u, .u, .u, .u, .u, .u, .u, .u, .u, .u, .u, .u, .u, .u, .u, .u, .u, .u, .u, .u, .u, .u, .u, .u, .u, .u, .u, .u, .u, .u, .u, .u, .u, .u, .u, .u, .u, .u, .u, .u, .u, .u, .u, .u, .u, .u, .u, .u, .u, .u, .u, .u, .u, .u, .u, .u, .u, .u, .u, .u, .u, .u, .u, .u, .u, .u, .u, .u, .u, .u, .u, .u, .u, .u, .u, .u, .u, .u, .u, .u],
    [.box [(.c (.i .i64 x57)), (.c (.i .i64 x58))], .box [(.c (.i .i64 x59)), (.c (.i .i64 x60))]]⟩

def s62v5 (x61 : Int) (x62 : Int) (x63 : Int) (x64 : Int) (x65 : Int) (x66 : Int) : St := ⟨[.u, .u, .x (.c (.b false)), .u, .u, .u, .u, .u, .u, .u, .u, .u, .u, .u, .u, .u, .u, .u, .u, .u, .u, .u, .u, .u, .u, .u, .u, .u, .u, .u, .u, .u, .u, .u, .u, .u, .u, .u, .u, .u, .u, .u, .u, .u, .u, .u, .u, .u, .u, .u, .u, .u, .u, .u, .u, .u, .u, .u, .u, .u, .u, .u, .u, .u, .u, .u, .u, .u, .u, .u, .u, .u, .u, .u, .u, .u, .u, .u, .u, .u, .u, .u, .u, .u, .u, .u, .u, .u, .u, .u, .u, .u, .u, .u, .u, .u, .u, .u],
    [.box [(.c (.i .i64 x61)), (.c (.i .i64 x62))], .box [(.c (.i .i64 x63)), (.c (.i .i64 x64))], .box [(.c (.i .i64 x65)), (.c (.i .i64 x66))]]⟩

def s62v6 : St := ⟨[.u, .u, .u, .u, .u, .u, .u, .u, .u, .u, .u, .u, .u, .u, .u, .u, .u, .u, .u, .u, .u, .u, .u, .u, .u, .u, .u, .u, .u, .u, .u, .u, .u, .u, .u, .u, .u, .u, .u, .u, .u, .u, .u, .u, .u, .u, .u, .u, .u, .u, .u, .u, .u, .u, .u, .u, .u, .u, .u, .u, .u, .u, .u, .u, .u, .u, .u, .u, .u, .u, .u, .u, .u, .u, .u, .u, .u, .u, .u, .u, .u, .u, .u, .u, .u, .u, .u, .u, .u, .u, .u, .u, .u, .u, .u, .u, .u, .u],
    []⟩

def L62v3 {ρ : Type} (fuel : Nat) (x28 : Nat) (x29 : Nat → Nat → CV) (x30 : Int) : Nat → Int → (Int → Int → Int → Int → Option ρ) → (Int → Int → Int → Int → Int → Int → Option ρ) → (Option ρ) → Option ρ
  | 0, _, _, _, _ => none
  | m + 1, x31, k0, k1, k2 =>
    (bif (decide (x31 < x30)) then (bif (inb x31 x28) then (bif (x30 == 0) then none else (bif (inb (Int.tmod (w64 (x31 + 1)) x30) x28) then (bif (((CV.int (x29 (Int.toNat x31) 0)) == (CV.int (x29 (Int.toNat (Int.tmod (w64 (x31 + 1)) x30)) 0))) && (((CV.int (x29 (Int.toNat x31) 1)) == (CV.int (x29 (Int.toNat (Int.tmod (w64 (x31 + 1)) x30)) 1))) && true)) then (k0 (CV.int (x29 (Int.toNat x31) 0)) (CV.int (x29 (Int.toNat x31) 1)) (CV.int (x29 (Int.toNat (Int.tmod (w64 (x31 + 1)) x30)) 0)) (CV.int (x29 (Int.toNat (Int.tmod (w64 (x31 + 1)) x30)) 1))) else (bif (x30 == 0) then none else (bif (inb (Int.tmod (w64 (x31 + 2)) x30) x28) then (ob (F79 fuel (CV.int (x29 (Int.toNat x31) 0)) (CV.int (x29 (Int.toNat x31) 1)) (CV.int (x29 (Int.toNat (Int.tmod (w64 (x31 + 1)) x30)) 0)) (CV.int (x29 (Int.toNat (Int.tmod (w64 (x31 + 1)) x30)) 1)) (CV.int (x29 (Int.toNat (Int.tmod (w64 (x31 + 2)) x30)) 0)) (CV.int (x29 (Int.toNat (Int.tmod (w64 (x31 + 2)) x30)) 1))) fun x32 => (bif ((x32 == 0) == true) then (bif (decide ((w64 ((w64 ((w64 ((CV.int (x29 (Int.toNat x31) 0)) - (CV.int (x29 (Int.toNat (Int.tmod (w64 (x31 + 1)) x30)) 0)))) * (w64 ((CV.int (x29 (Int.toNat (Int.tmod (w64 (x31 + 2)) x30)) 0)) - (CV.int (x29 (Int.toNat (Int.tmod (w64 (x31 + 1)) x30)) 0)))))) + (w64 ((w64 ((CV.int (x29 (Int.toNat x31) 1)) - (CV.int (x29 (Int.toNat (Int.tmod (w64 (x31 + 1)) x30)) 1)))) * (w64 ((CV.int (x29 (Int.toNat (Int.tmod (w64 (x31 + 2)) x30)) 1)) - (CV.int (x29 (Int.toNat (Int.tmod (w64 (x31 + 1)) x30)) 1)))))))) > 0)) then (k1 (CV.int (x29 (Int.toNat x31) 0)) (CV.int (x29 (Int.toNat x31) 1)) (CV.int (x29 (Int.toNat (Int.tmod (w64 (x31 + 1)) x30)) 0)) (CV.int (x29 (Int.toNat (Int.tmod (w64 (x31 + 1)) x30)) 1)) (CV.int (x29 (Int.toNat (Int.tmod (w64 (x31 + 2)) x30)) 0)) (CV.int (x29 (Int.toNat (Int.tmod (w64 (x31 + 2)) x30)) 1))) else (L62v2 fuel x28 x29 x30 x31 (CV.int (x29 (Int.toNat x31) 0)) (CV.int (x29 (Int.toNat x31) 1)) (CV.int (x29 (Int.toNat (Int.tmod (w64 (x31 + 1)) x30)) 0)) (CV.int (x29 (Int.toNat (Int.tmod (w64 (x31 + 1)) x30)) 1)) (CV.int (x29 (Int.toNat (Int.tmod (w64 (x31 + 2)) x30)) 0)) (CV.int (x29 (Int.toNat (Int.tmod (w64 (x31 + 2)) x30)) 1)) fuel (w64 (x31 + 2))
    (k1 (CV.int (x29 (Int.toNat x31) 0)) (CV.int (x29 (Int.toNat x31) 1)) (CV.int (x29 (Int.toNat (Int.tmod (w64 (x31 + 1)) x30)) 0)) (CV.int (x29 (Int.toNat (Int.tmod (w64 (x31 + 1)) x30)) 1)) (CV.int (x29 (Int.toNat (Int.tmod (w64 (x31 + 2)) x30)) 0)) (CV.int (x29 (Int.toNat (Int.tmod (w64 (x31 + 2)) x30)) 1)))
    (L62v3 fuel x28 x29 x30 m (w64 (x31 + 1)) k0 k1 k2))) else (L62v2 fuel x28 x29 x30 x31 (CV.int (x29 (Int.toNat x31) 0)) (CV.int (x29 (Int.toNat x31) 1)) (CV.int (x29 (Int.toNat (Int.tmod (w64 (x31 + 1)) x30)) 0)) (CV.int (x29 (Int.toNat (Int.tmod (w64 (x31 + 1)) x30)) 1)) (CV.int (x29 (Int.toNat (Int.tmod (w64 (x31 + 2)) x30)) 0)) (CV.int (x29 (Int.toNat (Int.tmod (w64 (x31 + 2)) x30)) 1)) fuel (w64 (x31 + 2))
    (k1 (CV.int (x29 (Int.toNat x31) 0)) (CV.int (x29 (Int.toNat x31) 1)) (CV.int (x29 (Int.toNat (Int.tmod (w64 (x31 + 1)) x30)) 0)) (CV.int (x29 (Int.toNat (Int.tmod (w64 (x31 + 1)) x30)) 1)) (CV.int (x29 (Int.toNat (Int.tmod (w64 (x31 + 2)) x30)) 0)) (CV.int (x29 (Int.toNat (Int.tmod (w64 (x31 + 2)) x30)) 1)))
    (L62v3 fuel x28 x29 x30 m (w64 (x31 + 1)) k0 k1 k2)))) else none))) else none)) else none) else k2)

theorem nl62v3 {ρ σ : Type} (fuel : Nat) (x28 : Nat) (x29 : Nat → Nat → CV) (x30 : Int) (g : ρ → Option σ) : ∀ (m : Nat) (x31 : Int) (k0 : Int → Int → Int → Int → Option ρ) (k1 : Int → Int → Int → Int → Int → Int → Option ρ) (k2 : Option ρ), ob (L62v3 fuel x28 x29 x30 m x31 k0 k1 k2) g = L62v3 fuel x28 x29 x30 m x31 (fun x57 x58 x59 x60 => ob (k0 x57 x58 x59 x60) g) (fun x61 x62 x63 x64 x65 x66 => ob (k1 x61 x62 x63 x64 x65 x66) g) (ob k2 g)
  | 0, _, _, _, _ => rfl
  | m + 1, x31, k0, k1, k2 => by
    simp only [L62v3, ob_bif, ob_ob, ob_none, nl62v3 fuel x28 x29 x30 g m, nl62v2]

def s62v7 (x28 : Nat) (x29 : Nat → Nat → CV) (x30 : Int) (x31 : Int) : St := ⟨[.x (.c (.ro false (.pr (.int .i64) (.pr (.int .i64) .nil)) x28 x29)), .u, .u, .x (.c (.i .i64 x30)), .x (.c (.i .i64 x31)), .x (.ptr 0 0), .x (.ptr 1 0), .x (.ptr 2 0), .x (.c (.i .i64 (w64 (x31 + 2)))), .u, .u, .u, .x (.c (.i .i64 x30)), .x (.c (.i .i64 x31)), .x (.c (.b true)), .x (.c (.i .i64 x31)), .x (.c (.ro false (.pr (.int .i64) (.pr (.int .i64) .nil)) x28 x29)), .x (.c (.i .i64 x31)), .x (.c (.rp (.pr (.int .i64) (.pr (.int .i64) .nil)) (x29 (Int.toNat x31)))), .agg [(.c (.i .i64 (CV.int (x29 (Int.toNat x31) 0)))), (.c (.i .i64 (CV.int (x29 (Int.toNat x31) 1))))], .x (.c (.ro false (.pr (.int .i64) (.pr (.int .i64) .nil)) x28 x29)), .x (.c (.i .i64 x31)), .x (.c (.i .i64 (w64 (x31 + 1)))), .x (.c (.i .i64 x30)), .x (.c (.i .i64 (Int.tmod (w64 (x31 + 1)) x30))), .x (.c (.rp (.pr (.int .i64) (.pr (.int .i64) .nil)) (x29 (Int.toNat (Int.tmod (w64 (x31 + 1)) x30))))), .agg [(.c (.i .i64 (CV.int (x29 (Int.toNat (Int.tmod (w64 (x31 + 1)) x30)) 0)))), (.c (.i .i64 (CV.int (x29 (Int.toNat (Int.tmod (w64 (x31 + 1)) x30)) 1))))], .u, .u, .u, .x (.c (.ro false (.pr (.int .i64) (.pr (.int .i64) .nil)) x28 x29)), .x (.c (.i .i64 x31)), .x (.c (.i .i64 (w64 (x31 + 2)))), .x (.c (.i .i64 x30)), .x (.c (.i .i64 (Int.tmod (w64 (x31 + 2)) x30))), .x (.c (.rp (.pr (.int .i64) (.pr (.int .i64) .nil)) (x29 (Int.toNat (Int.tmod (w64 (x31 + 2)) x30))))), .agg [(.c (.i .i64 (CV.int (x29 (Int.toNat (Int.tmod (w64 (x31 + 2)) x30)) 0)))), (.c (.i .i64 (CV.int (x29 (Int.toNat (Int.tmod (w64 (x31 + 2)) x30)) 1))))], .u, .u, .u, .u, .u, .u, .u, .u, .u, .u, .u, .u, .u, .u, .u, .u, .u, .u, .u, .u, .u, .u, .u, .u, .u, .u, .u, .u, .u, .u, .u, .x (.c (.i .i64 x31)), .x (.c (.i .i64 (w64 (x31 + 2)))), .u, .u, .u, .u, .u, .u, .u, .u, .u, .u, .u, .u, .u, .u, .u, .u, .u, .u, .u, .u, .u, .u, .u, .u, .u, .u, .u, .u],
    [.box [(.c (.i .i64 (CV.int (x29 (Int.toNat x31) 0)))), (.c (.i .i64 (CV.int (x29 (Int.toNat x31) 1))))], .box [(.c (.i .i64 (CV.int (x29 (Int.toNat (Int.tmod (w64 (x31 + 1)) x30)) 0)))), (.c (.i .i64 (CV.int (x29 (Int.toNat (Int.tmod (w64 (x31 + 1)) x30)) 1))))], .box [(.c (.i .i64 (CV.int (x29 (Int.toNat (Int.tmod (w64 (x31 + 2)) x30)) 0)))), (.c (.i .i64 (CV.int (x29 (Int.toNat (Int.tmod (w64 (x31 + 2)) x30)) 1))))]]⟩

theorem r62v3 (fuel : Nat) (m : Nat) {ρ : Type} (k : Ex → St → Option ρ) (x28 : Nat) (x29 : Nat → Nat → CV) (x30 : Int) (x31 : Int) :
    loopH (B62v3 (C11 fuel) fuel) N62v3 (m + 1) (s62v3 x28 x29 x30 x31) k =
    (bif (decide (x31 < x30)) then (bif (inb x31 x28) then (bif (x30 == 0) then none else (bif (inb (Int.tmod (w64 (x31 + 1)) x30) x28) then (bif (((CV.int (x29 (Int.toNat x31) 0)) == (CV.int (x29 (Int.toNat (Int.tmod (w64 (x31 + 1)) x30)) 0))) && (((CV.int (x29 (Int.toNat x31) 1)) == (CV.int (x29 (Int.toNat (Int.tmod (w64 (x31 + 1)) x30)) 1))) && true)) then (k .ret (s62v4 (CV.int (x29 (Int.toNat x31) 0)) (CV.int (x29 (Int.toNat x31) 1)) (CV.int (x29 (Int.toNat (Int.tmod (w64 (x31 + 1)) x30)) 0)) (CV.int (x29 (Int.toNat (Int.tmod (w64 (x31 + 1)) x30)) 1)))) else (bif (x30 == 0) then none else (bif (inb (Int.tmod (w64 (x31 + 2)) x30) x28) then (ob (F79 fuel (CV.int (x29 (Int.toNat x31) 0)) (CV.int (x29 (Int.toNat x31) 1)) (CV.int (x29 (Int.toNat (Int.tmod (w64 (x31 + 1)) x30)) 0)) (CV.int (x29 (Int.toNat (Int.tmod (w64 (x31 + 1)) x30)) 1)) (CV.int (x29 (Int.toNat (Int.tmod (w64 (x31 + 2)) x30)) 0)) (CV.int (x29 (Int.toNat (Int.tmod (w64 (x31 + 2)) x30)) 1))) fun x32 => (bif ((x32 == 0) == true) then (bif (decide ((w64 ((w64 ((w64 ((CV.int (x29 (Int.toNat x31) 0)) - (CV.int (x29 (Int.toNat (Int.tmod (w64 (x31 + 1)) x30)) 0)))) * (w64 ((CV.int (x29 (Int.toNat (Int.tmod (w64 (x31 + 2)) x30)) 0)) - (CV.int (x29 (Int.toNat (Int.tmod (w64 (x31 + 1)) x30)) 0)))))) + (w64 ((w64 ((CV.int (x29 (Int.toNat x31) 1)) - (CV.int (x29 (Int.toNat (Int.tmod (w64 (x31 + 1)) x30)) 1)))) * (w64 ((CV.int (x29 (Int.toNat (Int.tmod (w64 (x31 + 2)) x30)) 1)) - (CV.int (x29 (Int.toNat (Int.tmod (w64 (x31 + 1)) x30)) 1)))))))) > 0)) then (k .ret (s62v5 (CV.int (x29 (Int.toNat x31) 0)) (CV.int (x29 (Int.toNat x31) 1)) (CV.int (x29 (Int.toNat (Int.tmod (w64 (x31 + 1)) x30)) 0)) (CV.int (x29 (Int.toNat (Int.tmod (w64 (x31 + 1)) x30)) 1)) (CV.int (x29 (Int.toNat (Int.tmod (w64 (x31 + 2)) x30)) 0)) (CV.int (x29 (Int.toNat (Int.tmod (w64 (x31 + 2)) x30)) 1)))) else (loopN (B62v2 (C11 fuel) fuel) N62v2 fuel (s62v7 x28 x29 x30 x31) (kBlk 2 (kBlk 1 (kSeq (C11 fuel) fuel [2, 4, 5, 6, 7, 8, 15, 16, 17, 18, 19, 20, 21, 22, 23, 24, 25, 26, 27, 28, 29, 30, 31, 32, 33, 34, 35, 36, 37, 38, 39, 40, 41, 42, 43, 44, 45, 46, 47, 48, 49, 50, 51, 52, 53, 54, 55, 56, 57, 58, 59, 60, 61, 62, 63, 64, 65, 66, 67, 68, 69, 70, 71, 72, 73, 74, 75, 76, 77, 78, 79, 80, 81, 82, 83, 84, 85, 86, 87, 88, 89, 90, 91, 92, 93, 94, 95, 96] A62v6 (kLoop (B62v3 (C11 fuel) fuel) N62v3 m k)))))) else (loopN (B62v2 (C11 fuel) fuel) N62v2 fuel (s62v7 x28 x29 x30 x31) (kBlk 2 (kBlk 1 (kSeq (C11 fuel) fuel [2, 4, 5, 6, 7, 8, 15, 16, 17, 18, 19, 20, 21, 22, 23, 24, 25, 26, 27, 28, 29, 30, 31, 32, 33, 34, 35, 36, 37, 38, 39, 40, 41, 42, 43, 44, 45, 46, 47, 48, 49, 50, 51, 52, 53, 54, 55, 56, 57, 58, 59, 60, 61, 62, 63, 64, 65, 66, 67, 68, 69, 70, 71, 72, 73, 74, 75, 76, 77, 78, 79, 80, 81, 82, 83, 84, 85, 86, 87, 88, 89, 90, 91, 92, 93, 94, 95, 96] A62v6 (kLoop (B62v3 (C11 fuel) fuel) N62v3 m k))))))) else none))) else none)) else none) else (k (.exit 0) s62v6)) := by kernel_rfl

theorem t62v1 (fuel : Nat) {ρ : Type} (k : Ex → St → Option ρ) (x28 : Nat) (x29 : Nat → Nat → CV) (x30 : Int) (x31 : Int) :
    loopN (B62v2 (C11 fuel) fuel) N62v2 fuel (s62v7 x28 x29 x30 x31) k =
    L62v2 fuel x28 x29 x30 x31 (CV.int (x29 (Int.toNat x31) 0)) (CV.int (x29 (Int.toNat x31) 1)) (CV.int (x29 (Int.toNat (Int.tmod (w64 (x31 + 1)) x30)) 0)) (CV.int (x29 (Int.toNat (Int.tmod (w64 (x31 + 1)) x30)) 1)) (CV.int (x29 (Int.toNat (Int.tmod (w64 (x31 + 2)) x30)) 0)) (CV.int (x29 (Int.toNat (Int.tmod (w64 (x31 + 2)) x30)) 1)) fuel (w64 (x31 + 2)) (k .ret (s62v1 (CV.int (x29 (Int.toNat x31) 0)) (CV.int (x29 (Int.toNat x31) 1)) (CV.int (x29 (Int.toNat (Int.tmod (w64 (x31 + 1)) x30)) 0)) (CV.int (x29 (Int.toNat (Int.tmod (w64 (x31 + 1)) x30)) 1)) (CV.int (x29 (Int.toNat (Int.tmod (w64 (x31 + 2)) x30)) 0)) (CV.int (x29 (Int.toNat (Int.tmod (w64 (x31 + 2)) x30)) 1)))) (k (.exit 2) (s62v2 x28 x29 x30 x31 (CV.int (x29 (Int.toNat x31) 0)) (CV.int (x29 (Int.toNat x31) 1)) (CV.int (x29 (Int.toNat (Int.tmod (w64 (x31 + 1)) x30)) 0)) (CV.int (x29 (Int.toNat (Int.tmod (w64 (x31 + 1)) x30)) 1)) (CV.int (x29 (Int.toNat (Int.tmod (w64 (x31 + 2)) x30)) 0)) (CV.int (x29 (Int.toNat (Int.tmod (w64 (x31 + 2)) x30)) 1)))) :=
  (loopN_at (st' := (s62v0 x28 x29 x30 x31 (w64 (x31 + 2)) (CV.int (x29 (Int.toNat x31) 0)) (CV.int (x29 (Int.toNat x31) 1)) (CV.int (x29 (Int.toNat (Int.tmod (w64 (x31 + 1)) x30)) 0)) (CV.int (x29 (Int.toNat (Int.tmod (w64 (x31 + 1)) x30)) 1)) (CV.int (x29 (Int.toNat (Int.tmod (w64 (x31 + 2)) x30)) 0)) (CV.int (x29 (Int.toNat (Int.tmod (w64 (x31 + 2)) x30)) 1)))) (by kernel_rfl)).trans (q62v2 fuel x28 x29 x30 x31 (CV.int (x29 (Int.toNat x31) 0)) (CV.int (x29 (Int.toNat x31) 1)) (CV.int (x29 (Int.toNat (Int.tmod (w64 (x31 + 1)) x30)) 0)) (CV.int (x29 (Int.toNat (Int.tmod (w64 (x31 + 1)) x30)) 1)) (CV.int (x29 (Int.toNat (Int.tmod (w64 (x31 + 2)) x30)) 0)) (CV.int (x29 (Int.toNat (Int.tmod (w64 (x31 + 2)) x30)) 1)) k fuel (w64 (x31 + 2)))

theorem g62v2 (fuel : Nat) (m : Nat) {ρ : Type} (k : Ex → St → Option ρ) (x29 : Nat → Nat → CV) (x31 : Int) (x30 : Int) :
    (kBlk 2 (kBlk 1 (kSeq (C11 fuel) fuel [2, 4, 5, 6, 7, 8, 15, 16, 17, 18, 19, 20, 21, 22, 23, 24, 25, 26, 27, 28, 29, 30, 31, 32, 33, 34, 35, 36, 37, 38, 39, 40, 41, 42, 43, 44, 45, 46, 47, 48, 49, 50, 51, 52, 53, 54, 55, 56, 57, 58, 59, 60, 61, 62, 63, 64, 65, 66, 67, 68, 69, 70, 71, 72, 73, 74, 75, 76, 77, 78, 79, 80, 81, 82, 83, 84, 85, 86, 87, 88, 89, 90, 91, 92, 93, 94, 95, 96] A62v6 (kLoop (B62v3 (C11 fuel) fuel) N62v3 m k)))) .ret (s62v1 (CV.int (x29 (Int.toNat x31) 0)) (CV.int (x29 (Int.toNat x31) 1)) (CV.int (x29 (Int.toNat (Int.tmod (w64 (x31 + 1)) x30)) 0)) (CV.int (x29 (Int.toNat (Int.tmod (w64 (x31 + 1)) x30)) 1)) (CV.int (x29 (Int.toNat (Int.tmod (w64 (x31 + 2)) x30)) 0)) (CV.int (x29 (Int.toNat (Int.tmod (w64 (x31 + 2)) x30)) 1))) =
    (k .ret (s62v5 (CV.int (x29 (Int.toNat x31) 0)) (CV.int (x29 (Int.toNat x31) 1)) (CV.int (x29 (Int.toNat (Int.tmod (w64 (x31 + 1)) x30)) 0)) (CV.int (x29 (Int.toNat (Int.tmod (w64 (x31 + 1)) x30)) 1)) (CV.int (x29 (Int.toNat (Int.tmod (w64 (x31 + 2)) x30)) 0)) (CV.int (x29 (Int.toNat (Int.tmod (w64 (x31 + 2)) x30)) 1)))) := by kernel_rfl

theorem g62v3 (fuel : Nat) (m : Nat) {ρ : Type} (k : Ex → St → Option ρ) (x28 : Nat) (x29 : Nat → Nat → CV) (x30 : Int) (x31 : Int) :
    (kBlk 2 (kBlk 1 (kSeq (C11 fuel) fuel [2, 4, 5, 6, 7, 8, 15, 16, 17, 18, 19, 20, 21, 22, 23, 24, 25, 26, 27, 28, 29, 30, 31, 32, 33, 34, 35, 36, 37, 38, 39, 40, 41, 42, 43, 44, 45, 46, 47, 48, 49, 50, 51, 52, 53, 54, 55, 56, 57, 58, 59, 60, 61, 62, 63, 64, 65, 66, 67, 68, 69, 70, 71, 72, 73, 74, 75, 76, 77, 78, 79, 80, 81, 82, 83, 84, 85, 86, 87, 88, 89, 90, 91, 92, 93, 94, 95, 96] A62v6 (kLoop (B62v3 (C11 fuel) fuel) N62v3 m k)))) (.exit 2) (s62v2 x28 x29 x30 x31 (CV.int (x29 (Int.toNat x31) 0)) (CV.int (x29 (Int.toNat x31) 1)) (CV.int (x29 (Int.toNat (Int.tmod (w64 (x31 + 1)) x30)) 0)) (CV.int (x29 (Int.toNat (Int.tmod (w64 (x31 + 1)) x30)) 1)) (CV.int (x29 (Int.toNat (Int.tmod (w64 (x31 + 2)) x30)) 0)) (CV.int (x29 (Int.toNat (Int.tmod (w64 (x31 + 2)) x30)) 1))) =
    (loopH (B62v3 (C11 fuel) fuel) N62v3 m (s62v3 x28 x29 x30 (w64 (x31 + 1))) k) := by kernel_rfl

theorem t62v4 (fuel : Nat) {ρ : Type} (k : Ex → St → Option ρ) (x28 : Nat) (x29 : Nat → Nat → CV) (x30 : Int) (x31 : Int) :
    loopN (B62v2 (C11 fuel) fuel) N62v2 fuel (s62v7 x28 x29 x30 x31) k =
    L62v2 fuel x28 x29 x30 x31 (CV.int (x29 (Int.toNat x31) 0)) (CV.int (x29 (Int.toNat x31) 1)) (CV.int (x29 (Int.toNat (Int.tmod (w64 (x31 + 1)) x30)) 0)) (CV.int (x29 (Int.toNat (Int.tmod (w64 (x31 + 1)) x30)) 1)) (CV.int (x29 (Int.toNat (Int.tmod (w64 (x31 + 2)) x30)) 0)) (CV.int (x29 (Int.toNat (Int.tmod (w64 (x31 + 2)) x30)) 1)) fuel (w64 (x31 + 2)) (k .ret (s62v1 (CV.int (x29 (Int.toNat x31) 0)) (CV.int (x29 (Int.toNat x31) 1)) (CV.int (x29 (Int.toNat (Int.tmod (w64 (x31 + 1)) x30)) 0)) (CV.int (x29 (Int.toNat (Int.tmod (w64 (x31 + 1)) x30)) 1)) (CV.int (x29 (Int.toNat (Int.tmod (w64 (x31 + 2)) x30)) 0)) (CV.int (x29 (Int.toNat (Int.tmod (w64 (x31 + 2)) x30)) 1)))) (k (.exit 2) (s62v2 x28 x29 x30 x31 (CV.int (x29 (Int.toNat x31) 0)) (CV.int (x29 (Int.toNat x31) 1)) (CV.int (x29 (Int.toNat (Int.tmod (w64 (x31 + 1)) x30)) 0)) (CV.int (x29 (Int.toNat (Int.tmod (w64 (x31 + 1)) x30)) 1)) (CV.int (x29 (Int.toNat (Int.tmod (w64 (x31 + 2)) x30)) 0)) (CV.int (x29 (Int.toNat (Int.tmod (w64 (x31 + 2)) x30)) 1)))) :=
  (loopN_at (st' := (s62v0 x28 x29 x30 x31 (w64 (x31 + 2)) (CV.int (x29 (Int.toNat x31) 0)) (CV.int (x29 (Int.toNat x31) 1)) (CV.int (x29 (Int.toNat (Int.tmod (w64 (x31 + 1)) x30)) 0)) (CV.int (x29 (Int.toNat (Int.tmod (w64 (x31 + 1)) x30)) 1)) (CV.int (x29 (Int.toNat (Int.tmod (w64 (x31 + 2)) x30)) 0)) (CV.int (x29 (Int.toNat (Int.tmod (w64 (x31 + 2)) x30)) 1)))) (by kernel_rfl)).trans (q62v2 fuel x28 x29 x30 x31 (CV.int (x29 (Int.toNat x31) 0)) (CV.int (x29 (Int.toNat x31) 1)) (CV.int (x29 (Int.toNat (Int.tmod (w64 (x31 + 1)) x30)) 0)) (CV.int (x29 (Int.toNat (Int.tmod (w64 (x31 + 1)) x30)) 1)) (CV.int (x29 (Int.toNat (Int.tmod (w64 (x31 + 2)) x30)) 0)) (CV.int (x29 (Int.toNat (Int.tmod (w64 (x31 + 2)) x30)) 1)) k fuel (w64 (x31 + 2)))

theorem g62v5 (fuel : Nat) (m : Nat) {ρ : Type} (k : Ex → St → Option ρ) (x29 : Nat → Nat → CV) (x31 : Int) (x30 : Int) :
    (kBlk 2 (kBlk 1 (kSeq (C11 fuel) fuel [2, 4, 5, 6, 7, 8, 15, 16, 17, 18, 19, 20, 21, 22, 23, 24, 25, 26, 27, 28, 29, 30, 31, 32, 33, 34, 35, 36, 37, 38, 39, 40, 41, 42, 43, 44, 45, 46, 47, 48, 49, 50, 51, 52, 53, 54, 55, 56, 57, 58, 59, 60, 61, 62, 63, 64, 65, 66, 67, 68, 69, 70, 71, 72, 73, 74, 75, 76, 77, 78, 79, 80, 81, 82, 83, 84, 85, 86, 87, 88, 89, 90, 91, 92, 93, 94, 95, 96] A62v6 (kLoop (B62v3 (C11 fuel) fuel) N62v3 m k)))) .ret (s62v1 (CV.int (x29 (Int.toNat x31) 0)) (CV.int (x29 (Int.toNat x31) 1)) (CV.int (x29 (Int.toNat (Int.tmod (w64 (x31 + 1)) x30)) 0)) (CV.int (x29 (Int.toNat (Int.tmod (w64 (x31 + 1)) x30)) 1)) (CV.int (x29 (Int.toNat (Int.tmod (w64 (x31 + 2)) x30)) 0)) (CV.int (x29 (Int.toNat (Int.tmod (w64 (x31 + 2)) x30)) 1))) =
    (k .ret (s62v5 (CV.int (x29 (Int.toNat x31) 0)) (CV.int (x29 (Int.toNat x31) 1)) (CV.int (x29 (Int.toNat (Int.tmod (w64 (x31 + 1)) x30)) 0)) (CV.int (x29 (Int.toNat (Int.tmod (w64 (x31 + 1)) x30)) 1)) (CV.int (x29 (Int.toNat (Int.tmod (w64 (x31 + 2)) x30)) 0)) (CV.int (x29 (Int.toNat (Int.tmod (w64 (x31 + 2)) x30)) 1)))) := by kernel_rfl

theorem g62v6 (fuel : Nat) (m : Nat) {ρ : Type} (k : Ex → St → Option ρ) (x28 : Nat) (x29 : Nat → Nat → CV) (x30 : Int) (x31 : Int) :
    (kBlk 2 (kBlk 1 (kSeq (C11 fuel) fuel [2, 4, 5, 6, 7, 8, 15, 16, 17, 18, 19, 20, 21, 22, 23, 24, 25, 26, 27, 28, 29, 30, 31, 32, 33, 34, 35, 36, 37, 38, 39, 40, 41, 42, 43, 44, 45, 46, 47, 48, 49, 50, 51, 52, 53, 54, 55, 56, 57, 58, 59, 60, 61, 62, 63, 64, 65, 66, 67, 68, 69, 70, 71, 72, 73, 74, 75, 76, 77, 78, 79, 80, 81, 82, 83, 84, 85, 86, 87, 88, 89, 90, 91, 92, 93, 94, 95, 96] A62v6 (kLoop (B62v3 (C11 fuel) fuel) N62v3 m k)))) (.exit 2) (s62v2 x28 x29 x30 x31 (CV.int (x29 (Int.toNat x31) 0)) (CV.int (x29 (Int.toNat x31) 1)) (CV.int (x29 (Int.toNat (Int.tmod (w64 (x31 + 1)) x30)) 0)) (CV.int (x29 (Int.toNat (Int.tmod (w64 (x31 + 1)) x30)) 1)) (CV.int (x29 (Int.toNat (Int.tmod (w64 (x31 + 2)) x30)) 0)) (CV.int (x29 (Int.toNat (Int.tmod (w64 (x31 + 2)) x30)) 1))) =
    (loopH (B62v3 (C11 fuel) fuel) N62v3 m (s62v3 x28 x29 x30 (w64 (x31 + 1))) k) := by kernel_rfl

theorem q62v3 (fuel : Nat) (x28 : Nat) (x29 : Nat → Nat → CV) (x30 : Int) {ρ : Type} (k : Ex → St → Option ρ) : ∀ (m : Nat) (x31 : Int),
    loopH (B62v3 (C11 fuel) fuel) N62v3 m (s62v3 x28 x29 x30 x31) k = L62v3 fuel x28 x29 x30 m x31 (fun x57 x58 x59 x60 => k .ret (s62v4 x57 x58 x59 x60)) (fun x61 x62 x63 x64 x65 x66 => k .ret (s62v5 x61 x62 x63 x64 x65 x66)) (k (.exit 0) s62v6)
  | 0, _ => rfl
  | m + 1, x31 => by
    rw [r62v3]
    simp only [L62v3, q62v3 fuel x28 x29 x30 k m, t62v1, g62v2, g62v3, t62v4, g62v5, g62v6]

def D62 {ρ : Type} (fuel : Nat) (x1 : Nat) (x2 : Nat → Nat → CV) (k : Bool → Option ρ) : Option ρ :=
  (L62v3 fuel x1 x2 (Int.ofNat x1) fuel 0
    (fun x67 x68 x69 x70 => (k false))
    (fun x71 x72 x73 x74 x75 x76 => (k false))
    (k true))

def F62 (fuel : Nat) (x1 : Nat) (x2 : Nat → Nat → CV) : Option (Bool) := D62 fuel x1 x2 some

theorem n62 {ρ σ : Type} (fuel : Nat) (x1 : Nat) (x2 : Nat → Nat → CV) (k : (Bool) → Option ρ) (g : ρ → Option σ) : ob (D62 fuel x1 x2 k) g = D62 fuel x1 x2 fun t => ob (k t) g := by
  simp only [D62, ob_bif, ob_ob, ob_none, nl62v3]

theorem f62 {ρ : Type} (fuel : Nat) (x1 : Nat) (x2 : Nat → Nat → CV) (k : (Bool) → Option ρ) : D62 fuel x1 x2 k = ob (F62 fuel x1 x2) k := by
  unfold F62
  rw [n62]
  simp only [ob_some]

def s62v8 (x1 : Nat) (x2 : Nat → Nat → CV) : St := ⟨[.x (.c (.ro false (.pr (.int .i64) (.pr (.int .i64) .nil)) x1 x2)), .undef, .x (.c (.b false)), .x (.c (.i .i64 (Int.ofNat x1))), .undef, .undef, .undef, .undef, .undef, .x (.c (.ro false (.pr (.int .i64) (.pr (.int .i64) .nil)) x1 x2)), .x (.c (.i .i64 (Int.ofNat x1))), .x (.c (.ro false (.pr (.int .i64) (.pr (.int .i64) .nil)) x1 x2)), .x (.c (.i .i64 (Int.ofNat x1))), .x (.c (.i .i64 0)), .undef, .undef, .undef, .undef, .undef, .undef, .undef, .undef, .undef, .undef, .undef, .undef, .undef, .undef, .undef, .undef, .undef, .undef, .undef, .undef, .undef, .undef, .undef, .undef, .undef, .undef, .undef, .undef, .undef, .undef, .undef, .undef, .undef, .undef, .undef, .undef, .undef, .undef, .undef, .undef, .undef, .undef, .undef, .undef, .undef, .undef, .undef, .undef, .undef, .undef, .undef, .undef, .undef, .undef, .undef, .undef, .undef, .undef, .undef, .undef, .undef, .undef, .undef, .undef, .undef, .undef, .undef, .undef, .undef, .undef, .undef, .undef, .undef, .undef, .undef, .undef, .undef, .undef, .undef, .undef, .undef, .undef, .undef, .undef],
    []⟩

theorem walk62 (fuel : Nat) (x1 : Nat) (x2 : Nat → Nat → CV) :
    evalF (C11 fuel) fuel A62 [.v (.ro false (.pr (.int .i64) (.pr (.int .i64) .nil)) x1 x2)] =
    (loopN (B62v3 (C11 fuel) fuel) N62v3 fuel (s62v8 x1 x2) (kBlk 0 (kSeq (C11 fuel) fuel [2, 4, 5, 6, 7, 8, 11, 12, 13, 14, 15, 16, 17, 18, 19, 20, 21, 22, 23, 24, 25, 26, 27, 28, 29, 30, 31, 32, 33, 34, 35, 36, 37, 38, 39, 40, 41, 42, 43, 44, 45, 46, 47, 48, 49, 50, 51, 52, 53, 54, 55, 56, 57, 58, 59, 60, 61, 62, 63, 64, 65, 66, 67, 68, 69, 70, 71, 72, 73, 74, 75, 76, 77, 78, 79, 80, 81, 82, 83, 84, 85, 86, 87, 88, 89, 90, 91, 92, 93, 94, 95, 96, 97] A62v9 (finish A62)))) := by kernel_rfl

theorem t62v7 (fuel : Nat) {ρ : Type} (k : Ex → St → Option ρ) (x1 : Nat) (x2 : Nat → Nat → CV) :
    loopN (B62v3 (C11 fuel) fuel) N62v3 fuel (s62v8 x1 x2) k =
    L62v3 fuel x1 x2 (Int.ofNat x1) fuel 0 (fun x57 x58 x59 x60 => k .ret (s62v4 x57 x58 x59 x60)) (fun x61 x62 x63 x64 x65 x66 => k .ret (s62v5 x61 x62 x63 x64 x65 x66)) (k (.exit 0) s62v6) :=
  (loopN_at (st' := (s62v3 x1 x2 (Int.ofNat x1) 0)) (by kernel_rfl)).trans (q62v3 fuel x1 x2 (Int.ofNat x1) k fuel 0)

theorem g62v8 (fuel : Nat) (x67 : Int) (x68 : Int) (x69 : Int) (x70 : Int) :
    (kBlk 0 (kSeq (C11 fuel) fuel [2, 4, 5, 6, 7, 8, 11, 12, 13, 14, 15, 16, 17, 18, 19, 20, 21, 22, 23, 24, 25, 26, 27, 28, 29, 30, 31, 32, 33, 34, 35, 36, 37, 38, 39, 40, 41, 42, 43, 44, 45, 46, 47, 48, 49, 50, 51, 52, 53, 54, 55, 56, 57, 58, 59, 60, 61, 62, 63, 64, 65, 66, 67, 68, 69, 70, 71, 72, 73, 74, 75, 76, 77, 78, 79, 80, 81, 82, 83, 84, 85, 86, 87, 88, 89, 90, 91, 92, 93, 94, 95, 96, 97] A62v9 (finish A62))) .ret (s62v4 x67 x68 x69 x70) =
    (some [.v (.b false)]) := by kernel_rfl

theorem g62v9 (fuel : Nat) (x71 : Int) (x72 : Int) (x73 : Int) (x74 : Int) (x75 : Int) (x76 : Int) :
    (kBlk 0 (kSeq (C11 fuel) fuel [2, 4, 5, 6, 7, 8, 11, 12, 13, 14, 15, 16, 17, 18, 19, 20, 21, 22, 23, 24, 25, 26, 27, 28, 29, 30, 31, 32, 33, 34, 35, 36, 37, 38, 39, 40, 41, 42, 43, 44, 45, 46, 47, 48, 49, 50, 51, 52, 53, 54, 55, 56, 57, 58, 59, 60, 61, 62, 63, 64, 65, 66, 67, 68, 69, 70, 71, 72, 73, 74, 75, 76, 77, 78, 79, 80, 81, 82, 83, 84, 85, 86, 87, 88, 89, 90, 91, 92, 93, 94, 95, 96, 97] A62v9 (finish A62))) .ret (s62v5 x71 x72 x73 x74 x75 x76) =
    (some [.v (.b false)]) := by kernel_rfl

theorem g62v10 (fuel : Nat) :
    (kBlk 0 (kSeq (C11 fuel) fuel [2, 4, 5, 6, 7, 8, 11, 12, 13, 14, 15, 16, 17, 18, 19, 20, 21, 22, 23, 24, 25, 26, 27, 28, 29, 30, 31, 32, 33, 34, 35, 36, 37, 38, 39, 40, 41, 42, 43, 44, 45, 46, 47, 48, 49, 50, 51, 52, 53, 54, 55, 56, 57, 58, 59, 60, 61, 62, 63, 64, 65, 66, 67, 68, 69, 70, 71, 72, 73, 74, 75, 76, 77, 78, 79, 80, 81, 82, 83, 84, 85, 86, 87, 88, 89, 90, 91, 92, 93, 94, 95, 96, 97] A62v9 (finish A62))) (.exit 0) s62v6 =
    (some [.v (.b true)]) := by kernel_rfl

theorem e62 (fuel : Nat) (x1 : Nat) (x2 : Nat → Nat → CV) : evalF (C11 fuel) fuel A62 [.v (.ro false (.pr (.int .i64) (.pr (.int .i64) .nil)) x1 x2)] = ob (F62 fuel x1 x2) fun t => some [.v (.b t)] := by
  rw [walk62, ← f62]
  simp only [D62, t62v7, g62v8, g62v9, g62v10]

def O62 (fuel : Nat) : Ora where
  o := fun args {ρ} K =>
    wc args fun a1 l2 =>
    wv a1 fun c3 =>
    wL (.pr (.int .i64) (.pr (.int .i64) .nil)) c3 fun y4 y5 =>
    wn l2 <|
    (ob (F62 fuel y4 y5) fun t => K [.v (.b t)])
  nat := fun args {ρ} K => by
    simp only [bind_wc, bind_wn, bind_wv, bind_wagg, bind_wI, bind_wB, bind_wS, bind_wL, bind_wP, bind_wFn, bind_ob, Option.bind_some]

theorem d62 {P : Program} (fuel : Nat) (hmix : P.follows .mixedOrders = true) (hC : Sound P (C11 fuel)) (hF : FFits P 62 A62) (args res : List A) (h : (O62 fuel).o args some = some res) : Den P 62 args res := by
  obtain ⟨a1, l2, rfl, z0⟩ := inv_wc h
  obtain ⟨c3, rfl, z1⟩ := inv_wv z0
  obtain ⟨y4, y5, h6, z2⟩ := inv_wL z1
  obtain ⟨hn, z3⟩ := inv_wn z2
  cases hn
  exact Den.weaken (.cons (WkA.v h6) .nil) (evalF_sound hmix hC hF ((e62 fuel y4 y5).trans z3))

def C12 (fuel : Nat) : Oracle := (C11 fuel).add 62 (fun _ => true) (O62 fuel)

/-- shipyard/poly.area -/
def A63v1 : AC := (.seq (.block 1
  (.seq (.region 4 [
    ⟨(some 11), .move (.tmp 9), none⟩,
    ⟨(some 12), .indexAddr 22 34 2 (.tmp 7) (.tmp 9), none⟩,
    ⟨(some 13), .load 34 (some 2) (.tmp 12), none⟩,
    ⟨(some 5), .alloc 0 34 [.c (.i .i64 0), .c (.i .i64 0)], none⟩,
    ⟨(some 4), .assign (.tmp 11), none⟩,
    ⟨none, .store 34 2 (.tmp 5) (.tmp 13), none⟩] 1 none) []
    (.seq (.region 5 [
    ⟨(some 14), .move (.tmp 0), none⟩,
    ⟨(some 15), .move (.tmp 4), none⟩,
    ⟨(some 16), .binOp .add 3 (.tmp 15) (.const (.int .i64 1)) 3, none⟩,
    ⟨(some 17), .move (.tmp 0), none⟩,
    ⟨(some 18), .len 22 false (.tmp 17), none⟩,
    ⟨(some 19), .binOp .rem 3 (.tmp 16) (.tmp 18) 3, none⟩,
    ⟨(some 20), .indexAddr 22 34 2 (.tmp 14) (.tmp 19), none⟩,
    ⟨(some 21), .load 34 (some 2) (.tmp 20), none⟩,
    ⟨(some 6), .alloc 0 34 [.c (.i .i64 0), .c (.i .i64 0)], none⟩,
    ⟨none, .store 34 2 (.tmp 6) (.tmp 21), none⟩] 1 none) []
    (.region 6 [
    ⟨(some 22), .move (.tmp 3), none⟩,
    ⟨(some 23), .fieldAddr 34 (.tmp 5) 0 0, none⟩,
    ⟨(some 24), .load 3 none (.tmp 23), none⟩,
    ⟨(some 25), .fieldAddr 34 (.tmp 6) 1 1, none⟩,
    ⟨(some 26), .load 3 none (.tmp 25), none⟩,
    ⟨(some 27), .binOp .mul 3 (.tmp 24) (.tmp 26) 3, none⟩,
    ⟨(some 28), .fieldAddr 34 (.tmp 6) 0 0, none⟩,
    ⟨(some 29), .load 3 none (.tmp 28), none⟩,
    ⟨(some 30), .fieldAddr 34 (.tmp 5) 1 1, none⟩,
    ⟨(some 31), .load 3 none (.tmp 30), none⟩,
    ⟨(some 32), .binOp .mul 3 (.tmp 29) (.tmp 31) 3, none⟩,
    ⟨(some 33), .binOp .sub 3 (.tmp 27) (.tmp 32) 3, none⟩,
    ⟨(some 34), .binOp .add 3 (.tmp 22) (.tmp 33) 3, none⟩,
    ⟨(some 3), .assign (.tmp 34), none⟩] 0 none)))) []
  (.region 7 [
  ⟨(some 35), .binOp .add 3 (.tmp 9) (.const (.int .i64 1)) 3, none⟩,
  ⟨(some 9), .move (.tmp 35), none⟩] 0 none))
def A63v2 : AC := (.seq (.region 3 [
  ⟨(some 10), .binOp .lss 3 (.tmp 9) (.tmp 8) 3, none⟩] 0 none) []
  (.seq (.cond (.tmp 10)
  .skip
  (.exit 0 [0, 1, 2, 4, 5, 6, 7, 8, 9, 10, 11, 12, 13, 14, 15, 16, 17, 18, 19, 20, 21, 22, 23, 24, 25, 26, 27, 28, 29, 30, 31, 32, 33, 34, 35, 36])) []
  A63v1))
def A63v3 : AC := (.seq (.region 8 [
  ⟨(some 36), .move (.tmp 3), none⟩,
  ⟨(some 2), .assign (.tmp 36), none⟩] 0 none) []
  (.ret [0, 1, 3, 4, 5, 6, 7, 8, 9, 10, 11, 12, 13, 14, 15, 16, 17, 18, 19, 20, 21, 22, 23, 24, 25, 26, 27, 28, 29, 30, 31, 32, 33, 34, 35, 36]))
def A63 : AF := ⟨37, [.tmp 2],
  (.seq (.region 0 [
  ⟨(some 2), .assign (.const (.int .i64 0)), none⟩] 0 none) []
  (.seq (.region 1 [
  ⟨(some 3), .assign (.const (.int .i64 0)), none⟩] 0 none) []
  (.seq (.seq (.region 2 [
  ⟨(some 7), .move (.tmp 0), none⟩,
  ⟨(some 8), .len 22 false (.tmp 7), none⟩,
  ⟨(some 9), .move (.const (.int .i64 0)), none⟩] 0 none) []
  (.block 0
  (.loop [] [1, 2, 4, 5, 6, 10, 11, 12, 13, 14, 15, 16, 17, 18, 19, 20, 21, 22, 23, 24, 25, 26, 27, 28, 29, 30, 31, 32, 33, 34, 35, 36]
    A63v2))) [4, 5, 6, 7, 8, 9, 10, 11, 12, 13, 14, 15, 16, 17, 18, 19, 20, 21, 22, 23, 24, 25, 26, 27, 28, 29, 30, 31, 32, 33, 34, 35]
  A63v3)))⟩

def B63v1 (C : Oracle) (fuel : Nat) {ρ : Type} : St → (Ex → St → Option ρ) → Option ρ := fun st k => evalC C fuel A63v2 st k
def N63v1 : St → Option St := fun s => s.norm [1, 2, 4, 5, 6, 10, 11, 12, 13, 14, 15, 16, 17, 18, 19, 20, 21, 22, 23, 24, 25, 26, 27, 28, 29, 30, 31, 32, 33, 34, 35, 36] 0

def s63v0 (x6 : Nat) (x7 : Nat → Nat → CV) (x8 : Int) (x9 : Int) (x10 : Int) : St := ⟨[.x (.c (.ro false (.pr (.int .i64) (.pr (.int .i64) .nil)) x6 x7)), .u, .u, .x (.c (.i .i64 x8)), .u, .u, .u, .x (.c (.ro false (.pr (.int .i64) (.pr (.int .i64) .nil)) x6 x7)), .x (.c (.i .i64 x9)), .x (.c (.i .i64 x10)), .u, .u, .u, .u, .u, .u, .u, .u, .u, .u, .u, .u, .u, .u, .u, .u, .u, .u, .u, .u, .u, .u, .u, .u, .u, .u, .u],
    []⟩

def s63v1 (x11 : Int) : St := ⟨[.u, .u, .u, .x (.c (.i .i64 x11)), .u, .u, .u, .u, .u, .u, .u, .u, .u, .u, .u, .u, .u, .u, .u, .u, .u, .u, .u, .u, .u, .u, .u, .u, .u, .u, .u, .u, .u, .u, .u, .u, .u],
    []⟩

def L63v1 {ρ : Type} (fuel : Nat) (x6 : Nat) (x7 : Nat → Nat → CV) (x9 : Int) : Nat → Int → Int → (Int → Option ρ) → Option ρ
  | 0, _, _, _ => none
  | m + 1, x8, x10, k0 =>
    (bif (decide (x10 < x9)) then (bif (inb x10 x6) then (bif ((Int.ofNat x6) == 0) then none else (bif (inb (Int.tmod (w64 (x10 + 1)) (Int.ofNat x6)) x6) then (L63v1 fuel x6 x7 x9 m (w64 (x8 + (w64 ((w64 ((CV.int (x7 (Int.toNat x10) 0)) * (CV.int (x7 (Int.toNat (Int.tmod (w64 (x10 + 1)) (Int.ofNat x6))) 1)))) - (w64 ((CV.int (x7 (Int.toNat (Int.tmod (w64 (x10 + 1)) (Int.ofNat x6))) 0)) * (CV.int (x7 (Int.toNat x10) 1)))))))) (w64 (x10 + 1)) k0) else none)) else none) else (k0 x8))

theorem nl63v1 {ρ σ : Type} (fuel : Nat) (x6 : Nat) (x7 : Nat → Nat → CV) (x9 : Int) (g : ρ → Option σ) : ∀ (m : Nat) (x8 : Int) (x10 : Int) (k0 : Int → Option ρ), ob (L63v1 fuel x6 x7 x9 m x8 x10 k0) g = L63v1 fuel x6 x7 x9 m x8 x10 (fun x11 => ob (k0 x11) g)
  | 0, _, _, _ => rfl
  | m + 1, x8, x10, k0 => by
    simp only [L63v1, ob_bif, ob_ob, ob_none, nl63v1 fuel x6 x7 x9 g m]

theorem r63v1 (fuel : Nat) (m : Nat) {ρ : Type} (k : Ex → St → Option ρ) (x6 : Nat) (x7 : Nat → Nat → CV) (x9 : Int) (x8 : Int) (x10 : Int) :
    loopH (B63v1 (C12 fuel) fuel) N63v1 (m + 1) (s63v0 x6 x7 x8 x9 x10) k =
    (bif (decide (x10 < x9)) then (bif (inb x10 x6) then (bif ((Int.ofNat x6) == 0) then none else (bif (inb (Int.tmod (w64 (x10 + 1)) (Int.ofNat x6)) x6) then (loopH (B63v1 (C12 fuel) fuel) N63v1 m (s63v0 x6 x7 (w64 (x8 + (w64 ((w64 ((CV.int (x7 (Int.toNat x10) 0)) * (CV.int (x7 (Int.toNat (Int.tmod (w64 (x10 + 1)) (Int.ofNat x6))) 1)))) - (w64 ((CV.int (x7 (Int.toNat (Int.tmod (w64 (x10 + 1)) (Int.ofNat x6))) 0)) * (CV.int (x7 (Int.toNat x10) 1)))))))) x9 (w64 (x10 + 1))) k) else none)) else none) else (k (.exit 0) (s63v1 x8))) := by kernel_rfl

theorem q63v1 (fuel : Nat) (x6 : Nat) (x7 : Nat → Nat → CV) (x9 : Int) {ρ : Type} (k : Ex → St → Option ρ) : ∀ (m : Nat) (x8 : Int) (x10 : Int),
    loopH (B63v1 (C12 fuel) fuel) N63v1 m (s63v0 x6 x7 x8 x9 x10) k = L63v1 fuel x6 x7 x9 m x8 x10 (fun x11 => k (.exit 0) (s63v1 x11))
  | 0, _, _ => rfl
  | m + 1, x8, x10 => by
    rw [r63v1]
    simp only [L63v1, q63v1 fuel x6 x7 x9 k m]

def D63 {ρ : Type} (fuel : Nat) (x1 : Nat) (x2 : Nat → Nat → CV) (k : Int → Option ρ) : Option ρ :=
  (L63v1 fuel x1 x2 (Int.ofNat x1) fuel 0 0
    (fun x12 => (k x12)))

def F63 (fuel : Nat) (x1 : Nat) (x2 : Nat → Nat → CV) : Option (Int) := D63 fuel x1 x2 some

theorem n63 {ρ σ : Type} (fuel : Nat) (x1 : Nat) (x2 : Nat → Nat → CV) (k : (Int) → Option ρ) (g : ρ → Option σ) : ob (D63 fuel x1 x2 k) g = D63 fuel x1 x2 fun t => ob (k t) g := by
  simp only [D63, ob_bif, ob_ob, ob_none, nl63v1]

theorem f63 {ρ : Type} (fuel : Nat) (x1 : Nat) (x2 : Nat → Nat → CV) (k : (Int) → Option ρ) : D63 fuel x1 x2 k = ob (F63 fuel x1 x2) k := by
  unfold F63
  rw [n63]
  simp only [ob_some]

def s63v2 (x1 : Nat) (x2 : Nat → Nat → CV) : St := ⟨[.x (.c (.ro false (.pr (.int .i64) (.pr (.int .i64) .nil)) x1 x2)), .undef, .x (.c (.i .i64 0)), .x (.c (.i .i64 0)), .undef, .undef, .undef, .x (.c (.ro false (.pr (.int .i64) (.pr (.int .i64) .nil)) x1 x2)), .x (.c (.i .i64 (Int.ofNat x1))), .x (.c (.i .i64 0)), .undef, .undef, .undef, .undef, .undef, .undef, .undef, .undef, .undef, .undef, .undef, .undef, .undef, .undef, .undef, .undef, .undef, .undef, .undef, .undef, .undef, .undef, .undef, .undef, .undef, .undef, .undef],
    []⟩

theorem walk63 (fuel : Nat) (x1 : Nat) (x2 : Nat → Nat → CV) :
    evalF (C12 fuel) fuel A63 [.v (.ro false (.pr (.int .i64) (.pr (.int .i64) .nil)) x1 x2)] =
    (loopN (B63v1 (C12 fuel) fuel) N63v1 fuel (s63v2 x1 x2) (kBlk 0 (kSeq (C12 fuel) fuel [4, 5, 6, 7, 8, 9, 10, 11, 12, 13, 14, 15, 16, 17, 18, 19, 20, 21, 22, 23, 24, 25, 26, 27, 28, 29, 30, 31, 32, 33, 34, 35] A63v3 (finish A63)))) := by kernel_rfl

theorem t63v1 (fuel : Nat) {ρ : Type} (k : Ex → St → Option ρ) (x1 : Nat) (x2 : Nat → Nat → CV) :
    loopN (B63v1 (C12 fuel) fuel) N63v1 fuel (s63v2 x1 x2) k =
    L63v1 fuel x1 x2 (Int.ofNat x1) fuel 0 0 (fun x11 => k (.exit 0) (s63v1 x11)) :=
  (loopN_at (st' := (s63v0 x1 x2 0 (Int.ofNat x1) 0)) (by kernel_rfl)).trans (q63v1 fuel x1 x2 (Int.ofNat x1) k fuel 0 0)

theorem g63v2 (fuel : Nat) (x12 : Int) :
    (kBlk 0 (kSeq (C12 fuel) fuel [4, 5, 6, 7, 8, 9, 10, 11, 12, 13, 14, 15, 16, 17, 18, 19, 20, 21, 22, 23, 24, 25, 26, 27, 28, 29, 30, 31, 32, 33, 34, 35] A63v3 (finish A63))) (.exit 0) (s63v1 x12) =
    (some [.v (.i .i64 x12)]) := by kernel_rfl

theorem e63 (fuel : Nat) (x1 : Nat) (x2 : Nat → Nat → CV) : evalF (C12 fuel) fuel A63 [.v (.ro false (.pr (.int .i64) (.pr (.int .i64) .nil)) x1 x2)] = ob (F63 fuel x1 x2) fun t => some [.v (.i .i64 t)] := by
  rw [walk63, ← f63]
  simp only [D63, t63v1, g63v2]

def O63 (fuel : Nat) : Ora where
  o := fun args {ρ} K =>
    wc args fun a1 l2 =>
    wv a1 fun c3 =>
    wL (.pr (.int .i64) (.pr (.int .i64) .nil)) c3 fun y4 y5 =>
    wn l2 <|
    (ob (F63 fuel y4 y5) fun t => K [.v (.i .i64 t)])
  nat := fun args {ρ} K => by
    simp only [bind_wc, bind_wn, bind_wv, bind_wagg, bind_wI, bind_wB, bind_wS, bind_wL, bind_wP, bind_wFn, bind_ob, Option.bind_some]

theorem d63 {P : Program} (fuel : Nat) (hmix : P.follows .mixedOrders = true) (hC : Sound P (C12 fuel)) (hF : FFits P 63 A63) (args res : List A) (h : (O63 fuel).o args some = some res) : Den P 63 args res := by
  obtain ⟨a1, l2, rfl, z0⟩ := inv_wc h
  obtain ⟨c3, rfl, z1⟩ := inv_wv z0
  obtain ⟨y4, y5, h6, z2⟩ := inv_wL z1
  obtain ⟨hn, z3⟩ := inv_wn z2
  cases hn
  exact Den.weaken (.cons (WkA.v h6) .nil) (evalF_sound hmix hC hF ((e63 fuel y4 y5).trans z3))

def C13 (fuel : Nat) : Oracle := (C12 fuel).add 63 (fun _ => true) (O63 fuel)

/-- shipyard/poly.Check -/
def A33v1 : AC := (.seq (.region 9 [
  ⟨(some 2), .assign (.const (.int .i64 0)), none⟩] 0 none) []
  (.ret [0, 1, 3, 4, 5, 6, 7, 8, 9, 10, 11, 12, 13, 14, 15, 16, 17, 18, 19, 20, 21, 22]))
def A33 : AF := ⟨23, [.tmp 2],
  (.seq (.region 0 [
  ⟨(some 2), .assign (.const (.int .i64 0)), none⟩] 0 none) []
  (.seq (.block 0
  (.seq (.region 1 [
    ⟨(some 4), .move (.tmp 0), none⟩,
    ⟨(some 5), .len 22 false (.tmp 4), none⟩,
    ⟨(some 6), .binOp .lss 3 (.tmp 5) (.const (.int .i64 3)) 3, none⟩,
    ⟨(some 3), .assign (.tmp 6), none⟩] 0 none) []
    (.cond (.tmp 3)
    (.seq (.region 2 [
      ⟨(some 2), .assign (.const (.int .i64 3)), none⟩] 0 none) []
      (.ret [0, 1, 3, 4, 5, 6, 7, 8, 9, 10, 11, 12, 13, 14, 15, 16, 17, 18, 19, 20, 21, 22]))
    (.seq (.region 3 [
      ⟨(some 8), .move (.tmp 0), none⟩,
      ⟨(some 9), .len 22 false (.tmp 8), none⟩,
      ⟨(some 10), .binOp .gtr 3 (.tmp 9) (.const (.int .i64 32)) 3, none⟩,
      ⟨(some 7), .assign (.tmp 10), none⟩] 0 none) []
      (.cond (.tmp 7)
      (.seq (.region 4 [
        ⟨(some 2), .assign (.const (.int .i64 4)), none⟩] 0 none) []
        (.ret [0, 1, 3, 4, 5, 6, 7, 8, 9, 10, 11, 12, 13, 14, 15, 16, 17, 18, 19, 20, 21, 22]))
      (.seq (.region 5 [
        ⟨(some 12), .move (.tmp 0), none⟩,
        ⟨(some 13), .call 50 [(.tmp 12), (.func 61)] [22, 62] .snap, none⟩,
        ⟨(some 11), .assign (.tmp 13), none⟩] 0 none) []
        (.cond (.tmp 11)
        (.seq (.region 6 [
          ⟨(some 2), .assign (.const (.int .i64 9)), none⟩] 0 none) []
          (.ret [0, 1, 3, 4, 5, 6, 7, 8, 9, 10, 11, 12, 13, 14, 15, 16, 17, 18, 19, 20, 21, 22]))
        (.seq (.region 7 [
          ⟨(some 15), .move (.tmp 0), none⟩,
          ⟨(some 16), .call 62 [(.tmp 15)] [22] .snap, none⟩,
          ⟨(some 17), .unOp .not 4 (.tmp 16), none⟩,
          ⟨(some 18), .move (.tmp 17), none⟩,
          ⟨(some 19), .move (.tmp 0), (some (18, false))⟩,
          ⟨(some 20), .call 63 [(.tmp 19)] [22] .snap, (some (18, false))⟩,
          ⟨(some 21), .binOp .eql 3 (.tmp 20) (.const (.int .i64 0)) 3, (some (18, false))⟩,
          ⟨(some 22), .pick (.tmp 18) (.const (.bool true)) (.tmp 21), none⟩,
          ⟨(some 14), .assign (.tmp 22), none⟩] 0 none) []
          (.cond (.tmp 14)
          (.seq (.region 8 [
            ⟨(some 2), .assign (.const (.int .i64 17)), none⟩] 0 none) []
            (.ret [0, 1, 3, 4, 5, 6, 7, 8, 9, 10, 11, 12, 13, 14, 15, 16, 17, 18, 19, 20, 21, 22]))
          .skip))))))))) [2, 3, 4, 5, 6, 7, 8, 9, 10, 11, 12, 13, 14, 15, 16, 17, 18, 19, 20, 21, 22]
  A33v1))⟩

def D33 {ρ : Type} (fuel : Nat) (x1 : Nat) (x2 : Nat → Nat → CV) (k : Int → Option ρ) : Option ρ :=
  (bif (decide ((Int.ofNat x1) < 3)) then (k 3) else (bif (decide ((Int.ofNat x1) > 32)) then (k 4) else (ob (F50 fuel x1 x2) fun x3 => (bif x3 then (k 9) else (ob (F62 fuel x1 x2) fun x4 => (bif ((!x4) == false) then (ob (F63 fuel x1 x2) fun x5 => (bif (x5 == 0) then (k 17) else (k 0))) else (k 17)))))))

def F33 (fuel : Nat) (x1 : Nat) (x2 : Nat → Nat → CV) : Option (Int) := D33 fuel x1 x2 some

theorem n33 {ρ σ : Type} (fuel : Nat) (x1 : Nat) (x2 : Nat → Nat → CV) (k : (Int) → Option ρ) (g : ρ → Option σ) : ob (D33 fuel x1 x2 k) g = D33 fuel x1 x2 fun t => ob (k t) g := by
  simp only [D33, ob_bif, ob_ob, ob_none]

theorem f33 {ρ : Type} (fuel : Nat) (x1 : Nat) (x2 : Nat → Nat → CV) (k : (Int) → Option ρ) : D33 fuel x1 x2 k = ob (F33 fuel x1 x2) k := by
  unfold F33
  rw [n33]
  simp only [ob_some]

theorem walk33 (fuel : Nat) (x1 : Nat) (x2 : Nat → Nat → CV) :
    evalF (C13 fuel) fuel A33 [.v (.ro false (.pr (.int .i64) (.pr (.int .i64) .nil)) x1 x2)] =
    (bif (decide ((Int.ofNat x1) < 3)) then (some [.v (.i .i64 3)]) else (bif (decide ((Int.ofNat x1) > 32)) then (some [.v (.i .i64 4)]) else (ob (F50 fuel x1 x2) fun x3 => (bif x3 then (some [.v (.i .i64 9)]) else (ob (F62 fuel x1 x2) fun x4 => (bif ((!x4) == false) then (ob (F63 fuel x1 x2) fun x5 => (bif (x5 == 0) then (some [.v (.i .i64 17)]) else (some [.v (.i .i64 0)]))) else (some [.v (.i .i64 17)]))))))) := by kernel_rfl

theorem e33 (fuel : Nat) (x1 : Nat) (x2 : Nat → Nat → CV) : evalF (C13 fuel) fuel A33 [.v (.ro false (.pr (.int .i64) (.pr (.int .i64) .nil)) x1 x2)] = ob (F33 fuel x1 x2) fun t => some [.v (.i .i64 t)] := by
  rw [walk33, ← f33]
  simp only [D33]

def O33 (fuel : Nat) : Ora where
  o := fun args {ρ} K =>
    wc args fun a1 l2 =>
    wv a1 fun c3 =>
    wL (.pr (.int .i64) (.pr (.int .i64) .nil)) c3 fun y4 y5 =>
    wn l2 <|
    (ob (F33 fuel y4 y5) fun t => K [.v (.i .i64 t)])
  nat := fun args {ρ} K => by
    simp only [bind_wc, bind_wn, bind_wv, bind_wagg, bind_wI, bind_wB, bind_wS, bind_wL, bind_wP, bind_wFn, bind_ob, Option.bind_some]

theorem d33 {P : Program} (fuel : Nat) (hmix : P.follows .mixedOrders = true) (hC : Sound P (C13 fuel)) (hF : FFits P 33 A33) (args res : List A) (h : (O33 fuel).o args some = some res) : Den P 33 args res := by
  obtain ⟨a1, l2, rfl, z0⟩ := inv_wc h
  obtain ⟨c3, rfl, z1⟩ := inv_wv z0
  obtain ⟨y4, y5, h6, z2⟩ := inv_wL z1
  obtain ⟨hn, z3⟩ := inv_wn z2
  cases hn
  exact Den.weaken (.cons (WkA.v h6) .nil) (evalF_sound hmix hC hF ((e33 fuel y4 y5).trans z3))

def C14 (fuel : Nat) : Oracle := (C13 fuel).add 33 (fun _ => true) (O33 fuel)

/-- shipyard/poly.Area2 -/
def A34v1 : AC := (.seq (.region 3 [
  ⟨(some 6), .move (.tmp 0), none⟩,
  ⟨(some 7), .call 63 [(.tmp 6)] [22] .snap, none⟩,
  ⟨(some 2), .assign (.tmp 7), none⟩] 0 none) []
  (.ret [0, 1, 3, 4, 5, 6, 7]))
def A34 : AF := ⟨8, [.tmp 2],
  (.seq (.region 0 [
  ⟨(some 2), .assign (.const (.int .i64 0)), none⟩] 0 none) []
  (.seq (.seq (.region 1 [
  ⟨(some 3), .move (.tmp 0), none⟩,
  ⟨(some 4), .call 33 [(.tmp 3)] [22] .snap, none⟩,
  ⟨(some 5), .binOp .neq 27 (.tmp 4) (.const (.int .i64 0)) 27, none⟩] 0 none) []
  (.cond (.tmp 5)
  (.seq (.region 2 [
    ⟨(some 2), .assign (.const (.int .i64 0)), none⟩] 0 none) []
    (.ret [0, 1, 3, 4, 5, 6, 7]))
  .skip)) [2, 3, 4, 5]
  A34v1))⟩

def D34 {ρ : Type} (fuel : Nat) (x1 : Nat) (x2 : Nat → Nat → CV) (k : Int → Option ρ) : Option ρ :=
  (ob (F33 fuel x1 x2) fun x3 => (bif (x3 != 0) then (k 0) else (ob (F63 fuel x1 x2) fun x4 => (k x4))))

def F34 (fuel : Nat) (x1 : Nat) (x2 : Nat → Nat → CV) : Option (Int) := D34 fuel x1 x2 some

theorem n34 {ρ σ : Type} (fuel : Nat) (x1 : Nat) (x2 : Nat → Nat → CV) (k : (Int) → Option ρ) (g : ρ → Option σ) : ob (D34 fuel x1 x2 k) g = D34 fuel x1 x2 fun t => ob (k t) g := by
  simp only [D34, ob_bif, ob_ob, ob_none]

theorem f34 {ρ : Type} (fuel : Nat) (x1 : Nat) (x2 : Nat → Nat → CV) (k : (Int) → Option ρ) : D34 fuel x1 x2 k = ob (F34 fuel x1 x2) k := by
  unfold F34
  rw [n34]
  simp only [ob_some]

theorem walk34 (fuel : Nat) (x1 : Nat) (x2 : Nat → Nat → CV) :
    evalF (C14 fuel) fuel A34 [.v (.ro false (.pr (.int .i64) (.pr (.int .i64) .nil)) x1 x2)] =
    (ob (F33 fuel x1 x2) fun x3 => (bif (x3 != 0) then (some [.v (.i .i64 0)]) else (ob (F63 fuel x1 x2) fun x4 => (some [.v (.i .i64 x4)])))) := by kernel_rfl

theorem e34 (fuel : Nat) (x1 : Nat) (x2 : Nat → Nat → CV) : evalF (C14 fuel) fuel A34 [.v (.ro false (.pr (.int .i64) (.pr (.int .i64) .nil)) x1 x2)] = ob (F34 fuel x1 x2) fun t => some [.v (.i .i64 t)] := by
  rw [walk34, ← f34]
  simp only [D34]

def O34 (fuel : Nat) : Ora where
  o := fun args {ρ} K =>
    wc args fun a1 l2 =>
    wv a1 fun c3 =>
    wL (.pr (.int .i64) (.pr (.int .i64) .nil)) c3 fun y4 y5 =>
    wn l2 <|
    (ob (F34 fuel y4 y5) fun t => K [.v (.i .i64 t)])
  nat := fun args {ρ} K => by
    simp only [bind_wc, bind_wn, bind_wv, bind_wagg, bind_wI, bind_wB, bind_wS, bind_wL, bind_wP, bind_wFn, bind_ob, Option.bind_some]

theorem d34 {P : Program} (fuel : Nat) (hmix : P.follows .mixedOrders = true) (hC : Sound P (C14 fuel)) (hF : FFits P 34 A34) (args res : List A) (h : (O34 fuel).o args some = some res) : Den P 34 args res := by
  obtain ⟨a1, l2, rfl, z0⟩ := inv_wc h
  obtain ⟨c3, rfl, z1⟩ := inv_wv z0
  obtain ⟨y4, y5, h6, z2⟩ := inv_wL z1
  obtain ⟨hn, z3⟩ := inv_wn z2
  cases hn
  exact Den.weaken (.cons (WkA.v h6) .nil) (evalF_sound hmix hC hF ((e34 fuel y4 y5).trans z3))

def C15 (fuel : Nat) : Oracle := (C14 fuel).add 34 (fun _ => true) (O34 fuel)

/-- shipyard/region.cross -/
def A75 : AF := ⟨30, [.tmp 6],
  (.seq (.region 0 [
  ⟨(some 3), .box 0 34 (.tmp 0), none⟩,
  ⟨(some 4), .box 1 34 (.tmp 1), none⟩,
  ⟨(some 5), .box 2 34 (.tmp 2), none⟩,
  ⟨(some 6), .assign (.const (.int .i64 0)), none⟩] 3 none) []
  (.seq (.region 1 [
  ⟨(some 7), .fieldAddr 34 (.tmp 4) 0 0, none⟩,
  ⟨(some 8), .load 3 none (.tmp 7), none⟩,
  ⟨(some 9), .fieldAddr 34 (.tmp 3) 0 0, none⟩,
  ⟨(some 10), .load 3 none (.tmp 9), none⟩,
  ⟨(some 11), .binOp .sub 3 (.tmp 8) (.tmp 10) 3, none⟩,
  ⟨(some 12), .fieldAddr 34 (.tmp 5) 1 1, none⟩,
  ⟨(some 13), .load 3 none (.tmp 12), none⟩,
  ⟨(some 14), .fieldAddr 34 (.tmp 3) 1 1, none⟩,
  ⟨(some 15), .load 3 none (.tmp 14), none⟩,
  ⟨(some 16), .binOp .sub 3 (.tmp 13) (.tmp 15) 3, none⟩,
  ⟨(some 17), .binOp .mul 3 (.tmp 11) (.tmp 16) 3, none⟩,
  ⟨(some 18), .fieldAddr 34 (.tmp 4) 1 1, none⟩,
  ⟨(some 19), .load 3 none (.tmp 18), none⟩,
  ⟨(some 20), .fieldAddr 34 (.tmp 3) 1 1, none⟩,
  ⟨(some 21), .load 3 none (.tmp 20), none⟩,
  ⟨(some 22), .binOp .sub 3 (.tmp 19) (.tmp 21) 3, none⟩,
  ⟨(some 23), .fieldAddr 34 (.tmp 5) 0 0, none⟩,
  ⟨(some 24), .load 3 none (.tmp 23), none⟩,
  ⟨(some 25), .fieldAddr 34 (.tmp 3) 0 0, none⟩,
  ⟨(some 26), .load 3 none (.tmp 25), none⟩,
  ⟨(some 27), .binOp .sub 3 (.tmp 24) (.tmp 26) 3, none⟩,
  ⟨(some 28), .binOp .mul 3 (.tmp 22) (.tmp 27) 3, none⟩,
  ⟨(some 29), .binOp .sub 3 (.tmp 17) (.tmp 28) 3, none⟩,
  ⟨(some 6), .assign (.tmp 29), none⟩] 0 none) []
  (.ret [0, 1, 2, 3, 4, 5, 7, 8, 9, 10, 11, 12, 13, 14, 15, 16, 17, 18, 19, 20, 21, 22, 23, 24, 25, 26, 27, 28, 29])))⟩

def D75 {ρ : Type} (fuel : Nat) (x1 : Int) (x2 : Int) (x3 : Int) (x4 : Int) (x5 : Int) (x6 : Int) (k : Int → Option ρ) : Option ρ :=
  (k (w64 ((w64 ((w64 (x3 - x1)) * (w64 (x6 - x2)))) - (w64 ((w64 (x4 - x2)) * (w64 (x5 - x1)))))))

def F75 (fuel : Nat) (x1 : Int) (x2 : Int) (x3 : Int) (x4 : Int) (x5 : Int) (x6 : Int) : Option (Int) := D75 fuel x1 x2 x3 x4 x5 x6 some

theorem n75 {ρ σ : Type} (fuel : Nat) (x1 : Int) (x2 : Int) (x3 : Int) (x4 : Int) (x5 : Int) (x6 : Int) (k : (Int) → Option ρ) (g : ρ → Option σ) : ob (D75 fuel x1 x2 x3 x4 x5 x6 k) g = D75 fuel x1 x2 x3 x4 x5 x6 fun t => ob (k t) g := by
  simp only [D75, ob_bif, ob_ob, ob_none]

theorem f75 {ρ : Type} (fuel : Nat) (x1 : Int) (x2 : Int) (x3 : Int) (x4 : Int) (x5 : Int) (x6 : Int) (k : (Int) → Option ρ) : D75 fuel x1 x2 x3 x4 x5 x6 k = ob (F75 fuel x1 x2 x3 x4 x5 x6) k := by
  unfold F75
  rw [n75]
  simp only [ob_some]

theorem walk75 (fuel : Nat) (x1 : Int) (x2 : Int) (x3 : Int) (x4 : Int) (x5 : Int) (x6 : Int) :
    evalF (C15 fuel) fuel A75 [.agg [(.i .i64 x1), (.i .i64 x2)], .agg [(.i .i64 x3), (.i .i64 x4)], .agg [(.i .i64 x5), (.i .i64 x6)]] =
    (some [.v (.i .i64 (w64 ((w64 ((w64 (x3 - x1)) * (w64 (x6 - x2)))) - (w64 ((w64 (x4 - x2)) * (w64 (x5 - x1)))))))]) := by kernel_rfl

theorem e75 (fuel : Nat) (x1 : Int) (x2 : Int) (x3 : Int) (x4 : Int) (x5 : Int) (x6 : Int) : evalF (C15 fuel) fuel A75 [.agg [(.i .i64 x1), (.i .i64 x2)], .agg [(.i .i64 x3), (.i .i64 x4)], .agg [(.i .i64 x5), (.i .i64 x6)]] = ob (F75 fuel x1 x2 x3 x4 x5 x6) fun t => some [.v (.i .i64 t)] := by
  rw [walk75, ← f75]
  simp only [D75]

def O75 (fuel : Nat) : Ora where
  o := fun args {ρ} K =>
    wc args fun a1 l2 =>
    wagg a1 fun l3 =>
    wc l3 fun c4 l5 =>
    wI .i64 c4 fun y6 =>
    wc l5 fun c8 l9 =>
    wI .i64 c8 fun y10 =>
    wn l9 <|
    wc l2 fun a12 l13 =>
    wagg a12 fun l14 =>
    wc l14 fun c15 l16 =>
    wI .i64 c15 fun y17 =>
    wc l16 fun c19 l20 =>
    wI .i64 c19 fun y21 =>
    wn l20 <|
    wc l13 fun a23 l24 =>
    wagg a23 fun l25 =>
    wc l25 fun c26 l27 =>
    wI .i64 c26 fun y28 =>
    wc l27 fun c30 l31 =>
    wI .i64 c30 fun y32 =>
    wn l31 <|
    wn l24 <|
    (ob (F75 fuel y6 y10 y17 y21 y28 y32) fun t => K [.v (.i .i64 t)])
  nat := fun args {ρ} K => by
    simp only [bind_wc, bind_wn, bind_wv, bind_wagg, bind_wI, bind_wB, bind_wS, bind_wL, bind_wP, bind_wFn, bind_ob, Option.bind_some]

theorem d75 {P : Program} (fuel : Nat) (hmix : P.follows .mixedOrders = true) (hC : Sound P (C15 fuel)) (hF : FFits P 75 A75) (args res : List A) (h : (O75 fuel).o args some = some res) : Den P 75 args res := by
  obtain ⟨a1, l2, rfl, z0⟩ := inv_wc h
  obtain ⟨l3, rfl, z1⟩ := inv_wagg z0
  obtain ⟨c4, l5, rfl, z2⟩ := inv_wc z1
  obtain ⟨y6, h7, z3⟩ := inv_wI z2
  obtain ⟨c8, l9, rfl, z4⟩ := inv_wc z3
  obtain ⟨y10, h11, z5⟩ := inv_wI z4
  obtain ⟨hn, z6⟩ := inv_wn z5
  cases hn
  obtain ⟨a12, l13, rfl, z7⟩ := inv_wc z6
  obtain ⟨l14, rfl, z8⟩ := inv_wagg z7
  obtain ⟨c15, l16, rfl, z9⟩ := inv_wc z8
  obtain ⟨y17, h18, z10⟩ := inv_wI z9
  obtain ⟨c19, l20, rfl, z11⟩ := inv_wc z10
  obtain ⟨y21, h22, z12⟩ := inv_wI z11
  obtain ⟨hn, z13⟩ := inv_wn z12
  cases hn
  obtain ⟨a23, l24, rfl, z14⟩ := inv_wc z13
  obtain ⟨l25, rfl, z15⟩ := inv_wagg z14
  obtain ⟨c26, l27, rfl, z16⟩ := inv_wc z15
  obtain ⟨y28, h29, z17⟩ := inv_wI z16
  obtain ⟨c30, l31, rfl, z18⟩ := inv_wc z17
  obtain ⟨y32, h33, z19⟩ := inv_wI z18
  obtain ⟨hn, z20⟩ := inv_wn z19
  cases hn
  obtain ⟨hn, z21⟩ := inv_wn z20
  cases hn
  exact Den.weaken (.cons (WkA.agg (.cons (Wk.i h7) (.cons (Wk.i h11) .nil))) (.cons (WkA.agg (.cons (Wk.i h18) (.cons (Wk.i h22) .nil))) (.cons (WkA.agg (.cons (Wk.i h29) (.cons (Wk.i h33) .nil))) .nil))) (evalF_sound hmix hC hF ((e75 fuel y6 y10 y17 y21 y28 y32).trans z21))

def C16 (fuel : Nat) : Oracle := (C15 fuel).add 75 (fun _ => true) (O75 fuel)

/-- shipyard/region.sign -/
def A74 : AF := ⟨6, [.tmp 2],
  (.seq (.region 0 [
  ⟨(some 2), .assign (.const (.int .i64 0)), none⟩] 0 none) []
  (.seq (.region 1 [
  ⟨(some 3), .move (.tmp 0), none⟩,
  ⟨(some 4), .mm true [(.tmp 3), (.const (.int .i64 (-1)))] [3, 3], none⟩,
  ⟨(some 5), .mm false [(.tmp 4), (.const (.int .i64 1))] [3, 3], none⟩,
  ⟨(some 2), .assign (.tmp 5), none⟩] 0 none) []
  (.ret [0, 1, 3, 4, 5])))⟩

def D74 {ρ : Type} (fuel : Nat) (x1 : Int) (k : Int → Option ρ) : Option ρ :=
  (k (if 1 < (if (-1) > x1 then (-1) else x1) then 1 else (if (-1) > x1 then (-1) else x1)))

def F74 (fuel : Nat) (x1 : Int) : Option (Int) := D74 fuel x1 some

theorem n74 {ρ σ : Type} (fuel : Nat) (x1 : Int) (k : (Int) → Option ρ) (g : ρ → Option σ) : ob (D74 fuel x1 k) g = D74 fuel x1 fun t => ob (k t) g := by
  simp only [D74, ob_bif, ob_ob, ob_none]

theorem f74 {ρ : Type} (fuel : Nat) (x1 : Int) (k : (Int) → Option ρ) : D74 fuel x1 k = ob (F74 fuel x1) k := by
  unfold F74
  rw [n74]
  simp only [ob_some]

theorem walk74 (fuel : Nat) (x1 : Int) :
    evalF (C16 fuel) fuel A74 [.v (.i .i64 x1)] =
    (some [.v (.i .i64 (if 1 < (if (-1) > x1 then (-1) else x1) then 1 else (if (-1) > x1 then (-1) else x1)))]) := by kernel_rfl

theorem e74 (fuel : Nat) (x1 : Int) : evalF (C16 fuel) fuel A74 [.v (.i .i64 x1)] = ob (F74 fuel x1) fun t => some [.v (.i .i64 t)] := by
  rw [walk74, ← f74]
  simp only [D74]

def O74 (fuel : Nat) : Ora where
  o := fun args {ρ} K =>
    wc args fun a1 l2 =>
    wv a1 fun c3 =>
    wI .i64 c3 fun y4 =>
    wn l2 <|
    (ob (F74 fuel y4) fun t => K [.v (.i .i64 t)])
  nat := fun args {ρ} K => by
    simp only [bind_wc, bind_wn, bind_wv, bind_wagg, bind_wI, bind_wB, bind_wS, bind_wL, bind_wP, bind_wFn, bind_ob, Option.bind_some]

theorem d74 {P : Program} (fuel : Nat) (hmix : P.follows .mixedOrders = true) (hC : Sound P (C16 fuel)) (hF : FFits P 74 A74) (args res : List A) (h : (O74 fuel).o args some = some res) : Den P 74 args res := by
  obtain ⟨a1, l2, rfl, z0⟩ := inv_wc h
  obtain ⟨c3, rfl, z1⟩ := inv_wv z0
  obtain ⟨y4, h5, z2⟩ := inv_wI z1
  obtain ⟨hn, z3⟩ := inv_wn z2
  cases hn
  exact Den.weaken (.cons (WkA.v (Wk.i h5)) .nil) (evalF_sound hmix hC hF ((e74 fuel y4).trans z3))

def C17 (fuel : Nat) : Oracle := (C16 fuel).add 74 (fun _ => true) (O74 fuel)

/-- shipyard/region.on -/
def A76 : AF := ⟨45, [.tmp 6],
  (.seq (.region 0 [
  ⟨(some 3), .box 0 34 (.tmp 0), none⟩,
  ⟨(some 4), .box 1 34 (.tmp 1), none⟩,
  ⟨(some 5), .box 2 34 (.tmp 2), none⟩,
  ⟨(some 6), .assign (.const (.bool false)), none⟩] 3 none) []
  (.seq (.region 1 [
  ⟨(some 7), .fieldAddr 34 (.tmp 5) 0 0, none⟩,
  ⟨(some 8), .load 3 none (.tmp 7), none⟩,
  ⟨(some 9), .fieldAddr 34 (.tmp 3) 0 0, none⟩,
  ⟨(some 10), .load 3 none (.tmp 9), none⟩,
  ⟨(some 11), .fieldAddr 34 (.tmp 4) 0 0, none⟩,
  ⟨(some 12), .load 3 none (.tmp 11), none⟩,
  ⟨(some 13), .mm false [(.tmp 10), (.tmp 12)] [3, 3], none⟩,
  ⟨(some 14), .binOp .geq 3 (.tmp 8) (.tmp 13) 3, none⟩,
  ⟨(some 15), .move (.tmp 14), none⟩,
  ⟨(some 16), .fieldAddr 34 (.tmp 5) 0 0, (some (15, true))⟩,
  ⟨(some 17), .load 3 none (.tmp 16), (some (15, true))⟩,
  ⟨(some 18), .fieldAddr 34 (.tmp 3) 0 0, (some (15, true))⟩,
  ⟨(some 19), .load 3 none (.tmp 18), (some (15, true))⟩,
  ⟨(some 20), .fieldAddr 34 (.tmp 4) 0 0, (some (15, true))⟩,
  ⟨(some 21), .load 3 none (.tmp 20), (some (15, true))⟩,
  ⟨(some 22), .mm true [(.tmp 19), (.tmp 21)] [3, 3], (some (15, true))⟩,
  ⟨(some 23), .binOp .leq 3 (.tmp 17) (.tmp 22) 3, (some (15, true))⟩,
  ⟨(some 24), .pick (.tmp 15) (.tmp 23) (.const (.bool false)), none⟩,
  ⟨(some 25), .move (.tmp 24), none⟩,
  ⟨(some 26), .fieldAddr 34 (.tmp 5) 1 1, (some (25, true))⟩,
  ⟨(some 27), .load 3 none (.tmp 26), (some (25, true))⟩,
  ⟨(some 28), .fieldAddr 34 (.tmp 3) 1 1, (some (25, true))⟩,
  ⟨(some 29), .load 3 none (.tmp 28), (some (25, true))⟩,
  ⟨(some 30), .fieldAddr 34 (.tmp 4) 1 1, (some (25, true))⟩,
  ⟨(some 31), .load 3 none (.tmp 30), (some (25, true))⟩,
  ⟨(some 32), .mm false [(.tmp 29), (.tmp 31)] [3, 3], (some (25, true))⟩,
  ⟨(some 33), .binOp .geq 3 (.tmp 27) (.tmp 32) 3, (some (25, true))⟩,
  ⟨(some 34), .pick (.tmp 25) (.tmp 33) (.const (.bool false)), none⟩,
  ⟨(some 35), .move (.tmp 34), none⟩,
  ⟨(some 36), .fieldAddr 34 (.tmp 5) 1 1, (some (35, true))⟩,
  ⟨(some 37), .load 3 none (.tmp 36), (some (35, true))⟩,
  ⟨(some 38), .fieldAddr 34 (.tmp 3) 1 1, (some (35, true))⟩,
  ⟨(some 39), .load 3 none (.tmp 38), (some (35, true))⟩,
  ⟨(some 40), .fieldAddr 34 (.tmp 4) 1 1, (some (35, true))⟩,
  ⟨(some 41), .load 3 none (.tmp 40), (some (35, true))⟩,
  ⟨(some 42), .mm true [(.tmp 39), (.tmp 41)] [3, 3], (some (35, true))⟩,
  ⟨(some 43), .binOp .leq 3 (.tmp 37) (.tmp 42) 3, (some (35, true))⟩,
  ⟨(some 44), .pick (.tmp 35) (.tmp 43) (.const (.bool false)), none⟩,
  ⟨(some 6), .assign (.tmp 44), none⟩] 0 none) []
  (.ret [0, 1, 2, 3, 4, 5, 7, 8, 9, 10, 11, 12, 13, 14, 15, 16, 17, 18, 19, 20, 21, 22, 23, 24, 25, 26, 27, 28, 29, 30, 31, 32, 33, 34, 35, 36, 37, 38, 39, 40, 41, 42, 43, 44])))⟩

def D76 {ρ : Type} (fuel : Nat) (x1 : Int) (x2 : Int) (x3 : Int) (x4 : Int) (x5 : Int) (x6 : Int) (k : Bool → Option ρ) : Option ρ :=
  (bif ((decide (x5 ≥ (if x3 < x1 then x3 else x1))) == true) then (bif ((decide (x5 ≤ (if x3 > x1 then x3 else x1))) == true) then (bif ((decide (x6 ≥ (if x4 < x2 then x4 else x2))) == true) then (k (decide (x6 ≤ (if x4 > x2 then x4 else x2)))) else (k false)) else (k false)) else (k false))

def F76 (fuel : Nat) (x1 : Int) (x2 : Int) (x3 : Int) (x4 : Int) (x5 : Int) (x6 : Int) : Option (Bool) := D76 fuel x1 x2 x3 x4 x5 x6 some

theorem n76 {ρ σ : Type} (fuel : Nat) (x1 : Int) (x2 : Int) (x3 : Int) (x4 : Int) (x5 : Int) (x6 : Int) (k : (Bool) → Option ρ) (g : ρ → Option σ) : ob (D76 fuel x1 x2 x3 x4 x5 x6 k) g = D76 fuel x1 x2 x3 x4 x5 x6 fun t => ob (k t) g := by
  simp only [D76, ob_bif, ob_ob, ob_none]

theorem f76 {ρ : Type} (fuel : Nat) (x1 : Int) (x2 : Int) (x3 : Int) (x4 : Int) (x5 : Int) (x6 : Int) (k : (Bool) → Option ρ) : D76 fuel x1 x2 x3 x4 x5 x6 k = ob (F76 fuel x1 x2 x3 x4 x5 x6) k := by
  unfold F76
  rw [n76]
  simp only [ob_some]

theorem walk76 (fuel : Nat) (x1 : Int) (x2 : Int) (x3 : Int) (x4 : Int) (x5 : Int) (x6 : Int) :
    evalF (C17 fuel) fuel A76 [.agg [(.i .i64 x1), (.i .i64 x2)], .agg [(.i .i64 x3), (.i .i64 x4)], .agg [(.i .i64 x5), (.i .i64 x6)]] =
    (bif ((decide (x5 ≥ (if x3 < x1 then x3 else x1))) == true) then (bif ((decide (x5 ≤ (if x3 > x1 then x3 else x1))) == true) then (bif ((decide (x6 ≥ (if x4 < x2 then x4 else x2))) == true) then (some [.v (.b (decide (x6 ≤ (if x4 > x2 then x4 else x2))))]) else (some [.v (.b false)])) else (some [.v (.b false)])) else (some [.v (.b false)])) := by kernel_rfl

theorem e76 (fuel : Nat) (x1 : Int) (x2 : Int) (x3 : Int) (x4 : Int) (x5 : Int) (x6 : Int) : evalF (C17 fuel) fuel A76 [.agg [(.i .i64 x1), (.i .i64 x2)], .agg [(.i .i64 x3), (.i .i64 x4)], .agg [(.i .i64 x5), (.i .i64 x6)]] = ob (F76 fuel x1 x2 x3 x4 x5 x6) fun t => some [.v (.b t)] := by
  rw [walk76, ← f76]
  simp only [D76]

def O76 (fuel : Nat) : Ora where
  o := fun args {ρ} K =>
    wc args fun a1 l2 =>
    wagg a1 fun l3 =>
    wc l3 fun c4 l5 =>
    wI .i64 c4 fun y6 =>
    wc l5 fun c8 l9 =>
    wI .i64 c8 fun y10 =>
    wn l9 <|
    wc l2 fun a12 l13 =>
    wagg a12 fun l14 =>
    wc l14 fun c15 l16 =>
    wI .i64 c15 fun y17 =>
    wc l16 fun c19 l20 =>
    wI .i64 c19 fun y21 =>
    wn l20 <|
    wc l13 fun a23 l24 =>
    wagg a23 fun l25 =>
    wc l25 fun c26 l27 =>
    wI .i64 c26 fun y28 =>
    wc l27 fun c30 l31 =>
    wI .i64 c30 fun y32 =>
    wn l31 <|
    wn l24 <|
    (ob (F76 fuel y6 y10 y17 y21 y28 y32) fun t => K [.v (.b t)])
  nat := fun args {ρ} K => by
    simp only [bind_wc, bind_wn, bind_wv, bind_wagg, bind_wI, bind_wB, bind_wS, bind_wL, bind_wP, bind_wFn, bind_ob, Option.bind_some]

theorem d76 {P : Program} (fuel : Nat) (hmix : P.follows .mixedOrders = true) (hC : Sound P (C17 fuel)) (hF : FFits P 76 A76) (args res : List A) (h : (O76 fuel).o args some = some res) : Den P 76 args res := by
  obtain ⟨a1, l2, rfl, z0⟩ := inv_wc h
  obtain ⟨l3, rfl, z1⟩ := inv_wagg z0
  obtain ⟨c4, l5, rfl, z2⟩ := inv_wc z1
  obtain ⟨y6, h7, z3⟩ := inv_wI z2
  obtain ⟨c8, l9, rfl, z4⟩ := inv_wc z3
  obtain ⟨y10, h11, z5⟩ := inv_wI z4
  obtain ⟨hn, z6⟩ := inv_wn z5
  cases hn
  obtain ⟨a12, l13, rfl, z7⟩ := inv_wc z6
  obtain ⟨l14, rfl, z8⟩ := inv_wagg z7
  obtain ⟨c15, l16, rfl, z9⟩ := inv_wc z8
  obtain ⟨y17, h18, z10⟩ := inv_wI z9
  obtain ⟨c19, l20, rfl, z11⟩ := inv_wc z10
  obtain ⟨y21, h22, z12⟩ := inv_wI z11
  obtain ⟨hn, z13⟩ := inv_wn z12
  cases hn
  obtain ⟨a23, l24, rfl, z14⟩ := inv_wc z13
  obtain ⟨l25, rfl, z15⟩ := inv_wagg z14
  obtain ⟨c26, l27, rfl, z16⟩ := inv_wc z15
  obtain ⟨y28, h29, z17⟩ := inv_wI z16
  obtain ⟨c30, l31, rfl, z18⟩ := inv_wc z17
  obtain ⟨y32, h33, z19⟩ := inv_wI z18
  obtain ⟨hn, z20⟩ := inv_wn z19
  cases hn
  obtain ⟨hn, z21⟩ := inv_wn z20
  cases hn
  exact Den.weaken (.cons (WkA.agg (.cons (Wk.i h7) (.cons (Wk.i h11) .nil))) (.cons (WkA.agg (.cons (Wk.i h18) (.cons (Wk.i h22) .nil))) (.cons (WkA.agg (.cons (Wk.i h29) (.cons (Wk.i h33) .nil))) .nil))) (evalF_sound hmix hC hF ((e76 fuel y6 y10 y17 y21 y28 y32).trans z21))

def C18 (fuel : Nat) : Oracle := (C17 fuel).add 76 (fun _ => true) (O76 fuel)

/-- shipyard/region.touch -/
def A56v1 : AC := (.seq (.region 5 [
  ⟨(some 43), .move (.tmp 9), none⟩,
  ⟨(some 44), .binOp .eql 3 (.tmp 43) (.const (.int .i64 0)) 3, none⟩,
  ⟨(some 45), .move (.tmp 44), none⟩,
  ⟨(some 46), .load 34 (some 2) (.tmp 4), (some (45, true))⟩,
  ⟨(some 47), .load 34 (some 2) (.tmp 5), (some (45, true))⟩,
  ⟨(some 48), .load 34 (some 2) (.tmp 6), (some (45, true))⟩,
  ⟨(some 49), .call 76 [(.tmp 46), (.tmp 47), (.tmp 48)] [34, 34, 34] .snap, (some (45, true))⟩,
  ⟨(some 50), .pick (.tmp 45) (.tmp 49) (.const (.bool false)), none⟩,
  ⟨(some 51), .move (.tmp 50), none⟩,
  ⟨(some 52), .move (.tmp 10), (some (51, false))⟩,
  ⟨(some 53), .binOp .eql 3 (.tmp 52) (.const (.int .i64 0)) 3, (some (51, false))⟩,
  ⟨(some 54), .move (.tmp 53), (some (51, false))⟩,
  ⟨(some 55), .load 34 (some 2) (.tmp 4), (some (54, true))⟩,
  ⟨(some 56), .load 34 (some 2) (.tmp 5), (some (54, true))⟩,
  ⟨(some 57), .load 34 (some 2) (.tmp 7), (some (54, true))⟩,
  ⟨(some 58), .call 76 [(.tmp 55), (.tmp 56), (.tmp 57)] [34, 34, 34] .snap, (some (54, true))⟩,
  ⟨(some 59), .pick (.tmp 54) (.tmp 58) (.const (.bool false)), (some (51, false))⟩,
  ⟨(some 60), .pick (.tmp 51) (.const (.bool true)) (.tmp 59), none⟩,
  ⟨(some 61), .move (.tmp 60), none⟩,
  ⟨(some 62), .move (.tmp 11), (some (61, false))⟩,
  ⟨(some 63), .binOp .eql 3 (.tmp 62) (.const (.int .i64 0)) 3, (some (61, false))⟩,
  ⟨(some 64), .move (.tmp 63), (some (61, false))⟩,
  ⟨(some 65), .load 34 (some 2) (.tmp 6), (some (64, true))⟩,
  ⟨(some 66), .load 34 (some 2) (.tmp 7), (some (64, true))⟩,
  ⟨(some 67), .load 34 (some 2) (.tmp 4), (some (64, true))⟩,
  ⟨(some 68), .call 76 [(.tmp 65), (.tmp 66), (.tmp 67)] [34, 34, 34] .snap, (some (64, true))⟩,
  ⟨(some 69), .pick (.tmp 64) (.tmp 68) (.const (.bool false)), (some (61, false))⟩,
  ⟨(some 70), .pick (.tmp 61) (.const (.bool true)) (.tmp 69), none⟩,
  ⟨(some 71), .move (.tmp 70), none⟩,
  ⟨(some 72), .move (.tmp 12), (some (71, false))⟩,
  ⟨(some 73), .binOp .eql 3 (.tmp 72) (.const (.int .i64 0)) 3, (some (71, false))⟩,
  ⟨(some 74), .move (.tmp 73), (some (71, false))⟩,
  ⟨(some 75), .load 34 (some 2) (.tmp 6), (some (74, true))⟩,
  ⟨(some 76), .load 34 (some 2) (.tmp 7), (some (74, true))⟩,
  ⟨(some 77), .load 34 (some 2) (.tmp 5), (some (74, true))⟩,
  ⟨(some 78), .call 76 [(.tmp 75), (.tmp 76), (.tmp 77)] [34, 34, 34] .snap, (some (74, true))⟩,
  ⟨(some 79), .pick (.tmp 74) (.tmp 78) (.const (.bool false)), (some (71, false))⟩,
  ⟨(some 80), .pick (.tmp 71) (.const (.bool true)) (.tmp 79), none⟩,
  ⟨(some 8), .assign (.tmp 80), none⟩] 0 none) []
  (.ret [0, 1, 2, 3, 4, 5, 6, 7, 9, 10, 11, 12, 13, 14, 15, 16, 17, 18, 19, 20, 21, 22, 23, 24, 25, 26, 27, 28, 29, 30, 31, 32, 33, 34, 35, 36, 37, 38, 39, 40, 41, 42, 43, 44, 45, 46, 47, 48, 49, 50, 51, 52, 53, 54, 55, 56, 57, 58, 59, 60, 61, 62, 63, 64, 65, 66, 67, 68, 69, 70, 71, 72, 73, 74, 75, 76, 77, 78, 79, 80]))
def A56 : AF := ⟨81, [.tmp 8],
  (.seq (.region 0 [
  ⟨(some 4), .box 0 34 (.tmp 0), none⟩,
  ⟨(some 5), .box 1 34 (.tmp 1), none⟩,
  ⟨(some 6), .box 2 34 (.tmp 2), none⟩,
  ⟨(some 7), .box 3 34 (.tmp 3), none⟩,
  ⟨(some 8), .assign (.const (.bool false)), none⟩] 4 none) []
  (.seq (.region 1 [
  ⟨(some 13), .load 34 (some 2) (.tmp 4), none⟩,
  ⟨(some 14), .load 34 (some 2) (.tmp 5), none⟩,
  ⟨(some 15), .load 34 (some 2) (.tmp 6), none⟩,
  ⟨(some 16), .call 75 [(.tmp 13), (.tmp 14), (.tmp 15)] [34, 34, 34] .snap, none⟩,
  ⟨(some 17), .call 74 [(.tmp 16)] [3] .snap, none⟩,
  ⟨(some 18), .load 34 (some 2) (.tmp 4), none⟩,
  ⟨(some 19), .load 34 (some 2) (.tmp 5), none⟩,
  ⟨(some 20), .load 34 (some 2) (.tmp 7), none⟩,
  ⟨(some 21), .call 75 [(.tmp 18), (.tmp 19), (.tmp 20)] [34, 34, 34] .snap, none⟩,
  ⟨(some 22), .call 74 [(.tmp 21)] [3] .snap, none⟩,
  ⟨(some 9), .assign (.tmp 17), none⟩,
  ⟨(some 10), .assign (.tmp 22), none⟩] 0 (some [[], [], [], [0, 1, 2], [0, 1, 2, 3], [], [], [], [0, 1, 2, 3, 4, 5, 6, 7], [0, 1, 2, 3, 4, 5, 6, 7, 8], [0, 1, 2, 3, 4, 5, 6, 7, 8, 9], [0, 1, 2, 3, 4, 5, 6, 7, 8, 9, 10]])) []
  (.seq (.region 2 [
  ⟨(some 23), .load 34 (some 2) (.tmp 6), none⟩,
  ⟨(some 24), .load 34 (some 2) (.tmp 7), none⟩,
  ⟨(some 25), .load 34 (some 2) (.tmp 4), none⟩,
  ⟨(some 26), .call 75 [(.tmp 23), (.tmp 24), (.tmp 25)] [34, 34, 34] .snap, none⟩,
  ⟨(some 27), .call 74 [(.tmp 26)] [3] .snap, none⟩,
  ⟨(some 28), .load 34 (some 2) (.tmp 6), none⟩,
  ⟨(some 29), .load 34 (some 2) (.tmp 7), none⟩,
  ⟨(some 30), .load 34 (some 2) (.tmp 5), none⟩,
  ⟨(some 31), .call 75 [(.tmp 28), (.tmp 29), (.tmp 30)] [34, 34, 34] .snap, none⟩,
  ⟨(some 32), .call 74 [(.tmp 31)] [3] .snap, none⟩,
  ⟨(some 11), .assign (.tmp 27), none⟩,
  ⟨(some 12), .assign (.tmp 32), none⟩] 0 (some [[], [], [], [0, 1, 2], [0, 1, 2, 3], [], [], [], [0, 1, 2, 3, 4, 5, 6, 7], [0, 1, 2, 3, 4, 5, 6, 7, 8], [0, 1, 2, 3, 4, 5, 6, 7, 8, 9], [0, 1, 2, 3, 4, 5, 6, 7, 8, 9, 10]])) []
  (.seq (.seq (.region 3 [
  ⟨(some 33), .move (.tmp 9), none⟩,
  ⟨(some 34), .move (.tmp 10), none⟩,
  ⟨(some 35), .binOp .mul 3 (.tmp 33) (.tmp 34) 3, none⟩,
  ⟨(some 36), .binOp .lss 3 (.tmp 35) (.const (.int .i64 0)) 3, none⟩,
  ⟨(some 37), .move (.tmp 36), none⟩,
  ⟨(some 38), .move (.tmp 11), (some (37, true))⟩,
  ⟨(some 39), .move (.tmp 12), (some (37, true))⟩,
  ⟨(some 40), .binOp .mul 3 (.tmp 38) (.tmp 39) 3, (some (37, true))⟩,
  ⟨(some 41), .binOp .lss 3 (.tmp 40) (.const (.int .i64 0)) 3, (some (37, true))⟩,
  ⟨(some 42), .pick (.tmp 37) (.tmp 41) (.const (.bool false)), none⟩] 0 none) []
  (.cond (.tmp 42)
  (.seq (.region 4 [
    ⟨(some 8), .assign (.const (.bool true)), none⟩] 0 none) []
    (.ret [0, 1, 2, 3, 4, 5, 6, 7, 9, 10, 11, 12, 13, 14, 15, 16, 17, 18, 19, 20, 21, 22, 23, 24, 25, 26, 27, 28, 29, 30, 31, 32, 33, 34, 35, 36, 37, 38, 39, 40, 41, 42, 43, 44, 45, 46, 47, 48, 49, 50, 51, 52, 53, 54, 55, 56, 57, 58, 59, 60, 61, 62, 63, 64, 65, 66, 67, 68, 69, 70, 71, 72, 73, 74, 75, 76, 77, 78, 79, 80]))
  .skip)) [8, 33, 34, 35, 36, 37, 38, 39, 40, 41, 42]
  A56v1))))⟩

def D56 {ρ : Type} (fuel : Nat) (x1 : Int) (x2 : Int) (x3 : Int) (x4 : Int) (x5 : Int) (x6 : Int) (x7 : Int) (x8 : Int) (k : Bool → Option ρ) : Option ρ :=
  (ob (F75 fuel x1 x2 x3 x4 x5 x6) fun x9 => (ob (F74 fuel x9) fun x10 => (ob (F75 fuel x1 x2 x3 x4 x7 x8) fun x11 => (ob (F74 fuel x11) fun x12 => (ob (F75 fuel x5 x6 x7 x8 x1 x2) fun x13 => (ob (F74 fuel x13) fun x14 => (ob (F75 fuel x5 x6 x7 x8 x3 x4) fun x15 => (ob (F74 fuel x15) fun x16 => (bif ((decide ((w64 (x10 * x12)) < 0)) == true) then (bif (decide ((w64 (x14 * x16)) < 0)) then (k true) else (bif ((x10 == 0) == true) then (ob (F76 fuel x1 x2 x3 x4 x5 x6) fun x17 => (bif (x17 == false) then (bif ((x12 == 0) == true) then (ob (F76 fuel x1 x2 x3 x4 x7 x8) fun x18 => (bif (x18 == false) then (bif ((x14 == 0) == true) then (ob (F76 fuel x5 x6 x7 x8 x1 x2) fun x19 => (bif (x19 == false) then (bif ((x16 == 0) == true) then (ob (F76 fuel x5 x6 x7 x8 x3 x4) fun x20 => (k x20)) else (k false)) else (k true))) else (bif ((x16 == 0) == true) then (ob (F76 fuel x5 x6 x7 x8 x3 x4) fun x21 => (k x21)) else (k false))) else (k true))) else (bif ((x14 == 0) == true) then (ob (F76 fuel x5 x6 x7 x8 x1 x2) fun x22 => (bif (x22 == false) then (bif ((x16 == 0) == true) then (ob (F76 fuel x5 x6 x7 x8 x3 x4) fun x23 => (k x23)) else (k false)) else (k true))) else (bif ((x16 == 0) == true) then (ob (F76 fuel x5 x6 x7 x8 x3 x4) fun x24 => (k x24)) else (k false)))) else (k true))) else (bif ((x12 == 0) == true) then (ob (F76 fuel x1 x2 x3 x4 x7 x8) fun x25 => (bif (x25 == false) then (bif ((x14 == 0) == true) then (ob (F76 fuel x5 x6 x7 x8 x1 x2) fun x26 => (bif (x26 == false) then (bif ((x16 == 0) == true) then (ob (F76 fuel x5 x6 x7 x8 x3 x4) fun x27 => (k x27)) else (k false)) else (k true))) else (bif ((x16 == 0) == true) then (ob (F76 fuel x5 x6 x7 x8 x3 x4) fun x28 => (k x28)) else (k false))) else (k true))) else (bif ((x14 == 0) == true) then (ob (F76 fuel x5 x6 x7 x8 x1 x2) fun x29 => (bif (x29 == false) then (bif ((x16 == 0) == true) then (ob (F76 fuel x5 x6 x7 x8 x3 x4) fun x30 => (k x30)) else (k false)) else (k true))) else (bif ((x16 == 0) == true) then (ob (F76 fuel x5 x6 x7 x8 x3 x4) fun x31 => (k x31)) else (k false)))))) else (bif ((x10 == 0) == true) then (ob (F76 fuel x1 x2 x3 x4 x5 x6) fun x32 => (bif (x32 == false) then (bif ((x12 == 0) == true) then (ob (F76 fuel x1 x2 x3 x4 x7 x8) fun x33 => (bif (x33 == false) then (bif ((x14 == 0) == true) then (ob (F76 fuel x5 x6 x7 x8 x1 x2) fun x34 => (bif (x34 == false) then (bif ((x16 == 0) == true) then (ob (F76 fuel x5 x6 x7 x8 x3 x4) fun x35 => (k x35)) else (k false)) else (k true))) else (bif ((x16 == 0) == true) then (ob (F76 fuel x5 x6 x7 x8 x3 x4) fun x36 => (k x36)) else (k false))) else (k true))) else (bif ((x14 == 0) == true) then (ob (F76 fuel x5 x6 x7 x8 x1 x2) fun x37 => (bif (x37 == false) then (bif ((x16 == 0) == true) then (ob (F76 fuel x5 x6 x7 x8 x3 x4) fun x38 => (k x38)) else (k false)) else (k true))) else (bif ((x16 == 0) == true) then (ob (F76 fuel x5 x6 x7 x8 x3 x4) fun x39 => (k x39)) else (k false)))) else (k true))) else (bif ((x12 == 0) == true) then (ob (F76 fuel x1 x2 x3 x4 x7 x8) fun x40 => (bif (x40 == false) then (bif ((x14 == 0) == true) then (ob (F76 fuel x5 x6 x7 x8 x1 x2) fun x41 => (bif (x41 == false) then (bif ((x16 == 0) == true) then (ob (F76 fuel x5 x6 x7 x8 x3 x4) fun x42 => (k x42)) else (k false)) else (k true))) else (bif ((x16 == 0) == true) then (ob (F76 fuel x5 x6 x7 x8 x3 x4) fun x43 => (k x43)) else (k false))) else (k true))) else (bif ((x14 == 0) == true) then (ob (F76 fuel x5 x6 x7 x8 x1 x2) fun x44 => (bif (x44 == false) then (bif ((x16 == 0) == true) then (ob (F76 fuel x5 x6 x7 x8 x3 x4) fun x45 => (k x45)) else (k false)) else (k true))) else (bif ((x16 == 0) == true) then (ob (F76 fuel x5 x6 x7 x8 x3 x4) fun x46 => (k x46)) else (k false))))))))))))))

def F56 (fuel : Nat) (x1 : Int) (x2 : Int) (x3 : Int) (x4 : Int) (x5 : Int) (x6 : Int) (x7 : Int) (x8 : Int) : Option (Bool) := D56 fuel x1 x2 x3 x4 x5 x6 x7 x8 some

theorem n56 {ρ σ : Type} (fuel : Nat) (x1 : Int) (x2 : Int) (x3 : Int) (x4 : Int) (x5 : Int) (x6 : Int) (x7 : Int) (x8 : Int) (k : (Bool) → Option ρ) (g : ρ → Option σ) : ob (D56 fuel x1 x2 x3 x4 x5 x6 x7 x8 k) g = D56 fuel x1 x2 x3 x4 x5 x6 x7 x8 fun t => ob (k t) g := by
  simp only [D56, ob_bif, ob_ob, ob_none]

theorem f56 {ρ : Type} (fuel : Nat) (x1 : Int) (x2 : Int) (x3 : Int) (x4 : Int) (x5 : Int) (x6 : Int) (x7 : Int) (x8 : Int) (k : (Bool) → Option ρ) : D56 fuel x1 x2 x3 x4 x5 x6 x7 x8 k = ob (F56 fuel x1 x2 x3 x4 x5 x6 x7 x8) k := by
  unfold F56
  rw [n56]
  simp only [ob_some]

theorem walk56 (fuel : Nat) (x1 : Int) (x2 : Int) (x3 : Int) (x4 : Int) (x5 : Int) (x6 : Int) (x7 : Int) (x8 : Int) :
    evalF (C18 fuel) fuel A56 [.agg [(.i .i64 x1), (.i .i64 x2)], .agg [(.i .i64 x3), (.i .i64 x4)], .agg [(.i .i64 x5), (.i .i64 x6)], .agg [(.i .i64 x7), (.i .i64 x8)]] =
    (ob (F75 fuel x1 x2 x3 x4 x5 x6) fun x9 => (ob (F74 fuel x9) fun x10 => (ob (F75 fuel x1 x2 x3 x4 x7 x8) fun x11 => (ob (F74 fuel x11) fun x12 => (ob (F75 fuel x5 x6 x7 x8 x1 x2) fun x13 => (ob (F74 fuel x13) fun x14 => (ob (F75 fuel x5 x6 x7 x8 x3 x4) fun x15 => (ob (F74 fuel x15) fun x16 => (bif ((decide ((w64 (x10 * x12)) < 0)) == true) then (bif (decide ((w64 (x14 * x16)) < 0)) then (some [.v (.b true)]) else (bif ((x10 == 0) == true) then (ob (F76 fuel x1 x2 x3 x4 x5 x6) fun x17 => (bif (x17 == false) then (bif ((x12 == 0) == true) then (ob (F76 fuel x1 x2 x3 x4 x7 x8) fun x18 => (bif (x18 == false) then (bif ((x14 == 0) == true) then (ob (F76 fuel x5 x6 x7 x8 x1 x2) fun x19 => (bif (x19 == false) then (bif ((x16 == 0) == true) then (ob (F76 fuel x5 x6 x7 x8 x3 x4) fun x20 => (some [.v (.b x20)])) else (some [.v (.b false)])) else (some [.v (.b true)]))) else (bif ((x16 == 0) == true) then (ob (F76 fuel x5 x6 x7 x8 x3 x4) fun x21 => (some [.v (.b x21)])) else (some [.v (.b false)]))) else (some [.v (.b true)]))) else (bif ((x14 == 0) == true) then (ob (F76 fuel x5 x6 x7 x8 x1 x2) fun x22 => (bif (x22 == false) then (bif ((x16 == 0) == true) then (ob (F76 fuel x5 x6 x7 x8 x3 x4) fun x23 => (some [.v (.b x23)])) else (some [.v (.b false)])) else (some [.v (.b true)]))) else (bif ((x16 == 0) == true) then (ob (F76 fuel x5 x6 x7 x8 x3 x4) fun x24 => (some [.v (.b x24)])) else (some [.v (.b false)])))) else (some [.v (.b true)]))) else (bif ((x12 == 0) == true) then (ob (F76 fuel x1 x2 x3 x4 x7 x8) fun x25 => (bif (x25 == false) then (bif ((x14 == 0) == true) then (ob (F76 fuel x5 x6 x7 x8 x1 x2) fun x26 => (bif (x26 == false) then (bif ((x16 == 0) == true) then (ob (F76 fuel x5 x6 x7 x8 x3 x4) fun x27 => (some [.v (.b x27)])) else (some [.v (.b false)])) else (some [.v (.b true)]))) else (bif ((x16 == 0) == true) then (ob (F76 fuel x5 x6 x7 x8 x3 x4) fun x28 => (some [.v (.b x28)])) else (some [.v (.b false)]))) else (some [.v (.b true)]))) else (bif ((x14 == 0) == true) then (ob (F76 fuel x5 x6 x7 x8 x1 x2) fun x29 => (bif (x29 == false) then (bif ((x16 == 0) == true) then (ob (F76 fuel x5 x6 x7 x8 x3 x4) fun x30 => (some [.v (.b x30)])) else (some [.v (.b false)])) else (some [.v (.b true)]))) else (bif ((x16 == 0) == true) then (ob (F76 fuel x5 x6 x7 x8 x3 x4) fun x31 => (some [.v (.b x31)])) else (some [.v (.b false)])))))) else (bif ((x10 == 0) == true) then (ob (F76 fuel x1 x2 x3 x4 x5 x6) fun x32 => (bif (x32 == false) then (bif ((x12 == 0) == true) then (ob (F76 fuel x1 x2 x3 x4 x7 x8) fun x33 => (bif (x33 == false) then (bif ((x14 == 0) == true) then (ob (F76 fuel x5 x6 x7 x8 x1 x2) fun x34 => (bif (x34 == false) then (bif ((x16 == 0) == true) then (ob (F76 fuel x5 x6 x7 x8 x3 x4) fun x35 => (some [.v (.b x35)])) else (some [.v (.b false)])) else (some [.v (.b true)]))) else (bif ((x16 == 0) == true) then (ob (F76 fuel x5 x6 x7 x8 x3 x4) fun x36 => (some [.v (.b x36)])) else (some [.v (.b false)]))) else (some [.v (.b true)]))) else (bif ((x14 == 0) == true) then (ob (F76 fuel x5 x6 x7 x8 x1 x2) fun x37 => (bif (x37 == false) then (bif ((x16 == 0) == true) then (ob (F76 fuel x5 x6 x7 x8 x3 x4) fun x38 => (some [.v (.b x38)])) else (some [.v (.b false)])) else (some [.v (.b true)]))) else (bif ((x16 == 0) == true) then (ob (F76 fuel x5 x6 x7 x8 x3 x4) fun x39 => (some [.v (.b x39)])) else (some [.v (.b false)])))) else (some [.v (.b true)]))) else (bif ((x12 == 0) == true) then (ob (F76 fuel x1 x2 x3 x4 x7 x8) fun x40 => (bif (x40 == false) then (bif ((x14 == 0) == true) then (ob (F76 fuel x5 x6 x7 x8 x1 x2) fun x41 => (bif (x41 == false) then (bif ((x16 == 0) == true) then (ob (F76 fuel x5 x6 x7 x8 x3 x4) fun x42 => (some [.v (.b x42)])) else (some [.v (.b false)])) else (some [.v (.b true)]))) else (bif ((x16 == 0) == true) then (ob (F76 fuel x5 x6 x7 x8 x3 x4) fun x43 => (some [.v (.b x43)])) else (some [.v (.b false)]))) else (some [.v (.b true)]))) else (bif ((x14 == 0) == true) then (ob (F76 fuel x5 x6 x7 x8 x1 x2) fun x44 => (bif (x44 == false) then (bif ((x16 == 0) == true) then (ob (F76 fuel x5 x6 x7 x8 x3 x4) fun x45 => (some [.v (.b x45)])) else (some [.v (.b false)])) else (some [.v (.b true)]))) else (bif ((x16 == 0) == true) then (ob (F76 fuel x5 x6 x7 x8 x3 x4) fun x46 => (some [.v (.b x46)])) else (some [.v (.b false)])))))))))))))) := by kernel_rfl

theorem e56 (fuel : Nat) (x1 : Int) (x2 : Int) (x3 : Int) (x4 : Int) (x5 : Int) (x6 : Int) (x7 : Int) (x8 : Int) : evalF (C18 fuel) fuel A56 [.agg [(.i .i64 x1), (.i .i64 x2)], .agg [(.i .i64 x3), (.i .i64 x4)], .agg [(.i .i64 x5), (.i .i64 x6)], .agg [(.i .i64 x7), (.i .i64 x8)]] = ob (F56 fuel x1 x2 x3 x4 x5 x6 x7 x8) fun t => some [.v (.b t)] := by
  rw [walk56, ← f56]
  simp only [D56]

def O56 (fuel : Nat) : Ora where
  o := fun args {ρ} K =>
    wc args fun a1 l2 =>
    wagg a1 fun l3 =>
    wc l3 fun c4 l5 =>
    wI .i64 c4 fun y6 =>
    wc l5 fun c8 l9 =>
    wI .i64 c8 fun y10 =>
    wn l9 <|
    wc l2 fun a12 l13 =>
    wagg a12 fun l14 =>
    wc l14 fun c15 l16 =>
    wI .i64 c15 fun y17 =>
    wc l16 fun c19 l20 =>
    wI .i64 c19 fun y21 =>
    wn l20 <|
    wc l13 fun a23 l24 =>
    wagg a23 fun l25 =>
    wc l25 fun c26 l27 =>
    wI .i64 c26 fun y28 =>
    wc l27 fun c30 l31 =>
    wI .i64 c30 fun y32 =>
    wn l31 <|
    wc l24 fun a34 l35 =>
    wagg a34 fun l36 =>
    wc l36 fun c37 l38 =>
    wI .i64 c37 fun y39 =>
    wc l38 fun c41 l42 =>
    wI .i64 c41 fun y43 =>
    wn l42 <|
    wn l35 <|
    (ob (F56 fuel y6 y10 y17 y21 y28 y32 y39 y43) fun t => K [.v (.b t)])
  nat := fun args {ρ} K => by
    simp only [bind_wc, bind_wn, bind_wv, bind_wagg, bind_wI, bind_wB, bind_wS, bind_wL, bind_wP, bind_wFn, bind_ob, Option.bind_some]

theorem d56 {P : Program} (fuel : Nat) (hmix : P.follows .mixedOrders = true) (hC : Sound P (C18 fuel)) (hF : FFits P 56 A56) (args res : List A) (h : (O56 fuel).o args some = some res) : Den P 56 args res := by
  obtain ⟨a1, l2, rfl, z0⟩ := inv_wc h
  obtain ⟨l3, rfl, z1⟩ := inv_wagg z0
  obtain ⟨c4, l5, rfl, z2⟩ := inv_wc z1
  obtain ⟨y6, h7, z3⟩ := inv_wI z2
  obtain ⟨c8, l9, rfl, z4⟩ := inv_wc z3
  obtain ⟨y10, h11, z5⟩ := inv_wI z4
  obtain ⟨hn, z6⟩ := inv_wn z5
  cases hn
  obtain ⟨a12, l13, rfl, z7⟩ := inv_wc z6
  obtain ⟨l14, rfl, z8⟩ := inv_wagg z7
  obtain ⟨c15, l16, rfl, z9⟩ := inv_wc z8
  obtain ⟨y17, h18, z10⟩ := inv_wI z9
  obtain ⟨c19, l20, rfl, z11⟩ := inv_wc z10
  obtain ⟨y21, h22, z12⟩ := inv_wI z11
  obtain ⟨hn, z13⟩ := inv_wn z12
  cases hn
  obtain ⟨a23, l24, rfl, z14⟩ := inv_wc z13
  obtain ⟨l25, rfl, z15⟩ := inv_wagg z14
  obtain ⟨c26, l27, rfl, z16⟩ := inv_wc z15
  obtain ⟨y28, h29, z17⟩ := inv_wI z16
  obtain ⟨c30, l31, rfl, z18⟩ := inv_wc z17
  obtain ⟨y32, h33, z19⟩ := inv_wI z18
  obtain ⟨hn, z20⟩ := inv_wn z19
  cases hn
  obtain ⟨a34, l35, rfl, z21⟩ := inv_wc z20
  obtain ⟨l36, rfl, z22⟩ := inv_wagg z21
  obtain ⟨c37, l38, rfl, z23⟩ := inv_wc z22
  obtain ⟨y39, h40, z24⟩ := inv_wI z23
  obtain ⟨c41, l42, rfl, z25⟩ := inv_wc z24
  obtain ⟨y43, h44, z26⟩ := inv_wI z25
  obtain ⟨hn, z27⟩ := inv_wn z26
  cases hn
  obtain ⟨hn, z28⟩ := inv_wn z27
  cases hn
  exact Den.weaken (.cons (WkA.agg (.cons (Wk.i h7) (.cons (Wk.i h11) .nil))) (.cons (WkA.agg (.cons (Wk.i h18) (.cons (Wk.i h22) .nil))) (.cons (WkA.agg (.cons (Wk.i h29) (.cons (Wk.i h33) .nil))) (.cons (WkA.agg (.cons (Wk.i h40) (.cons (Wk.i h44) .nil))) .nil)))) (evalF_sound hmix hC hF ((e56 fuel y6 y10 y17 y21 y28 y32 y39 y43).trans z28))

def C19 (fuel : Nat) : Oracle := (C18 fuel).add 56 (fun _ => true) (O56 fuel)

/-- shipyard/region.edges -/
def A58v1 : AC := (.region 9 [
  ⟨(some 45), .binOp .add 3 (.tmp 20) (.const (.int .i64 1)) 3, none⟩,
  ⟨(some 20), .move (.tmp 45), none⟩] 0 none)
def A58v2 : AC := (.seq (.block 3
  (.seq (.region 6 [
    ⟨(some 22), .move (.tmp 20), none⟩,
    ⟨(some 23), .indexAddr 22 34 2 (.tmp 18) (.tmp 20), none⟩,
    ⟨(some 24), .load 34 (some 2) (.tmp 23), none⟩,
    ⟨(some 10), .alloc 0 34 [.c (.i .i64 0), .c (.i .i64 0)], none⟩,
    ⟨(some 9), .assign (.tmp 22), none⟩,
    ⟨none, .store 34 2 (.tmp 10) (.tmp 24), none⟩] 1 none) []
    (.seq (.region 7 [
    ⟨(some 25), .move (.tmp 2), none⟩,
    ⟨(some 26), .load 34 (some 2) (.tmp 8), none⟩,
    ⟨(some 27), .move (.tmp 0), none⟩,
    ⟨(some 28), .move (.tmp 7), none⟩,
    ⟨(some 29), .binOp .add 3 (.tmp 28) (.const (.int .i64 1)) 3, none⟩,
    ⟨(some 30), .move (.tmp 0), none⟩,
    ⟨(some 31), .len 22 false (.tmp 30), none⟩,
    ⟨(some 32), .binOp .rem 3 (.tmp 29) (.tmp 31) 3, none⟩,
    ⟨(some 33), .indexAddr 22 34 2 (.tmp 27) (.tmp 32), none⟩,
    ⟨(some 34), .load 34 (some 2) (.tmp 33), none⟩,
    ⟨(some 35), .load 34 (some 2) (.tmp 10), none⟩,
    ⟨(some 36), .move (.tmp 1), none⟩,
    ⟨(some 37), .move (.tmp 9), none⟩,
    ⟨(some 38), .binOp .add 3 (.tmp 37) (.const (.int .i64 1)) 3, none⟩,
    ⟨(some 39), .move (.tmp 1), none⟩,
    ⟨(some 40), .len 22 false (.tmp 39), none⟩,
    ⟨(some 41), .binOp .rem 3 (.tmp 38) (.tmp 40) 3, none⟩,
    ⟨(some 42), .indexAddr 22 34 2 (.tmp 36) (.tmp 41), none⟩,
    ⟨(some 43), .load 34 (some 2) (.tmp 42), none⟩,
    ⟨(some 44), .callv (.tmp 25) [(.tmp 26), (.tmp 34), (.tmp 35), (.tmp 43)] [34, 34, 34, 34] .snap, none⟩] 0 (some [[], [], [], [], [3], [], [5], [3, 4, 5, 6], [2, 3, 4, 5, 6, 7], [2, 3, 4, 5, 6, 7, 8], [], [], [], [12], [], [14], [12, 13, 14, 15], [11, 12, 13, 14, 15, 16], [11, 12, 13, 14, 15, 16, 17], [0, 1, 2, 3, 4, 5, 6, 7, 8, 9, 10, 11, 12, 13, 14, 15, 16, 17, 18]])) []
    (.cond (.tmp 44)
    (.seq (.region 8 [
      ⟨(some 6), .assign (.const (.bool true)), none⟩] 0 none) []
      (.ret [0, 1, 2, 3, 4, 5, 7, 8, 9, 10, 11, 12, 13, 14, 15, 16, 17, 18, 19, 20, 21, 22, 23, 24, 25, 26, 27, 28, 29, 30, 31, 32, 33, 34, 35, 36, 37, 38, 39, 40, 41, 42, 43, 44, 45, 46]))
    .skip)))) [6, 9, 10, 22, 23, 24, 25, 26, 27, 28, 29, 30, 31, 32, 33, 34, 35, 36, 37, 38, 39, 40, 41, 42, 43, 44]
  A58v1)
def A58v3 : AC := (.seq (.region 5 [
  ⟨(some 21), .binOp .lss 3 (.tmp 20) (.tmp 19) 3, none⟩] 0 none) []
  (.seq (.cond (.tmp 21)
  .skip
  (.exit 2 [3, 4, 5, 6, 7, 8, 9, 10, 14, 15, 16, 17, 18, 19, 20, 21, 22, 23, 24, 25, 26, 27, 28, 29, 30, 31, 32, 33, 34, 35, 36, 37, 38, 39, 40, 41, 42, 43, 44, 45, 46])) []
  A58v2))
def A58v4 : AC := (.region 10 [
  ⟨(some 46), .binOp .add 3 (.tmp 13) (.const (.int .i64 1)) 3, none⟩,
  ⟨(some 13), .move (.tmp 46), none⟩] 0 none)
def A58v5 : AC := (.seq (.block 1
  (.seq (.region 3 [
    ⟨(some 15), .move (.tmp 13), none⟩,
    ⟨(some 16), .indexAddr 22 34 2 (.tmp 11) (.tmp 13), none⟩,
    ⟨(some 17), .load 34 (some 2) (.tmp 16), none⟩,
    ⟨(some 8), .alloc 0 34 [.c (.i .i64 0), .c (.i .i64 0)], none⟩,
    ⟨(some 7), .assign (.tmp 15), none⟩,
    ⟨none, .store 34 2 (.tmp 8) (.tmp 17), none⟩] 1 none) []
    (.seq (.region 4 [
    ⟨(some 18), .move (.tmp 1), none⟩,
    ⟨(some 19), .len 22 false (.tmp 18), none⟩,
    ⟨(some 20), .move (.const (.int .i64 0)), none⟩] 0 none) []
    (.block 2
    (.loop [] [3, 4, 5, 6, 9, 10, 14, 15, 16, 17, 21, 22, 23, 24, 25, 26, 27, 28, 29, 30, 31, 32, 33, 34, 35, 36, 37, 38, 39, 40, 41, 42, 43, 44, 45, 46]
      A58v3))))) [6, 7, 8, 9, 10, 15, 16, 17, 18, 19, 20, 21, 22, 23, 24, 25, 26, 27, 28, 29, 30, 31, 32, 33, 34, 35, 36, 37, 38, 39, 40, 41, 42, 43, 44, 45]
  A58v4)
def A58v6 : AC := (.seq (.region 2 [
  ⟨(some 14), .binOp .lss 3 (.tmp 13) (.tmp 12) 3, none⟩] 0 none) []
  (.seq (.cond (.tmp 14)
  .skip
  (.exit 0 [0, 1, 2, 3, 4, 5, 6, 7, 8, 9, 10, 11, 12, 13, 14, 15, 16, 17, 18, 19, 20, 21, 22, 23, 24, 25, 26, 27, 28, 29, 30, 31, 32, 33, 34, 35, 36, 37, 38, 39, 40, 41, 42, 43, 44, 45, 46])) []
  A58v5))
def A58v7 : AC := (.seq (.region 11 [
  ⟨(some 6), .assign (.const (.bool false)), none⟩] 0 none) []
  (.ret [0, 1, 2, 3, 4, 5, 7, 8, 9, 10, 11, 12, 13, 14, 15, 16, 17, 18, 19, 20, 21, 22, 23, 24, 25, 26, 27, 28, 29, 30, 31, 32, 33, 34, 35, 36, 37, 38, 39, 40, 41, 42, 43, 44, 45, 46]))
def A58 : AF := ⟨47, [.tmp 6],
  (.seq (.region 0 [
  ⟨(some 6), .assign (.const (.bool false)), none⟩] 0 none) []
  (.seq (.seq (.region 1 [
  ⟨(some 11), .move (.tmp 0), none⟩,
  ⟨(some 12), .len 22 false (.tmp 11), none⟩,
  ⟨(some 13), .move (.const (.int .i64 0)), none⟩] 0 none) []
  (.block 0
  (.loop [] [3, 4, 5, 6, 7, 8, 9, 10, 14, 15, 16, 17, 18, 19, 20, 21, 22, 23, 24, 25, 26, 27, 28, 29, 30, 31, 32, 33, 34, 35, 36, 37, 38, 39, 40, 41, 42, 43, 44, 45, 46]
    A58v6))) [6, 7, 8, 9, 10, 11, 12, 13, 14, 15, 16, 17, 18, 19, 20, 21, 22, 23, 24, 25, 26, 27, 28, 29, 30, 31, 32, 33, 34, 35, 36, 37, 38, 39, 40, 41, 42, 43, 44, 45, 46]
  A58v7))⟩

def B58v2 (C : Oracle) (fuel : Nat) {ρ : Type} : St → (Ex → St → Option ρ) → Option ρ := fun st k => evalC C fuel A58v3 st k
def N58v2 : St → Option St := fun s => s.norm [3, 4, 5, 6, 9, 10, 14, 15, 16, 17, 21, 22, 23, 24, 25, 26, 27, 28, 29, 30, 31, 32, 33, 34, 35, 36, 37, 38, 39, 40, 41, 42, 43, 44, 45, 46] 1

def s58v0 (x49 : Nat) (x50 : Nat → Nat → CV) (x51 : Nat) (x52 : Nat → Nat → CV) (x53 : Int) (x54 : Int) (x55 : Int) (x56 : Int) (x57 : Int) (x58 : Int) : St := ⟨[.x (.c (.ro false (.pr (.int .i64) (.pr (.int .i64) .nil)) x49 x50)), .x (.c (.ro false (.pr (.int .i64) (.pr (.int .i64) .nil)) x51 x52)), .x (.c (.fn 56 0 (listF []))), .u, .u, .u, .u, .x (.c (.i .i64 x53)), .x (.ptr 0 0), .u, .u, .x (.c (.ro false (.pr (.int .i64) (.pr (.int .i64) .nil)) x49 x50)), .x (.c (.i .i64 x54)), .x (.c (.i .i64 x53)), .u, .u, .u, .u, .x (.c (.ro false (.pr (.int .i64) (.pr (.int .i64) .nil)) x51 x52)), .x (.c (.i .i64 x55)), .x (.c (.i .i64 x56)), .u, .u, .u, .u, .u, .u, .u, .u, .u, .u, .u, .u, .u, .u, .u, .u, .u, .u, .u, .u, .u, .u, .u, .u, .u, .u],
    [.box [(.c (.i .i64 x57)), (.c (.i .i64 x58))]]⟩

def s58v1 (x57 : Int) (x58 : Int) (x60 : Int) (x61 : Int) : St := ⟨[.u, .u, .u, .u, .u, .u, .x (.c (.b true)), .u, .u, .u, .u, .u, .u, .u, .u, .u, .u, .u, .u, .u, .u, .u, .u, .u, .u, .u, .u, .u, .u, .u, .u, .u, .u, .u, .u, .u, .u, .u, .u, .u, .u, .u, .u, .u, .u, .u, .u],
    [.box [(.c (.i .i64 x57)), (.c (.i .i64 x58))], .box [(.c (.i .i64 x60)), (.c (.i .i64 x61))]]⟩

def s58v2 (x49 : Nat) (x50 : Nat → Nat → CV) (x51 : Nat) (x52 : Nat → Nat → CV) (x54 : Int) (x53 : Int) (x57 : Int) (x58 : Int) : St := ⟨[.x (.c (.ro false (.pr (.int .i64) (.pr (.int .i64) .nil)) x49 x50)), .x (.c (.ro false (.pr (.int .i64) (.pr (.int .i64) .nil)) x51 x52)), .x (.c (.fn 56 0 (listF []))), .u, .u, .u, .u, .u, .u, .u, .u, .x (.c (.ro false (.pr (.int .i64) (.pr (.int .i64) .nil)) x49 x50)), .x (.c (.i .i64 x54)), .x (.c (.i .i64 x53)), .u, .u, .u, .u, .u, .u, .u, .u, .u, .u, .u, .u, .u, .u, .u, .u, .u, .u, .u, .u, .u, .u, .u, .u, .u, .u, .u, .u, .u, .u, .u, .u, .u],
    [.box [(.c (.i .i64 x57)), (.c (.i .i64 x58))]]⟩

def L58v2 {ρ : Type} (fuel : Nat) (x49 : Nat) (x50 : Nat → Nat → CV) (x51 : Nat) (x52 : Nat → Nat → CV) (x53 : Int) (x54 : Int) (x55 : Int) (x57 : Int) (x58 : Int) : Nat → Int → (Int → Int → Option ρ) → (Option ρ) → Option ρ
  | 0, _, _, _ => none
  | m + 1, x56, k0, k1 =>
    (bif (decide (x56 < x55)) then (bif (inb x56 x51) then (bif ((Int.ofNat x49) == 0) then none else (bif (inb (Int.tmod (w64 (x53 + 1)) (Int.ofNat x49)) x49) then (bif ((Int.ofNat x51) == 0) then none else (bif (inb (Int.tmod (w64 (x56 + 1)) (Int.ofNat x51)) x51) then (ob (F56 fuel x57 x58 (CV.int (x50 (Int.toNat (Int.tmod (w64 (x53 + 1)) (Int.ofNat x49))) 0)) (CV.int (x50 (Int.toNat (Int.tmod (w64 (x53 + 1)) (Int.ofNat x49))) 1)) (CV.int (x52 (Int.toNat x56) 0)) (CV.int (x52 (Int.toNat x56) 1)) (CV.int (x52 (Int.toNat (Int.tmod (w64 (x56 + 1)) (Int.ofNat x51))) 0)) (CV.int (x52 (Int.toNat (Int.tmod (w64 (x56 + 1)) (Int.ofNat x51))) 1))) fun x59 => (bif x59 then (k0 (CV.int (x52 (Int.toNat x56) 0)) (CV.int (x52 (Int.toNat x56) 1))) else (L58v2 fuel x49 x50 x51 x52 x53 x54 x55 x57 x58 m (w64 (x56 + 1)) k0 k1))) else none)) else none)) else none) else k1)

theorem nl58v2 {ρ σ : Type} (fuel : Nat) (x49 : Nat) (x50 : Nat → Nat → CV) (x51 : Nat) (x52 : Nat → Nat → CV) (x53 : Int) (x54 : Int) (x55 : Int) (x57 : Int) (x58 : Int) (g : ρ → Option σ) : ∀ (m : Nat) (x56 : Int) (k0 : Int → Int → Option ρ) (k1 : Option ρ), ob (L58v2 fuel x49 x50 x51 x52 x53 x54 x55 x57 x58 m x56 k0 k1) g = L58v2 fuel x49 x50 x51 x52 x53 x54 x55 x57 x58 m x56 (fun x60 x61 => ob (k0 x60 x61) g) (ob k1 g)
  | 0, _, _, _ => rfl
  | m + 1, x56, k0, k1 => by
    simp only [L58v2, ob_bif, ob_ob, ob_none, nl58v2 fuel x49 x50 x51 x52 x53 x54 x55 x57 x58 g m]

theorem r58v2 (fuel : Nat) (m : Nat) {ρ : Type} (k : Ex → St → Option ρ) (x49 : Nat) (x50 : Nat → Nat → CV) (x51 : Nat) (x52 : Nat → Nat → CV) (x53 : Int) (x54 : Int) (x55 : Int) (x57 : Int) (x58 : Int) (x56 : Int) :
    loopH (B58v2 (C19 fuel) fuel) N58v2 (m + 1) (s58v0 x49 x50 x51 x52 x53 x54 x55 x56 x57 x58) k =
    (bif (decide (x56 < x55)) then (bif (inb x56 x51) then (bif ((Int.ofNat x49) == 0) then none else (bif (inb (Int.tmod (w64 (x53 + 1)) (Int.ofNat x49)) x49) then (bif ((Int.ofNat x51) == 0) then none else (bif (inb (Int.tmod (w64 (x56 + 1)) (Int.ofNat x51)) x51) then (ob (F56 fuel x57 x58 (CV.int (x50 (Int.toNat (Int.tmod (w64 (x53 + 1)) (Int.ofNat x49))) 0)) (CV.int (x50 (Int.toNat (Int.tmod (w64 (x53 + 1)) (Int.ofNat x49))) 1)) (CV.int (x52 (Int.toNat x56) 0)) (CV.int (x52 (Int.toNat x56) 1)) (CV.int (x52 (Int.toNat (Int.tmod (w64 (x56 + 1)) (Int.ofNat x51))) 0)) (CV.int (x52 (Int.toNat (Int.tmod (w64 (x56 + 1)) (Int.ofNat x51))) 1))) fun x59 => (bif x59 then (k .ret (s58v1 x57 x58 (CV.int (x52 (Int.toNat x56) 0)) (CV.int (x52 (Int.toNat x56) 1)))) else (loopH (B58v2 (C19 fuel) fuel) N58v2 m (s58v0 x49 x50 x51 x52 x53 x54 x55 (w64 (x56 + 1)) x57 x58) k))) else none)) else none)) else none) else (k (.exit 2) (s58v2 x49 x50 x51 x52 x54 x53 x57 x58))) := by kernel_rfl

theorem q58v2 (fuel : Nat) (x49 : Nat) (x50 : Nat → Nat → CV) (x51 : Nat) (x52 : Nat → Nat → CV) (x53 : Int) (x54 : Int) (x55 : Int) (x57 : Int) (x58 : Int) {ρ : Type} (k : Ex → St → Option ρ) : ∀ (m : Nat) (x56 : Int),
    loopH (B58v2 (C19 fuel) fuel) N58v2 m (s58v0 x49 x50 x51 x52 x53 x54 x55 x56 x57 x58) k = L58v2 fuel x49 x50 x51 x52 x53 x54 x55 x57 x58 m x56 (fun x60 x61 => k .ret (s58v1 x57 x58 x60 x61)) (k (.exit 2) (s58v2 x49 x50 x51 x52 x54 x53 x57 x58))
  | 0, _ => rfl
  | m + 1, x56 => by
    rw [r58v2]
    simp only [L58v2, q58v2 fuel x49 x50 x51 x52 x53 x54 x55 x57 x58 k m]

def B58v3 (C : Oracle) (fuel : Nat) {ρ : Type} : St → (Ex → St → Option ρ) → Option ρ := fun st k => evalC C fuel A58v6 st k
def N58v3 : St → Option St := fun s => s.norm [3, 4, 5, 6, 7, 8, 9, 10, 14, 15, 16, 17, 18, 19, 20, 21, 22, 23, 24, 25, 26, 27, 28, 29, 30, 31, 32, 33, 34, 35, 36, 37, 38, 39, 40, 41, 42, 43, 44, 45, 46] 0

def s58v3 (x33 : Nat) (x34 : Nat → Nat → CV) (x35 : Nat) (x36 : Nat → Nat → CV) (x37 : Int) (x38 : Int) : St := ⟨[.x (.c (.ro false (.pr (.int .i64) (.pr (.int .i64) .nil)) x33 x34)), .x (.c (.ro false (.pr (.int .i64) (.pr (.int .i64) .nil)) x35 x36)), .x (.c (.fn 56 0 (listF []))), .u, .u, .u, .u, .u, .u, .u, .u, .x (.c (.ro false (.pr (.int .i64) (.pr (.int .i64) .nil)) x33 x34)), .x (.c (.i .i64 x37)), .x (.c (.i .i64 x38)), .u, .u, .u, .u, .u, .u, .u, .u, .u, .u, .u, .u, .u, .u, .u, .u, .u, .u, .u, .u, .u, .u, .u, .u, .u, .u, .u, .u, .u, .u, .u, .u, .u],
    []⟩

def s58v4 (x64 : Int) (x65 : Int) (x66 : Int) (x67 : Int) : St := ⟨[.u, .u, .u, .u, .u, .u, .x (.c (.b true)), .u, .u, .u, .u, .u, .u, .u, .u, .u, .u, .u, .u, .u, .u, .u, .u, .u, .u, .u, .u, .u, .u, .u, .u, .u, .u, .u, .u, .u, .u, .u, .u, .u, .u, .u, .u, .u, .u, .u, .u],
    [.box [(.c (.i .i64 x64)), (.c (.i .i64 x65))], .box [(.c (.i .i64 x66)), (.c (.i .i64 x67))]]⟩

def s58v5 : St := ⟨[.u, .u, .u, .u, .u, .u, .u, .u, .u, .u, .u, .u, .u, .u, .u, .u, .u, .u, .u, .u, .u, .u, .u, .u, .u, .u, .u, .u, .u, .u, .u, .u, .u, .u, .u, .u, .u, .u, .u, .u, .u, .u, .u, .u, .u, .u, .u],
    []⟩

def L58v3 {ρ : Type} (fuel : Nat) (x33 : Nat) (x34 : Nat → Nat → CV) (x35 : Nat) (x36 : Nat → Nat → CV) (x37 : Int) : Nat → Int → (Int → Int → Int → Int → Option ρ) → (Option ρ) → Option ρ
  | 0, _, _, _ => none
  | m + 1, x38, k0, k1 =>
    (bif (decide (x38 < x37)) then (bif (inb x38 x33) then (L58v2 fuel x33 x34 x35 x36 x38 x37 (Int.ofNat x35) (CV.int (x34 (Int.toNat x38) 0)) (CV.int (x34 (Int.toNat x38) 1)) fuel 0
    (fun x62 x63 => (k0 (CV.int (x34 (Int.toNat x38) 0)) (CV.int (x34 (Int.toNat x38) 1)) x62 x63))
    (L58v3 fuel x33 x34 x35 x36 x37 m (w64 (x38 + 1)) k0 k1)) else none) else k1)

theorem nl58v3 {ρ σ : Type} (fuel : Nat) (x33 : Nat) (x34 : Nat → Nat → CV) (x35 : Nat) (x36 : Nat → Nat → CV) (x37 : Int) (g : ρ → Option σ) : ∀ (m : Nat) (x38 : Int) (k0 : Int → Int → Int → Int → Option ρ) (k1 : Option ρ), ob (L58v3 fuel x33 x34 x35 x36 x37 m x38 k0 k1) g = L58v3 fuel x33 x34 x35 x36 x37 m x38 (fun x64 x65 x66 x67 => ob (k0 x64 x65 x66 x67) g) (ob k1 g)
  | 0, _, _, _ => rfl
  | m + 1, x38, k0, k1 => by
    simp only [L58v3, ob_bif, ob_ob, ob_none, nl58v3 fuel x33 x34 x35 x36 x37 g m, nl58v2]

def s58v6 (x33 : Nat) (x34 : Nat → Nat → CV) (x35 : Nat) (x36 : Nat → Nat → CV) (x38 : Int) (x37 : Int) : St := ⟨[.x (.c (.ro false (.pr (.int .i64) (.pr (.int .i64) .nil)) x33 x34)), .x (.c (.ro false (.pr (.int .i64) (.pr (.int .i64) .nil)) x35 x36)), .x (.c (.fn 56 0 (listF []))), .u, .u, .u, .u, .x (.c (.i .i64 x38)), .x (.ptr 0 0), .u, .u, .x (.c (.ro false (.pr (.int .i64) (.pr (.int .i64) .nil)) x33 x34)), .x (.c (.i .i64 x37)), .x (.c (.i .i64 x38)), .x (.c (.b true)), .x (.c (.i .i64 x38)), .x (.c (.rp (.pr (.int .i64) (.pr (.int .i64) .nil)) (x34 (Int.toNat x38)))), .agg [(.c (.i .i64 (CV.int (x34 (Int.toNat x38) 0)))), (.c (.i .i64 (CV.int (x34 (Int.toNat x38) 1))))], .x (.c (.ro false (.pr (.int .i64) (.pr (.int .i64) .nil)) x35 x36)), .x (.c (.i .i64 (Int.ofNat x35))), .x (.c (.i .i64 0)), .u, .u, .u, .u, .u, .u, .u, .u, .u, .u, .u, .u, .u, .u, .u, .u, .u, .u, .u, .u, .u, .u, .u, .u, .u, .u],
    [.box [(.c (.i .i64 (CV.int (x34 (Int.toNat x38) 0)))), (.c (.i .i64 (CV.int (x34 (Int.toNat x38) 1))))]]⟩

theorem r58v3 (fuel : Nat) (m : Nat) {ρ : Type} (k : Ex → St → Option ρ) (x33 : Nat) (x34 : Nat → Nat → CV) (x35 : Nat) (x36 : Nat → Nat → CV) (x37 : Int) (x38 : Int) :
    loopH (B58v3 (C19 fuel) fuel) N58v3 (m + 1) (s58v3 x33 x34 x35 x36 x37 x38) k =
    (bif (decide (x38 < x37)) then (bif (inb x38 x33) then (loopN (B58v2 (C19 fuel) fuel) N58v2 fuel (s58v6 x33 x34 x35 x36 x38 x37) (kBlk 2 (kBlk 1 (kSeq (C19 fuel) fuel [6, 7, 8, 9, 10, 15, 16, 17, 18, 19, 20, 21, 22, 23, 24, 25, 26, 27, 28, 29, 30, 31, 32, 33, 34, 35, 36, 37, 38, 39, 40, 41, 42, 43, 44, 45] A58v4 (kLoop (B58v3 (C19 fuel) fuel) N58v3 m k))))) else none) else (k (.exit 0) s58v5)) := by kernel_rfl

theorem t58v1 (fuel : Nat) {ρ : Type} (k : Ex → St → Option ρ) (x33 : Nat) (x34 : Nat → Nat → CV) (x35 : Nat) (x36 : Nat → Nat → CV) (x38 : Int) (x37 : Int) :
    loopN (B58v2 (C19 fuel) fuel) N58v2 fuel (s58v6 x33 x34 x35 x36 x38 x37) k =
    L58v2 fuel x33 x34 x35 x36 x38 x37 (Int.ofNat x35) (CV.int (x34 (Int.toNat x38) 0)) (CV.int (x34 (Int.toNat x38) 1)) fuel 0 (fun x60 x61 => k .ret (s58v1 (CV.int (x34 (Int.toNat x38) 0)) (CV.int (x34 (Int.toNat x38) 1)) x60 x61)) (k (.exit 2) (s58v2 x33 x34 x35 x36 x37 x38 (CV.int (x34 (Int.toNat x38) 0)) (CV.int (x34 (Int.toNat x38) 1)))) :=
  (loopN_at (st' := (s58v0 x33 x34 x35 x36 x38 x37 (Int.ofNat x35) 0 (CV.int (x34 (Int.toNat x38) 0)) (CV.int (x34 (Int.toNat x38) 1)))) (by kernel_rfl)).trans (q58v2 fuel x33 x34 x35 x36 x38 x37 (Int.ofNat x35) (CV.int (x34 (Int.toNat x38) 0)) (CV.int (x34 (Int.toNat x38) 1)) k fuel 0)

theorem g58v2 (fuel : Nat) (m : Nat) {ρ : Type} (k : Ex → St → Option ρ) (x34 : Nat → Nat → CV) (x38 : Int) (x62 : Int) (x63 : Int) :
    (kBlk 2 (kBlk 1 (kSeq (C19 fuel) fuel [6, 7, 8, 9, 10, 15, 16, 17, 18, 19, 20, 21, 22, 23, 24, 25, 26, 27, 28, 29, 30, 31, 32, 33, 34, 35, 36, 37, 38, 39, 40, 41, 42, 43, 44, 45] A58v4 (kLoop (B58v3 (C19 fuel) fuel) N58v3 m k)))) .ret (s58v1 (CV.int (x34 (Int.toNat x38) 0)) (CV.int (x34 (Int.toNat x38) 1)) x62 x63) =
    (k .ret (s58v4 (CV.int (x34 (Int.toNat x38) 0)) (CV.int (x34 (Int.toNat x38) 1)) x62 x63)) := by kernel_rfl

theorem g58v3 (fuel : Nat) (m : Nat) {ρ : Type} (k : Ex → St → Option ρ) (x33 : Nat) (x34 : Nat → Nat → CV) (x35 : Nat) (x36 : Nat → Nat → CV) (x37 : Int) (x38 : Int) :
    (kBlk 2 (kBlk 1 (kSeq (C19 fuel) fuel [6, 7, 8, 9, 10, 15, 16, 17, 18, 19, 20, 21, 22, 23, 24, 25, 26, 27, 28, 29, 30, 31, 32, 33, 34, 35, 36, 37, 38, 39, 40, 41, 42, 43, 44, 45] A58v4 (kLoop (B58v3 (C19 fuel) fuel) N58v3 m k)))) (.exit 2) (s58v2 x33 x34 x35 x36 x37 x38 (CV.int (x34 (Int.toNat x38) 0)) (CV.int (x34 (Int.toNat x38) 1))) =
    (loopH (B58v3 (C19 fuel) fuel) N58v3 m (s58v3 x33 x34 x35 x36 x37 (w64 (x38 + 1))) k) := by kernel_rfl

theorem q58v3 (fuel : Nat) (x33 : Nat) (x34 : Nat → Nat → CV) (x35 : Nat) (x36 : Nat → Nat → CV) (x37 : Int) {ρ : Type} (k : Ex → St → Option ρ) : ∀ (m : Nat) (x38 : Int),
    loopH (B58v3 (C19 fuel) fuel) N58v3 m (s58v3 x33 x34 x35 x36 x37 x38) k = L58v3 fuel x33 x34 x35 x36 x37 m x38 (fun x64 x65 x66 x67 => k .ret (s58v4 x64 x65 x66 x67)) (k (.exit 0) s58v5)
  | 0, _ => rfl
  | m + 1, x38 => by
    rw [r58v3]
    simp only [L58v3, q58v3 fuel x33 x34 x35 x36 x37 k m, t58v1, g58v2, g58v3]

def D58 {ρ : Type} (fuel : Nat) (x1 : Nat) (x2 : Nat → Nat → CV) (x3 : Nat) (x4 : Nat → Nat → CV) (k : Bool → Option ρ) : Option ρ :=
  (L58v3 fuel x1 x2 x3 x4 (Int.ofNat x1) fuel 0
    (fun x68 x69 x70 x71 => (k true))
    (k false))

def F58 (fuel : Nat) (x1 : Nat) (x2 : Nat → Nat → CV) (x3 : Nat) (x4 : Nat → Nat → CV) : Option (Bool) := D58 fuel x1 x2 x3 x4 some

theorem n58 {ρ σ : Type} (fuel : Nat) (x1 : Nat) (x2 : Nat → Nat → CV) (x3 : Nat) (x4 : Nat → Nat → CV) (k : (Bool) → Option ρ) (g : ρ → Option σ) : ob (D58 fuel x1 x2 x3 x4 k) g = D58 fuel x1 x2 x3 x4 fun t => ob (k t) g := by
  simp only [D58, ob_bif, ob_ob, ob_none, nl58v3]

theorem f58 {ρ : Type} (fuel : Nat) (x1 : Nat) (x2 : Nat → Nat → CV) (x3 : Nat) (x4 : Nat → Nat → CV) (k : (Bool) → Option ρ) : D58 fuel x1 x2 x3 x4 k = ob (F58 fuel x1 x2 x3 x4) k := by
  unfold F58
  rw [n58]
  simp only [ob_some]

def s58v7 (x1 : Nat) (x2 : Nat → Nat → CV) (x3 : Nat) (x4 : Nat → Nat → CV) : St := ⟨[.x (.c (.ro false (.pr (.int .i64) (.pr (.int .i64) .nil)) x1 x2)), .x (.c (.ro false (.pr (.int .i64) (.pr (.int .i64) .nil)) x3 x4)), .x (.c (.fn 56 0 (listF []))), .undef, .undef, .undef, .x (.c (.b false)), .undef, .undef, .undef, .undef, .x (.c (.ro false (.pr (.int .i64) (.pr (.int .i64) .nil)) x1 x2)), .x (.c (.i .i64 (Int.ofNat x1))), .x (.c (.i .i64 0)), .undef, .undef, .undef, .undef, .undef, .undef, .undef, .undef, .undef, .undef, .undef, .undef, .undef, .undef, .undef, .undef, .undef, .undef, .undef, .undef, .undef, .undef, .undef, .undef, .undef, .undef, .undef, .undef, .undef, .undef, .undef, .undef, .undef],
    []⟩

theorem walk58 (fuel : Nat) (x1 : Nat) (x2 : Nat → Nat → CV) (x3 : Nat) (x4 : Nat → Nat → CV) :
    evalF (C19 fuel) fuel A58 [.v (.ro false (.pr (.int .i64) (.pr (.int .i64) .nil)) x1 x2), .v (.ro false (.pr (.int .i64) (.pr (.int .i64) .nil)) x3 x4), .v (.fn 56 0 (listF []))] =
    (loopN (B58v3 (C19 fuel) fuel) N58v3 fuel (s58v7 x1 x2 x3 x4) (kBlk 0 (kSeq (C19 fuel) fuel [6, 7, 8, 9, 10, 11, 12, 13, 14, 15, 16, 17, 18, 19, 20, 21, 22, 23, 24, 25, 26, 27, 28, 29, 30, 31, 32, 33, 34, 35, 36, 37, 38, 39, 40, 41, 42, 43, 44, 45, 46] A58v7 (finish A58)))) := by kernel_rfl

theorem t58v4 (fuel : Nat) {ρ : Type} (k : Ex → St → Option ρ) (x1 : Nat) (x2 : Nat → Nat → CV) (x3 : Nat) (x4 : Nat → Nat → CV) :
    loopN (B58v3 (C19 fuel) fuel) N58v3 fuel (s58v7 x1 x2 x3 x4) k =
    L58v3 fuel x1 x2 x3 x4 (Int.ofNat x1) fuel 0 (fun x64 x65 x66 x67 => k .ret (s58v4 x64 x65 x66 x67)) (k (.exit 0) s58v5) :=
  (loopN_at (st' := (s58v3 x1 x2 x3 x4 (Int.ofNat x1) 0)) (by kernel_rfl)).trans (q58v3 fuel x1 x2 x3 x4 (Int.ofNat x1) k fuel 0)

theorem g58v5 (fuel : Nat) (x68 : Int) (x69 : Int) (x70 : Int) (x71 : Int) :
    (kBlk 0 (kSeq (C19 fuel) fuel [6, 7, 8, 9, 10, 11, 12, 13, 14, 15, 16, 17, 18, 19, 20, 21, 22, 23, 24, 25, 26, 27, 28, 29, 30, 31, 32, 33, 34, 35, 36, 37, 38, 39, 40, 41, 42, 43, 44, 45, 46] A58v7 (finish A58))) .ret (s58v4 x68 x69 x70 x71) =
    (some [.v (.b true)]) := by kernel_rfl

theorem g58v6 (fuel : Nat) :
    (kBlk 0 (kSeq (C19 fuel) fuel [6, 7, 8, 9, 10, 11, 12, 13, 14, 15, 16, 17, 18, 19, 20, 21, 22, 23, 24, 25, 26, 27, 28, 29, 30, 31, 32, 33, 34, 35, 36, 37, 38, 39, 40, 41, 42, 43, 44, 45, 46] A58v7 (finish A58))) (.exit 0) s58v5 =
    (some [.v (.b false)]) := by kernel_rfl

theorem e58 (fuel : Nat) (x1 : Nat) (x2 : Nat → Nat → CV) (x3 : Nat) (x4 : Nat → Nat → CV) : evalF (C19 fuel) fuel A58 [.v (.ro false (.pr (.int .i64) (.pr (.int .i64) .nil)) x1 x2), .v (.ro false (.pr (.int .i64) (.pr (.int .i64) .nil)) x3 x4), .v (.fn 56 0 (listF []))] = ob (F58 fuel x1 x2 x3 x4) fun t => some [.v (.b t)] := by
  rw [walk58, ← f58]
  simp only [D58, t58v4, g58v5, g58v6]

def O58 (fuel : Nat) : Ora where
  o := fun args {ρ} K =>
    wc args fun a1 l2 =>
    wv a1 fun c3 =>
    wL (.pr (.int .i64) (.pr (.int .i64) .nil)) c3 fun y4 y5 =>
    wc l2 fun a7 l8 =>
    wv a7 fun c9 =>
    wL (.pr (.int .i64) (.pr (.int .i64) .nil)) c9 fun y10 y11 =>
    wc l8 fun a13 l14 =>
    wv a13 fun c15 =>
    wFn 56 0 c15 fun y16 =>
    wn l14 <|
    (ob (F58 fuel y4 y5 y10 y11) fun t => K [.v (.b t)])
  nat := fun args {ρ} K => by
    simp only [bind_wc, bind_wn, bind_wv, bind_wagg, bind_wI, bind_wB, bind_wS, bind_wL, bind_wP, bind_wFn, bind_ob, Option.bind_some]

theorem d58 {P : Program} (fuel : Nat) (hmix : P.follows .mixedOrders = true) (hC : Sound P (C19 fuel)) (hF : FFits P 58 A58) (args res : List A) (h : (O58 fuel).o args some = some res) : Den P 58 args res := by
  obtain ⟨a1, l2, rfl, z0⟩ := inv_wc h
  obtain ⟨c3, rfl, z1⟩ := inv_wv z0
  obtain ⟨y4, y5, h6, z2⟩ := inv_wL z1
  obtain ⟨a7, l8, rfl, z3⟩ := inv_wc z2
  obtain ⟨c9, rfl, z4⟩ := inv_wv z3
  obtain ⟨y10, y11, h12, z5⟩ := inv_wL z4
  obtain ⟨a13, l14, rfl, z6⟩ := inv_wc z5
  obtain ⟨c15, rfl, z7⟩ := inv_wv z6
  obtain ⟨y16, h17, z8⟩ := inv_wFn z7
  obtain ⟨hn, z9⟩ := inv_wn z8
  cases hn
  exact Den.weaken (.cons (WkA.v h6) (.cons (WkA.v h12) (.cons (WkA.v (wk_fn0 h17)) .nil))) (evalF_sound hmix hC hF ((e58 fuel y4 y5 y10 y11).trans z9))

def C20 (fuel : Nat) : Oracle := (C19 fuel).add 58 (fun l => isFn 56 l 2) (O58 fuel)

/-- shipyard/poly.Where -/
def A65v1 : AC := (.seq (.region 11 [
  ⟨(some 47), .load 34 (some 2) (.tmp 7), none⟩,
  ⟨(some 48), .load 34 (some 2) (.tmp 8), none⟩,
  ⟨(some 49), .load 34 (some 2) (.tmp 3), none⟩,
  ⟨(some 50), .call 79 [(.tmp 47), (.tmp 48), (.tmp 49)] [34, 34, 34] .snap, none⟩,
  ⟨(some 51), .binOp .gtr 3 (.tmp 50) (.const (.int .i64 0)) 3, none⟩,
  ⟨(some 9), .assign (.tmp 51), none⟩] 0 none) []
  (.seq (.region 12 [
  ⟨(some 52), .move (.tmp 9), none⟩,
  ⟨(some 53), .fieldAddr 34 (.tmp 8) 1 1, none⟩,
  ⟨(some 54), .load 3 none (.tmp 53), none⟩,
  ⟨(some 55), .fieldAddr 34 (.tmp 7) 1 1, none⟩,
  ⟨(some 56), .load 3 none (.tmp 55), none⟩,
  ⟨(some 57), .binOp .gtr 3 (.tmp 54) (.tmp 56) 3, none⟩,
  ⟨(some 58), .eqB false 4 (.tmp 52) (.tmp 57) 4, none⟩] 0 none) []
  (.cond (.tmp 58)
  (.region 13 [
    ⟨(some 59), .move (.tmp 5), none⟩,
    ⟨(some 60), .unOp .not 4 (.tmp 59), none⟩,
    ⟨(some 5), .assign (.tmp 60), none⟩] 0 none)
  .skip)))
def A65v2 : AC := (.seq (.seq (.region 10 [
  ⟨(some 36), .fieldAddr 34 (.tmp 7) 1 1, none⟩,
  ⟨(some 37), .load 3 none (.tmp 36), none⟩,
  ⟨(some 38), .fieldAddr 34 (.tmp 3) 1 1, none⟩,
  ⟨(some 39), .load 3 none (.tmp 38), none⟩,
  ⟨(some 40), .binOp .gtr 3 (.tmp 37) (.tmp 39) 3, none⟩,
  ⟨(some 41), .fieldAddr 34 (.tmp 8) 1 1, none⟩,
  ⟨(some 42), .load 3 none (.tmp 41), none⟩,
  ⟨(some 43), .fieldAddr 34 (.tmp 3) 1 1, none⟩,
  ⟨(some 44), .load 3 none (.tmp 43), none⟩,
  ⟨(some 45), .binOp .gtr 3 (.tmp 42) (.tmp 44) 3, none⟩,
  ⟨(some 46), .eqB false 4 (.tmp 40) (.tmp 45) 4, none⟩] 0 none) []
  (.cond (.tmp 46)
  (.exit 1 [1, 2, 4, 6, 7, 8, 9, 10, 11, 12, 13, 14, 15, 16, 20, 21, 22, 23, 24, 25, 26, 27, 28, 29, 30, 31, 32, 33, 34, 35, 36, 37, 38, 39, 40, 41, 42, 43, 44, 45, 46, 47, 48, 49, 50, 51, 52, 53, 54, 55, 56, 57, 58, 59, 60, 61, 62])
  .skip)) [36, 37, 38, 39, 40, 41, 42, 43, 44, 45, 46]
  A65v1)
def A65v3 : AC := (.region 14 [
  ⟨(some 61), .binOp .add 3 (.tmp 19) (.const (.int .i64 1)) 3, none⟩,
  ⟨(some 19), .move (.tmp 61), none⟩] 0 none)
def A65v4 : AC := (.seq (.block 1
  (.seq (.region 6 [
    ⟨(some 21), .move (.tmp 19), none⟩,
    ⟨(some 22), .indexAddr 22 34 2 (.tmp 17) (.tmp 19), none⟩,
    ⟨(some 23), .load 34 (some 2) (.tmp 22), none⟩,
    ⟨(some 7), .alloc 0 34 [.c (.i .i64 0), .c (.i .i64 0)], none⟩,
    ⟨(some 6), .assign (.tmp 21), none⟩,
    ⟨none, .store 34 2 (.tmp 7) (.tmp 23), none⟩] 1 none) []
    (.seq (.region 7 [
    ⟨(some 24), .move (.tmp 0), none⟩,
    ⟨(some 25), .move (.tmp 6), none⟩,
    ⟨(some 26), .binOp .add 3 (.tmp 25) (.const (.int .i64 1)) 3, none⟩,
    ⟨(some 27), .move (.tmp 0), none⟩,
    ⟨(some 28), .len 22 false (.tmp 27), none⟩,
    ⟨(some 29), .binOp .rem 3 (.tmp 26) (.tmp 28) 3, none⟩,
    ⟨(some 30), .indexAddr 22 34 2 (.tmp 24) (.tmp 29), none⟩,
    ⟨(some 31), .load 34 (some 2) (.tmp 30), none⟩,
    ⟨(some 8), .alloc 0 34 [.c (.i .i64 0), .c (.i .i64 0)], none⟩,
    ⟨none, .store 34 2 (.tmp 8) (.tmp 31), none⟩] 1 none) []
    (.seq (.seq (.region 8 [
    ⟨(some 32), .load 34 (some 2) (.tmp 7), none⟩,
    ⟨(some 33), .load 34 (some 2) (.tmp 8), none⟩,
    ⟨(some 34), .load 34 (some 2) (.tmp 3), none⟩,
    ⟨(some 35), .call 81 [(.tmp 32), (.tmp 33), (.tmp 34)] [34, 34, 34] .snap, none⟩] 0 none) []
    (.cond (.tmp 35)
    (.seq (.region 9 [
      ⟨(some 4), .assign (.const (.int .i64 0)), none⟩] 0 none) []
      (.ret [0, 1, 2, 3, 5, 6, 7, 8, 9, 10, 11, 12, 13, 14, 15, 16, 17, 18, 19, 20, 21, 22, 23, 24, 25, 26, 27, 28, 29, 30, 31, 32, 33, 34, 35, 36, 37, 38, 39, 40, 41, 42, 43, 44, 45, 46, 47, 48, 49, 50, 51, 52, 53, 54, 55, 56, 57, 58, 59, 60, 61, 62]))
    .skip)) [4, 32, 33, 34, 35]
    A65v2)))) [4, 6, 7, 8, 9, 21, 22, 23, 24, 25, 26, 27, 28, 29, 30, 31, 32, 33, 34, 35, 36, 37, 38, 39, 40, 41, 42, 43, 44, 45, 46, 47, 48, 49, 50, 51, 52, 53, 54, 55, 56, 57, 58, 59, 60]
  A65v3)
def A65v5 : AC := (.seq (.region 5 [
  ⟨(some 20), .binOp .lss 3 (.tmp 19) (.tmp 18) 3, none⟩] 0 none) []
  (.seq (.cond (.tmp 20)
  .skip
  (.exit 0 [0, 1, 2, 3, 4, 6, 7, 8, 9, 10, 11, 12, 13, 14, 15, 16, 17, 18, 19, 20, 21, 22, 23, 24, 25, 26, 27, 28, 29, 30, 31, 32, 33, 34, 35, 36, 37, 38, 39, 40, 41, 42, 43, 44, 45, 46, 47, 48, 49, 50, 51, 52, 53, 54, 55, 56, 57, 58, 59, 60, 61, 62])) []
  A65v4))
def A65v6 : AC := (.seq (.region 17 [
  ⟨(some 4), .assign (.const (.int .i64 (-1))), none⟩] 0 none) []
  (.ret [0, 1, 2, 3, 5, 6, 7, 8, 9, 10, 11, 12, 13, 14, 15, 16, 17, 18, 19, 20, 21, 22, 23, 24, 25, 26, 27, 28, 29, 30, 31, 32, 33, 34, 35, 36, 37, 38, 39, 40, 41, 42, 43, 44, 45, 46, 47, 48, 49, 50, 51, 52, 53, 54, 55, 56, 57, 58, 59, 60, 61, 62]))
def A65v7 : AC := (.seq (.seq (.region 15 [
  ⟨(some 62), .move (.tmp 5), none⟩] 0 none) []
  (.cond (.tmp 62)
  (.seq (.region 16 [
    ⟨(some 4), .assign (.const (.int .i64 1)), none⟩] 0 none) []
    (.ret [0, 1, 2, 3, 5, 6, 7, 8, 9, 10, 11, 12, 13, 14, 15, 16, 17, 18, 19, 20, 21, 22, 23, 24, 25, 26, 27, 28, 29, 30, 31, 32, 33, 34, 35, 36, 37, 38, 39, 40, 41, 42, 43, 44, 45, 46, 47, 48, 49, 50, 51, 52, 53, 54, 55, 56, 57, 58, 59, 60, 61, 62]))
  .skip)) [4, 62]
  A65v6)
def A65v8 : AC := (.seq (.region 3 [
  ⟨(some 5), .assign (.const (.bool false)), none⟩] 0 none) []
  (.seq (.seq (.region 4 [
  ⟨(some 17), .move (.tmp 0), none⟩,
  ⟨(some 18), .len 22 false (.tmp 17), none⟩,
  ⟨(some 19), .move (.const (.int .i64 0)), none⟩] 0 none) []
  (.block 0
  (.loop [] [1, 2, 4, 6, 7, 8, 9, 10, 11, 12, 13, 14, 15, 16, 20, 21, 22, 23, 24, 25, 26, 27, 28, 29, 30, 31, 32, 33, 34, 35, 36, 37, 38, 39, 40, 41, 42, 43, 44, 45, 46, 47, 48, 49, 50, 51, 52, 53, 54, 55, 56, 57, 58, 59, 60, 61, 62]
    A65v5))) [4, 6, 7, 8, 9, 17, 18, 19, 20, 21, 22, 23, 24, 25, 26, 27, 28, 29, 30, 31, 32, 33, 34, 35, 36, 37, 38, 39, 40, 41, 42, 43, 44, 45, 46, 47, 48, 49, 50, 51, 52, 53, 54, 55, 56, 57, 58, 59, 60, 61]
  A65v7))
def A65 : AF := ⟨63, [.tmp 4],
  (.seq (.region 0 [
  ⟨(some 3), .box 0 34 (.tmp 1), none⟩,
  ⟨(some 4), .assign (.const (.int .i64 0)), none⟩] 1 none) []
  (.seq (.seq (.region 1 [
  ⟨(some 10), .load 34 (some 2) (.tmp 3), none⟩,
  ⟨(some 11), .call 61 [(.tmp 10)] [34] .snap, none⟩,
  ⟨(some 12), .move (.tmp 11), none⟩,
  ⟨(some 13), .move (.tmp 0), (some (12, false))⟩,
  ⟨(some 14), .call 33 [(.tmp 13)] [22] .snap, (some (12, false))⟩,
  ⟨(some 15), .binOp .neq 27 (.tmp 14) (.const (.int .i64 0)) 27, (some (12, false))⟩,
  ⟨(some 16), .pick (.tmp 12) (.const (.bool true)) (.tmp 15), none⟩] 0 none) []
  (.cond (.tmp 16)
  (.seq (.region 2 [
    ⟨(some 4), .assign (.const (.int .i64 (-1))), none⟩] 0 none) []
    (.ret [0, 1, 2, 3, 5, 6, 7, 8, 9, 10, 11, 12, 13, 14, 15, 16, 17, 18, 19, 20, 21, 22, 23, 24, 25, 26, 27, 28, 29, 30, 31, 32, 33, 34, 35, 36, 37, 38, 39, 40, 41, 42, 43, 44, 45, 46, 47, 48, 49, 50, 51, 52, 53, 54, 55, 56, 57, 58, 59, 60, 61, 62]))
  .skip)) [4, 10, 11, 12, 13, 14, 15, 16]
  A65v8))⟩

def B65v1 (C : Oracle) (fuel : Nat) {ρ : Type} : St → (Ex → St → Option ρ) → Option ρ := fun st k => evalC C fuel A65v5 st k
def N65v1 : St → Option St := fun s => s.norm [1, 2, 4, 6, 7, 8, 9, 10, 11, 12, 13, 14, 15, 16, 20, 21, 22, 23, 24, 25, 26, 27, 28, 29, 30, 31, 32, 33, 34, 35, 36, 37, 38, 39, 40, 41, 42, 43, 44, 45, 46, 47, 48, 49, 50, 51, 52, 53, 54, 55, 56, 57, 58, 59, 60, 61, 62] 1

def s65v0 (x14 : Nat) (x15 : Nat → Nat → CV) (x16 : Bool) (x17 : Int) (x18 : Int) (x19 : Int) (x20 : Int) : St := ⟨[.x (.c (.ro false (.pr (.int .i64) (.pr (.int .i64) .nil)) x14 x15)), .u, .u, .x (.ptr 0 0), .u, .x (.c (.b x16)), .u, .u, .u, .u, .u, .u, .u, .u, .u, .u, .u, .x (.c (.ro false (.pr (.int .i64) (.pr (.int .i64) .nil)) x14 x15)), .x (.c (.i .i64 x17)), .x (.c (.i .i64 x18)), .u, .u, .u, .u, .u, .u, .u, .u, .u, .u, .u, .u, .u, .u, .u, .u, .u, .u, .u, .u, .u, .u, .u, .u, .u, .u, .u, .u, .u, .u, .u, .u, .u, .u, .u, .u, .u, .u, .u, .u, .u, .u, .u],
    [.box [(.c (.i .i64 x19)), (.c (.i .i64 x20))]]⟩

def s65v1 (x19 : Int) (x20 : Int) (x23 : Int) (x24 : Int) (x25 : Int) (x26 : Int) : St := ⟨[.u, .u, .u, .u, .x (.c (.i .i64 0)), .u, .u, .u, .u, .u, .u, .u, .u, .u, .u, .u, .u, .u, .u, .u, .u, .u, .u, .u, .u, .u, .u, .u, .u, .u, .u, .u, .u, .u, .u, .u, .u, .u, .u, .u, .u, .u, .u, .u, .u, .u, .u, .u, .u, .u, .u, .u, .u, .u, .u, .u, .u, .u, .u, .u, .u, .u, .u],
    [.box [(.c (.i .i64 x19)), (.c (.i .i64 x20))], .box [(.c (.i .i64 x23)), (.c (.i .i64 x24))], .box [(.c (.i .i64 x25)), (.c (.i .i64 x26))]]⟩

def s65v2 (x27 : Bool) (x19 : Int) (x20 : Int) : St := ⟨[.u, .u, .u, .u, .u, .x (.c (.b x27)), .u, .u, .u, .u, .u, .u, .u, .u, .u, .u, .u, .u, .u, .u, .u, .u, .u, .u, .u, .u, .u, .u, .u, .u, .u, .u, .u, .u, .u, .u, .u, .u, .u, .u, .u, .u, .u, .u, .u, .u, .u, .u, .u, .u, .u, .u, .u, .u, .u, .u, .u, .u, .u, .u, .u, .u, .u],
    [.box [(.c (.i .i64 x19)), (.c (.i .i64 x20))]]⟩

def L65v1 {ρ : Type} (fuel : Nat) (x14 : Nat) (x15 : Nat → Nat → CV) (x17 : Int) (x19 : Int) (x20 : Int) : Nat → Bool → Int → (Int → Int → Int → Int → Option ρ) → (Bool → Option ρ) → Option ρ
  | 0, _, _, _, _ => none
  | m + 1, x16, x18, k0, k1 =>
    (bif (decide (x18 < x17)) then (bif (inb x18 x14) then (bif ((Int.ofNat x14) == 0) then none else (bif (inb (Int.tmod (w64 (x18 + 1)) (Int.ofNat x14)) x14) then (ob (F81 fuel (CV.int (x15 (Int.toNat x18) 0)) (CV.int (x15 (Int.toNat x18) 1)) (CV.int (x15 (Int.toNat (Int.tmod (w64 (x18 + 1)) (Int.ofNat x14))) 0)) (CV.int (x15 (Int.toNat (Int.tmod (w64 (x18 + 1)) (Int.ofNat x14))) 1)) x19 x20) fun x21 => (bif x21 then (k0 (CV.int (x15 (Int.toNat x18) 0)) (CV.int (x15 (Int.toNat x18) 1)) (CV.int (x15 (Int.toNat (Int.tmod (w64 (x18 + 1)) (Int.ofNat x14))) 0)) (CV.int (x15 (Int.toNat (Int.tmod (w64 (x18 + 1)) (Int.ofNat x14))) 1))) else (bif ((decide ((CV.int (x15 (Int.toNat x18) 1)) > x20)) == (decide ((CV.int (x15 (Int.toNat (Int.tmod (w64 (x18 + 1)) (Int.ofNat x14))) 1)) > x20))) then (L65v1 fuel x14 x15 x17 x19 x20 m x16 (w64 (x18 + 1)) k0 k1) else (ob (F79 fuel (CV.int (x15 (Int.toNat x18) 0)) (CV.int (x15 (Int.toNat x18) 1)) (CV.int (x15 (Int.toNat (Int.tmod (w64 (x18 + 1)) (Int.ofNat x14))) 0)) (CV.int (x15 (Int.toNat (Int.tmod (w64 (x18 + 1)) (Int.ofNat x14))) 1)) x19 x20) fun x22 => (bif ((decide (x22 > 0)) == (decide ((CV.int (x15 (Int.toNat (Int.tmod (w64 (x18 + 1)) (Int.ofNat x14))) 1)) > (CV.int (x15 (Int.toNat x18) 1))))) then (L65v1 fuel x14 x15 x17 x19 x20 m (!x16) (w64 (x18 + 1)) k0 k1) else (L65v1 fuel x14 x15 x17 x19 x20 m x16 (w64 (x18 + 1)) k0 k1)))))) else none)) else none) else (k1 x16))

theorem nl65v1 {ρ σ : Type} (fuel : Nat) (x14 : Nat) (x15 : Nat → Nat → CV) (x17 : Int) (x19 : Int) (x20 : Int) (g : ρ → Option σ) : ∀ (m : Nat) (x16 : Bool) (x18 : Int) (k0 : Int → Int → Int → Int → Option ρ) (k1 : Bool → Option ρ), ob (L65v1 fuel x14 x15 x17 x19 x20 m x16 x18 k0 k1) g = L65v1 fuel x14 x15 x17 x19 x20 m x16 x18 (fun x23 x24 x25 x26 => ob (k0 x23 x24 x25 x26) g) (fun x27 => ob (k1 x27) g)
  | 0, _, _, _, _ => rfl
  | m + 1, x16, x18, k0, k1 => by
    simp only [L65v1, ob_bif, ob_ob, ob_none, nl65v1 fuel x14 x15 x17 x19 x20 g m]

theorem r65v1 (fuel : Nat) (m : Nat) {ρ : Type} (k : Ex → St → Option ρ) (x14 : Nat) (x15 : Nat → Nat → CV) (x17 : Int) (x19 : Int) (x20 : Int) (x16 : Bool) (x18 : Int) :
    loopH (B65v1 (C20 fuel) fuel) N65v1 (m + 1) (s65v0 x14 x15 x16 x17 x18 x19 x20) k =
    (bif (decide (x18 < x17)) then (bif (inb x18 x14) then (bif ((Int.ofNat x14) == 0) then none else (bif (inb (Int.tmod (w64 (x18 + 1)) (Int.ofNat x14)) x14) then (ob (F81 fuel (CV.int (x15 (Int.toNat x18) 0)) (CV.int (x15 (Int.toNat x18) 1)) (CV.int (x15 (Int.toNat (Int.tmod (w64 (x18 + 1)) (Int.ofNat x14))) 0)) (CV.int (x15 (Int.toNat (Int.tmod (w64 (x18 + 1)) (Int.ofNat x14))) 1)) x19 x20) fun x21 => (bif x21 then (k .ret (s65v1 x19 x20 (CV.int (x15 (Int.toNat x18) 0)) (CV.int (x15 (Int.toNat x18) 1)) (CV.int (x15 (Int.toNat (Int.tmod (w64 (x18 + 1)) (Int.ofNat x14))) 0)) (CV.int (x15 (Int.toNat (Int.tmod (w64 (x18 + 1)) (Int.ofNat x14))) 1)))) else (bif ((decide ((CV.int (x15 (Int.toNat x18) 1)) > x20)) == (decide ((CV.int (x15 (Int.toNat (Int.tmod (w64 (x18 + 1)) (Int.ofNat x14))) 1)) > x20))) then (loopH (B65v1 (C20 fuel) fuel) N65v1 m (s65v0 x14 x15 x16 x17 (w64 (x18 + 1)) x19 x20) k) else (ob (F79 fuel (CV.int (x15 (Int.toNat x18) 0)) (CV.int (x15 (Int.toNat x18) 1)) (CV.int (x15 (Int.toNat (Int.tmod (w64 (x18 + 1)) (Int.ofNat x14))) 0)) (CV.int (x15 (Int.toNat (Int.tmod (w64 (x18 + 1)) (Int.ofNat x14))) 1)) x19 x20) fun x22 => (bif ((decide (x22 > 0)) == (decide ((CV.int (x15 (Int.toNat (Int.tmod (w64 (x18 + 1)) (Int.ofNat x14))) 1)) > (CV.int (x15 (Int.toNat x18) 1))))) then (loopH (B65v1 (C20 fuel) fuel) N65v1 m (s65v0 x14 x15 (!x16) x17 (w64 (x18 + 1)) x19 x20) k) else (loopH (B65v1 (C20 fuel) fuel) N65v1 m (s65v0 x14 x15 x16 x17 (w64 (x18 + 1)) x19 x20) k)))))) else none)) else none) else (k (.exit 0) (s65v2 x16 x19 x20))) := by kernel_rfl

theorem q65v1 (fuel : Nat) (x14 : Nat) (x15 : Nat → Nat → CV) (x17 : Int) (x19 : Int) (x20 : Int) {ρ : Type} (k : Ex → St → Option ρ) : ∀ (m : Nat) (x16 : Bool) (x18 : Int),
    loopH (B65v1 (C20 fuel) fuel) N65v1 m (s65v0 x14 x15 x16 x17 x18 x19 x20) k = L65v1 fuel x14 x15 x17 x19 x20 m x16 x18 (fun x23 x24 x25 x26 => k .ret (s65v1 x19 x20 x23 x24 x25 x26)) (fun x27 => k (.exit 0) (s65v2 x27 x19 x20))
  | 0, _, _ => rfl
  | m + 1, x16, x18 => by
    rw [r65v1]
    simp only [L65v1, q65v1 fuel x14 x15 x17 x19 x20 k m]

def D65 {ρ : Type} (fuel : Nat) (x1 : Nat) (x2 : Nat → Nat → CV) (x3 : Int) (x4 : Int) (k : Int → Option ρ) : Option ρ :=
  (ob (F61 fuel x3 x4) fun x5 => (bif (x5 == false) then (ob (F33 fuel x1 x2) fun x6 => (bif (x6 != 0) then (k (-1)) else (L65v1 fuel x1 x2 (Int.ofNat x1) x3 x4 fuel false 0
    (fun x28 x29 x30 x31 => (k 0))
    (fun x32 => (bif x32 then (k 1) else (k (-1))))))) else (k (-1))))

def F65 (fuel : Nat) (x1 : Nat) (x2 : Nat → Nat → CV) (x3 : Int) (x4 : Int) : Option (Int) := D65 fuel x1 x2 x3 x4 some

theorem n65 {ρ σ : Type} (fuel : Nat) (x1 : Nat) (x2 : Nat → Nat → CV) (x3 : Int) (x4 : Int) (k : (Int) → Option ρ) (g : ρ → Option σ) : ob (D65 fuel x1 x2 x3 x4 k) g = D65 fuel x1 x2 x3 x4 fun t => ob (k t) g := by
  simp only [D65, ob_bif, ob_ob, ob_none, nl65v1]

theorem f65 {ρ : Type} (fuel : Nat) (x1 : Nat) (x2 : Nat → Nat → CV) (x3 : Int) (x4 : Int) (k : (Int) → Option ρ) : D65 fuel x1 x2 x3 x4 k = ob (F65 fuel x1 x2 x3 x4) k := by
  unfold F65
  rw [n65]
  simp only [ob_some]

def s65v3 (x1 : Nat) (x2 : Nat → Nat → CV) (x3 : Int) (x4 : Int) : St := ⟨[.x (.c (.ro false (.pr (.int .i64) (.pr (.int .i64) .nil)) x1 x2)), .agg [(.c (.i .i64 x3)), (.c (.i .i64 x4))], .undef, .x (.ptr 0 0), .u, .x (.c (.b false)), .undef, .undef, .undef, .undef, .u, .u, .u, .u, .u, .u, .u, .x (.c (.ro false (.pr (.int .i64) (.pr (.int .i64) .nil)) x1 x2)), .x (.c (.i .i64 (Int.ofNat x1))), .x (.c (.i .i64 0)), .undef, .undef, .undef, .undef, .undef, .undef, .undef, .undef, .undef, .undef, .undef, .undef, .undef, .undef, .undef, .undef, .undef, .undef, .undef, .undef, .undef, .undef, .undef, .undef, .undef, .undef, .undef, .undef, .undef, .undef, .undef, .undef, .undef, .undef, .undef, .undef, .undef, .undef, .undef, .undef, .undef, .undef, .undef],
    [.box [(.c (.i .i64 x3)), (.c (.i .i64 x4))]]⟩

theorem walk65 (fuel : Nat) (x1 : Nat) (x2 : Nat → Nat → CV) (x3 : Int) (x4 : Int) :
    evalF (C20 fuel) fuel A65 [.v (.ro false (.pr (.int .i64) (.pr (.int .i64) .nil)) x1 x2), .agg [(.i .i64 x3), (.i .i64 x4)]] =
    (ob (F61 fuel x3 x4) fun x5 => (bif (x5 == false) then (ob (F33 fuel x1 x2) fun x6 => (bif (x6 != 0) then (some [.v (.i .i64 (-1))]) else (loopN (B65v1 (C20 fuel) fuel) N65v1 fuel (s65v3 x1 x2 x3 x4) (kBlk 0 (kSeq (C20 fuel) fuel [4, 6, 7, 8, 9, 17, 18, 19, 20, 21, 22, 23, 24, 25, 26, 27, 28, 29, 30, 31, 32, 33, 34, 35, 36, 37, 38, 39, 40, 41, 42, 43, 44, 45, 46, 47, 48, 49, 50, 51, 52, 53, 54, 55, 56, 57, 58, 59, 60, 61] A65v7 (finish A65)))))) else (some [.v (.i .i64 (-1))]))) := by kernel_rfl

theorem t65v1 (fuel : Nat) {ρ : Type} (k : Ex → St → Option ρ) (x1 : Nat) (x2 : Nat → Nat → CV) (x3 : Int) (x4 : Int) :
    loopN (B65v1 (C20 fuel) fuel) N65v1 fuel (s65v3 x1 x2 x3 x4) k =
    L65v1 fuel x1 x2 (Int.ofNat x1) x3 x4 fuel false 0 (fun x23 x24 x25 x26 => k .ret (s65v1 x3 x4 x23 x24 x25 x26)) (fun x27 => k (.exit 0) (s65v2 x27 x3 x4)) :=
  (loopN_at (st' := (s65v0 x1 x2 false (Int.ofNat x1) 0 x3 x4)) (by kernel_rfl)).trans (q65v1 fuel x1 x2 (Int.ofNat x1) x3 x4 k fuel false 0)

theorem g65v2 (fuel : Nat) (x3 : Int) (x4 : Int) (x28 : Int) (x29 : Int) (x30 : Int) (x31 : Int) :
    (kBlk 0 (kSeq (C20 fuel) fuel [4, 6, 7, 8, 9, 17, 18, 19, 20, 21, 22, 23, 24, 25, 26, 27, 28, 29, 30, 31, 32, 33, 34, 35, 36, 37, 38, 39, 40, 41, 42, 43, 44, 45, 46, 47, 48, 49, 50, 51, 52, 53, 54, 55, 56, 57, 58, 59, 60, 61] A65v7 (finish A65))) .ret (s65v1 x3 x4 x28 x29 x30 x31) =
    (some [.v (.i .i64 0)]) := by kernel_rfl

theorem g65v3 (fuel : Nat) (x32 : Bool) (x3 : Int) (x4 : Int) :
    (kBlk 0 (kSeq (C20 fuel) fuel [4, 6, 7, 8, 9, 17, 18, 19, 20, 21, 22, 23, 24, 25, 26, 27, 28, 29, 30, 31, 32, 33, 34, 35, 36, 37, 38, 39, 40, 41, 42, 43, 44, 45, 46, 47, 48, 49, 50, 51, 52, 53, 54, 55, 56, 57, 58, 59, 60, 61] A65v7 (finish A65))) (.exit 0) (s65v2 x32 x3 x4) =
    (bif x32 then (some [.v (.i .i64 1)]) else (some [.v (.i .i64 (-1))])) := by kernel_rfl

theorem e65 (fuel : Nat) (x1 : Nat) (x2 : Nat → Nat → CV) (x3 : Int) (x4 : Int) : evalF (C20 fuel) fuel A65 [.v (.ro false (.pr (.int .i64) (.pr (.int .i64) .nil)) x1 x2), .agg [(.i .i64 x3), (.i .i64 x4)]] = ob (F65 fuel x1 x2 x3 x4) fun t => some [.v (.i .i64 t)] := by
  rw [walk65, ← f65]
  simp only [D65, t65v1, g65v2, g65v3]

def O65 (fuel : Nat) : Ora where
  o := fun args {ρ} K =>
    wc args fun a1 l2 =>
    wv a1 fun c3 =>
    wL (.pr (.int .i64) (.pr (.int .i64) .nil)) c3 fun y4 y5 =>
    wc l2 fun a7 l8 =>
    wagg a7 fun l9 =>
    wc l9 fun c10 l11 =>
    wI .i64 c10 fun y12 =>
    wc l11 fun c14 l15 =>
    wI .i64 c14 fun y16 =>
    wn l15 <|
    wn l8 <|
    (ob (F65 fuel y4 y5 y12 y16) fun t => K [.v (.i .i64 t)])
  nat := fun args {ρ} K => by
    simp only [bind_wc, bind_wn, bind_wv, bind_wagg, bind_wI, bind_wB, bind_wS, bind_wL, bind_wP, bind_wFn, bind_ob, Option.bind_some]

theorem d65 {P : Program} (fuel : Nat) (hmix : P.follows .mixedOrders = true) (hC : Sound P (C20 fuel)) (hF : FFits P 65 A65) (args res : List A) (h : (O65 fuel).o args some = some res) : Den P 65 args res := by
  obtain ⟨a1, l2, rfl, z0⟩ := inv_wc h
  obtain ⟨c3, rfl, z1⟩ := inv_wv z0
  obtain ⟨y4, y5, h6, z2⟩ := inv_wL z1
  obtain ⟨a7, l8, rfl, z3⟩ := inv_wc z2
  obtain ⟨l9, rfl, z4⟩ := inv_wagg z3
  obtain ⟨c10, l11, rfl, z5⟩ := inv_wc z4
  obtain ⟨y12, h13, z6⟩ := inv_wI z5
  obtain ⟨c14, l15, rfl, z7⟩ := inv_wc z6
  obtain ⟨y16, h17, z8⟩ := inv_wI z7
  obtain ⟨hn, z9⟩ := inv_wn z8
  cases hn
  obtain ⟨hn, z10⟩ := inv_wn z9
  cases hn
  exact Den.weaken (.cons (WkA.v h6) (.cons (WkA.agg (.cons (Wk.i h13) (.cons (Wk.i h17) .nil))) .nil)) (evalF_sound hmix hC hF ((e65 fuel y4 y5 y12 y16).trans z10))

def C21 (fuel : Nat) : Oracle := (C20 fuel).add 65 (fun _ => true) (O65 fuel)

/-- shipyard/region.within.1 -/
def A64 : AF := ⟨8, [.tmp 3],
  (.seq (.region 0 [
  ⟨(some 2), .box 0 34 (.tmp 0), none⟩,
  ⟨(some 3), .assign (.const (.bool false)), none⟩] 1 none) []
  (.seq (.region 1 [
  ⟨(some 4), .load 22 none (.tmp 1), none⟩,
  ⟨(some 5), .load 34 (some 2) (.tmp 2), none⟩,
  ⟨(some 6), .call 65 [(.tmp 4), (.tmp 5)] [22, 34] .snap, none⟩,
  ⟨(some 7), .binOp .neq 3 (.tmp 6) (.const (.int .i64 1)) 3, none⟩,
  ⟨(some 3), .assign (.tmp 7), none⟩] 0 none) []
  (.ret [0, 1, 2, 4, 5, 6, 7])))⟩

def D64 {ρ : Type} (fuel : Nat) (x1 : Int) (x2 : Int) (x3 : Nat → CV) (k : Bool → Option ρ) : Option ρ :=
  (ob (F65 fuel (CV.len (x3 0)) (CV.el (x3 0)) x1 x2) fun x4 => (k (x4 != 1)))

def F64 (fuel : Nat) (x1 : Int) (x2 : Int) (x3 : Nat → CV) : Option (Bool) := D64 fuel x1 x2 x3 some

theorem n64 {ρ σ : Type} (fuel : Nat) (x1 : Int) (x2 : Int) (x3 : Nat → CV) (k : (Bool) → Option ρ) (g : ρ → Option σ) : ob (D64 fuel x1 x2 x3 k) g = D64 fuel x1 x2 x3 fun t => ob (k t) g := by
  simp only [D64, ob_bif, ob_ob, ob_none]

theorem f64 {ρ : Type} (fuel : Nat) (x1 : Int) (x2 : Int) (x3 : Nat → CV) (k : (Bool) → Option ρ) : D64 fuel x1 x2 x3 k = ob (F64 fuel x1 x2 x3) k := by
  unfold F64
  rw [n64]
  simp only [ob_some]

theorem walk64 (fuel : Nat) (x1 : Int) (x2 : Int) (x3 : Nat → CV) :
    evalF (C21 fuel) fuel A64 [.agg [(.i .i64 x1), (.i .i64 x2)], .v (.rp (.pr (.sl (.pr (.int .i64) (.pr (.int .i64) .nil))) .nil) x3)] =
    (ob (F65 fuel (CV.len (x3 0)) (CV.el (x3 0)) x1 x2) fun x4 => (some [.v (.b (x4 != 1))])) := by kernel_rfl

theorem e64 (fuel : Nat) (x1 : Int) (x2 : Int) (x3 : Nat → CV) : evalF (C21 fuel) fuel A64 [.agg [(.i .i64 x1), (.i .i64 x2)], .v (.rp (.pr (.sl (.pr (.int .i64) (.pr (.int .i64) .nil))) .nil) x3)] = ob (F64 fuel x1 x2 x3) fun t => some [.v (.b t)] := by
  rw [walk64, ← f64]
  simp only [D64]

def O64 (fuel : Nat) : Ora where
  o := fun args {ρ} K =>
    wc args fun a1 l2 =>
    wagg a1 fun l3 =>
    wc l3 fun c4 l5 =>
    wI .i64 c4 fun y6 =>
    wc l5 fun c8 l9 =>
    wI .i64 c8 fun y10 =>
    wn l9 <|
    wc l2 fun a12 l13 =>
    wv a12 fun c14 =>
    wP (.pr (.sl (.pr (.int .i64) (.pr (.int .i64) .nil))) .nil) c14 fun y15 =>
    wn l13 <|
    (ob (F64 fuel y6 y10 y15) fun t => K [.v (.b t)])
  nat := fun args {ρ} K => by
    simp only [bind_wc, bind_wn, bind_wv, bind_wagg, bind_wI, bind_wB, bind_wS, bind_wL, bind_wP, bind_wFn, bind_ob, Option.bind_some]

theorem d64 {P : Program} (fuel : Nat) (hmix : P.follows .mixedOrders = true) (hC : Sound P (C21 fuel)) (hF : FFits P 64 A64) (args res : List A) (h : (O64 fuel).o args some = some res) : Den P 64 args res := by
  obtain ⟨a1, l2, rfl, z0⟩ := inv_wc h
  obtain ⟨l3, rfl, z1⟩ := inv_wagg z0
  obtain ⟨c4, l5, rfl, z2⟩ := inv_wc z1
  obtain ⟨y6, h7, z3⟩ := inv_wI z2
  obtain ⟨c8, l9, rfl, z4⟩ := inv_wc z3
  obtain ⟨y10, h11, z5⟩ := inv_wI z4
  obtain ⟨hn, z6⟩ := inv_wn z5
  cases hn
  obtain ⟨a12, l13, rfl, z7⟩ := inv_wc z6
  obtain ⟨c14, rfl, z8⟩ := inv_wv z7
  obtain ⟨y15, h16, z9⟩ := inv_wP z8
  obtain ⟨hn, z10⟩ := inv_wn z9
  cases hn
  exact Den.weaken (.cons (WkA.agg (.cons (Wk.i h7) (.cons (Wk.i h11) .nil))) (.cons (WkA.v (wk_rp h16)) .nil)) (evalF_sound hmix hC hF ((e64 fuel y6 y10 y15).trans z10))

def C22 (fuel : Nat) : Oracle := (C21 fuel).add 64 (fun _ => true) (O64 fuel)

def B73bv1 (C : Oracle) (fuel : Nat) {ρ : Type} : St → (Ex → St → Option ρ) → Option ρ := fun st k => evalC C fuel A73v3 st k
def N73bv1 : St → Option St := fun s => s.norm [2, 3, 4, 5, 6, 9, 10, 11, 12, 13, 14, 15, 16, 17, 18] 0

def s73bv0 (x9 : Nat) (x10 : Nat → Nat → CV) (x11 : Nat → CV) (x12 : Int) (x13 : Int) : St := ⟨[.x (.c (.ro false (.pr (.int .i64) (.pr (.int .i64) .nil)) x9 x10)), .x (.c (.fn 64 1 (listF [(.rp (.pr (.sl (.pr (.int .i64) (.pr (.int .i64) .nil))) .nil) x11)]))), .u, .u, .u, .u, .u, .x (.c (.i .i64 x12)), .x (.c (.i .i64 x13)), .u, .u, .u, .u, .u, .u, .u, .u, .u, .u],
    []⟩

def s73bv1 (x15 : Int) : St := ⟨[.u, .u, .u, .u, .x (.c (.i .i64 x15)), .u, .u, .u, .u, .u, .u, .u, .u, .u, .u, .u, .u, .u, .u],
    []⟩

def s73bv2 : St := ⟨[.u, .u, .u, .u, .u, .u, .u, .u, .u, .u, .u, .u, .u, .u, .u, .u, .u, .u, .u],
    []⟩

def L73bv1 {ρ : Type} (fuel : Nat) (x9 : Nat) (x10 : Nat → Nat → CV) (x11 : Nat → CV) (x12 : Int) : Nat → Int → (Int → Option ρ) → (Option ρ) → Option ρ
  | 0, _, _, _ => none
  | m + 1, x13, k0, k1 =>
    (bif (decide (x13 < x12)) then (bif (inb x13 x9) then (ob (F64 fuel (CV.int (x10 (Int.toNat x13) 0)) (CV.int (x10 (Int.toNat x13) 1)) x11) fun x14 => (bif x14 then (k0 x13) else (L73bv1 fuel x9 x10 x11 x12 m (w64 (x13 + 1)) k0 k1))) else none) else k1)

theorem nl73bv1 {ρ σ : Type} (fuel : Nat) (x9 : Nat) (x10 : Nat → Nat → CV) (x11 : Nat → CV) (x12 : Int) (g : ρ → Option σ) : ∀ (m : Nat) (x13 : Int) (k0 : Int → Option ρ) (k1 : Option ρ), ob (L73bv1 fuel x9 x10 x11 x12 m x13 k0 k1) g = L73bv1 fuel x9 x10 x11 x12 m x13 (fun x15 => ob (k0 x15) g) (ob k1 g)
  | 0, _, _, _ => rfl
  | m + 1, x13, k0, k1 => by
    simp only [L73bv1, ob_bif, ob_ob, ob_none, nl73bv1 fuel x9 x10 x11 x12 g m]

theorem r73bv1 (fuel : Nat) (m : Nat) {ρ : Type} (k : Ex → St → Option ρ) (x9 : Nat) (x10 : Nat → Nat → CV) (x11 : Nat → CV) (x12 : Int) (x13 : Int) :
    loopH (B73bv1 (C22 fuel) fuel) N73bv1 (m + 1) (s73bv0 x9 x10 x11 x12 x13) k =
    (bif (decide (x13 < x12)) then (bif (inb x13 x9) then (ob (F64 fuel (CV.int (x10 (Int.toNat x13) 0)) (CV.int (x10 (Int.toNat x13) 1)) x11) fun x14 => (bif x14 then (k .ret (s73bv1 x13)) else (loopH (B73bv1 (C22 fuel) fuel) N73bv1 m (s73bv0 x9 x10 x11 x12 (w64 (x13 + 1))) k))) else none) else (k (.exit 0) s73bv2)) := by kernel_rfl

theorem q73bv1 (fuel : Nat) (x9 : Nat) (x10 : Nat → Nat → CV) (x11 : Nat → CV) (x12 : Int) {ρ : Type} (k : Ex → St → Option ρ) : ∀ (m : Nat) (x13 : Int),
    loopH (B73bv1 (C22 fuel) fuel) N73bv1 m (s73bv0 x9 x10 x11 x12 x13) k = L73bv1 fuel x9 x10 x11 x12 m x13 (fun x15 => k .ret (s73bv1 x15)) (k (.exit 0) s73bv2)
  | 0, _ => rfl
  | m + 1, x13 => by
    rw [r73bv1]
    simp only [L73bv1, q73bv1 fuel x9 x10 x11 x12 k m]

def D73b {ρ : Type} (fuel : Nat) (x1 : Nat) (x2 : Nat → Nat → CV) (x3 : Nat → CV) (k : Int → Option ρ) : Option ρ :=
  (L73bv1 fuel x1 x2 x3 (Int.ofNat x1) fuel 0
    (fun x16 => (k x16))
    (k (-1)))

def F73b (fuel : Nat) (x1 : Nat) (x2 : Nat → Nat → CV) (x3 : Nat → CV) : Option (Int) := D73b fuel x1 x2 x3 some

theorem n73b {ρ σ : Type} (fuel : Nat) (x1 : Nat) (x2 : Nat → Nat → CV) (x3 : Nat → CV) (k : (Int) → Option ρ) (g : ρ → Option σ) : ob (D73b fuel x1 x2 x3 k) g = D73b fuel x1 x2 x3 fun t => ob (k t) g := by
  simp only [D73b, ob_bif, ob_ob, ob_none, nl73bv1]

theorem f73b {ρ : Type} (fuel : Nat) (x1 : Nat) (x2 : Nat → Nat → CV) (x3 : Nat → CV) (k : (Int) → Option ρ) : D73b fuel x1 x2 x3 k = ob (F73b fuel x1 x2 x3) k := by
  unfold F73b
  rw [n73b]
  simp only [ob_some]

def s73bv3 (x1 : Nat) (x2 : Nat → Nat → CV) (x3 : Nat → CV) : St := ⟨[.x (.c (.ro false (.pr (.int .i64) (.pr (.int .i64) .nil)) x1 x2)), .x (.c (.fn 64 1 (listF [(.rp (.pr (.sl (.pr (.int .i64) (.pr (.int .i64) .nil))) .nil) x3)]))), .undef, .undef, .x (.c (.i .i64 0)), .undef, .x (.c (.ro false (.pr (.int .i64) (.pr (.int .i64) .nil)) x1 x2)), .x (.c (.i .i64 (Int.ofNat x1))), .x (.c (.i .i64 0)), .undef, .undef, .undef, .undef, .undef, .undef, .undef, .undef, .undef, .undef],
    []⟩

theorem walk73b (fuel : Nat) (x1 : Nat) (x2 : Nat → Nat → CV) (x3 : Nat → CV) :
    evalF (C22 fuel) fuel A73 [.v (.ro false (.pr (.int .i64) (.pr (.int .i64) .nil)) x1 x2), .v (.fn 64 1 (listF [(.rp (.pr (.sl (.pr (.int .i64) (.pr (.int .i64) .nil))) .nil) x3)]))] =
    (loopN (B73bv1 (C22 fuel) fuel) N73bv1 fuel (s73bv3 x1 x2 x3) (kBlk 0 (kSeq (C22 fuel) fuel [4, 5, 6, 7, 8, 9, 10, 11, 12, 13, 14, 15, 16, 17, 18] A73v4 (finish A73)))) := by kernel_rfl

theorem t73bv1 (fuel : Nat) {ρ : Type} (k : Ex → St → Option ρ) (x1 : Nat) (x2 : Nat → Nat → CV) (x3 : Nat → CV) :
    loopN (B73bv1 (C22 fuel) fuel) N73bv1 fuel (s73bv3 x1 x2 x3) k =
    L73bv1 fuel x1 x2 x3 (Int.ofNat x1) fuel 0 (fun x15 => k .ret (s73bv1 x15)) (k (.exit 0) s73bv2) :=
  (loopN_at (st' := (s73bv0 x1 x2 x3 (Int.ofNat x1) 0)) (by kernel_rfl)).trans (q73bv1 fuel x1 x2 x3 (Int.ofNat x1) k fuel 0)

theorem g73bv2 (fuel : Nat) (x16 : Int) :
    (kBlk 0 (kSeq (C22 fuel) fuel [4, 5, 6, 7, 8, 9, 10, 11, 12, 13, 14, 15, 16, 17, 18] A73v4 (finish A73))) .ret (s73bv1 x16) =
    (some [.v (.i .i64 x16)]) := by kernel_rfl

theorem g73bv3 (fuel : Nat) :
    (kBlk 0 (kSeq (C22 fuel) fuel [4, 5, 6, 7, 8, 9, 10, 11, 12, 13, 14, 15, 16, 17, 18] A73v4 (finish A73))) (.exit 0) s73bv2 =
    (some [.v (.i .i64 (-1))]) := by kernel_rfl

theorem e73b (fuel : Nat) (x1 : Nat) (x2 : Nat → Nat → CV) (x3 : Nat → CV) : evalF (C22 fuel) fuel A73 [.v (.ro false (.pr (.int .i64) (.pr (.int .i64) .nil)) x1 x2), .v (.fn 64 1 (listF [(.rp (.pr (.sl (.pr (.int .i64) (.pr (.int .i64) .nil))) .nil) x3)]))] = ob (F73b fuel x1 x2 x3) fun t => some [.v (.i .i64 t)] := by
  rw [walk73b, ← f73b]
  simp only [D73b, t73bv1, g73bv2, g73bv3]

def O73b (fuel : Nat) : Ora where
  o := fun args {ρ} K =>
    wc args fun a1 l2 =>
    wv a1 fun c3 =>
    wL (.pr (.int .i64) (.pr (.int .i64) .nil)) c3 fun y4 y5 =>
    wc l2 fun a7 l8 =>
    wv a7 fun c9 =>
    wFn 64 1 c9 fun y10 =>
    wP (.pr (.sl (.pr (.int .i64) (.pr (.int .i64) .nil))) .nil) (y10 0) fun y12 =>
    wn l8 <|
    (ob (F73b fuel y4 y5 y12) fun t => K [.v (.i .i64 t)])
  nat := fun args {ρ} K => by
    simp only [bind_wc, bind_wn, bind_wv, bind_wagg, bind_wI, bind_wB, bind_wS, bind_wL, bind_wP, bind_wFn, bind_ob, Option.bind_some]

theorem d73b {P : Program} (fuel : Nat) (hmix : P.follows .mixedOrders = true) (hC : Sound P (C22 fuel)) (hF : FFits P 73 A73) (args res : List A) (h : (O73b fuel).o args some = some res) : Den P 73 args res := by
  obtain ⟨a1, l2, rfl, z0⟩ := inv_wc h
  obtain ⟨c3, rfl, z1⟩ := inv_wv z0
  obtain ⟨y4, y5, h6, z2⟩ := inv_wL z1
  obtain ⟨a7, l8, rfl, z3⟩ := inv_wc z2
  obtain ⟨c9, rfl, z4⟩ := inv_wv z3
  obtain ⟨y10, h11, z5⟩ := inv_wFn z4
  obtain ⟨y12, h13, z6⟩ := inv_wP z5
  obtain ⟨hn, z7⟩ := inv_wn z6
  cases hn
  exact Den.weaken (.cons (WkA.v h6) (.cons (WkA.v (wk_fn1 h11 (wk_rp h13))) .nil)) (evalF_sound hmix hC hF ((e73b fuel y4 y5 y12).trans z7))

def C23 (fuel : Nat) : Oracle := (C22 fuel).add 73 (fun l => isFn 64 l 1) (O73b fuel)

end Go.Eng.R13
