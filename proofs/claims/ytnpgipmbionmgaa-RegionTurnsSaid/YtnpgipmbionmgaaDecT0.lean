/-
  The functions of the program, run on symbols; printed by decomp.py.
-/
import Derived.Test.YtnpgipmbionmgaaEngS
set_option linter.all false
set_option maxRecDepth 1000000
set_option maxHeartbeats 4000000
namespace Go.Eng.R13
open Go Go.RowKit Go.Eng
def C0 (fuel : Nat) : Oracle := ⟨fun _ _ {_} _ => none, fun _ _ {_} _ => rfl, fun f r n g rest => bif ((Nat.beq f 52 && r.beq (.pr (.int .i64) (.pr (.int .i64) .nil)))) && rest.isEmpty then some (revF n g) else none⟩
def CE (fuel : Nat) : Oracle := ⟨fun _ _ {_} _ => none, fun _ _ {_} _ => rfl, fun _ _ _ _ _ => none⟩
theorem soundE {P : Program} (fuel : Nat) : Sound P (CE fuel) := ⟨fun _ _ _ h => (by cases h), fun _ _ _ _ _ _ h => (by cases h)⟩
def A52v1 : AC := (.seq (.block 1
  (.region 3 [mv 14 0, mv 15 2, mv 16 0, mv 17 3, mv 18 0, mv 19 3, o1 20 (.indexAddr 22 34 2 (tm 18) (tm 19)), o1 21 (.load 34 (some 2) (tm 20)), mv 22 0, mv 23 2, o1 24 (.indexAddr 22 34 2 (tm 22) (tm 23)), o1 25 (.load 34 (some 2) (tm 24)), o1 26 (.indexAddr 22 34 2 (tm 14) (tm 15)), o0 (.store 34 2 (tm 26) (tm 21)), o1 27 (.indexAddr 22 34 2 (tm 16) (tm 17)), o0 (.store 34 2 (tm 27) (tm 25))] 0 (some [[], [], [], [], [], [], [4, 5], [4, 5, 6], [], [], [8, 9], [8, 9, 10], (0 :: 1 :: (rl 4 8 [])), (0 :: 1 :: (rl 4 9 [])), (rl 0 14 []), (rl 0 15 [])]))) []
  (.region 2 [mv 10 2, o1 11 (.binOp .add 3 (tm 10) (ic 1) 3), mv 12 3, o1 13 (.binOp .sub 3 (tm 12) (ic 1) 3), o1 2 (.assign (tm 11)), o1 3 (.assign (tm 13))] 0 none))
def A52v2 : AC := (.seq (.seq (.region 1 [mv 7 2, mv 8 3, o1 9 (.binOp .lss 3 (tm 7) (tm 8) 3)] 0 none) []
  (.cond (tm 9)
  .skip
  (.exit 0 (rl 0 28 [])))) [7, 8, 9]
  A52v1)
def A52 : AF := ⟨28, [],
  (.seq (.region 0 [mv 4 0, o1 5 (.len 22 false (tm 4)), o1 6 (.binOp .sub 3 (tm 5) (ic 1) 3), o1 2 (.assign (ic 0)), o1 3 (.assign (tm 6))] 0 none) []
  (.block 0
  (.loop [] (1 :: (rl 4 24 []))
    A52v2)))⟩
def B52v1 (C : Oracle) (fuel : Nat) {ρ : Type} : St → (Ex → St → Option ρ) → Option ρ := fun st k => evalC C fuel A52v2 st k
def N52v1 : St → Option St := fun s => s.norm (1 :: (rl 4 24 [])) 1
def s52v0 (x6 : Nat) (x7 : Int) (x8 : Int) (x9 : Nat → Nat → CV) : St := ⟨(.x (.own 0 0 x6) :: .u :: .x (.c (.i .i64 x7)) :: .x (.c (.i .i64 x8)) :: (us 24 [])), [.arr (.pr (.int .i64) (.pr (.int .i64) .bool)) x6 x9]⟩
def s52v1 (x6 : Nat) (x10 : Nat → Nat → CV) : St := ⟨(us 28 []), [.arr (.pr (.int .i64) (.pr (.int .i64) .bool)) x6 x10]⟩
def L52v1 {ρ : Type} (fuel : Nat) (x6 : Nat) : Nat → Int → Int → (Nat → Nat → CV) → ((Nat → Nat → CV) → Option ρ) → Option ρ
  | 0, _, _, _, _ => none
  | m + 1, x7, x8, x9, k0 =>
    (bif (decide (x7 < x8)) then (bif (inb x8 x6) then (bif (inb x7 x6) then (bif (inb x7 x6) then (bif (inb x8 x6) then (L52v1 fuel x6 m (w64 (x7 + 1)) (w64 (x8 - 1)) (setF (setF x9 (0 + (Int.toNat x7)) 0 2 (listF [(.i .i64 (CV.int (x9 (0 + (Int.toNat x8)) 0))), (.i .i64 (CV.int (x9 (0 + (Int.toNat x8)) 1)))])) (0 + (Int.toNat x8)) 0 2 (listF [(.i .i64 (CV.int (x9 (0 + (Int.toNat x7)) 0))), (.i .i64 (CV.int (x9 (0 + (Int.toNat x7)) 1)))])) k0) else none) else none) else none) else none) else (k0 x9))
theorem nl52v1 {ρ σ : Type} (fuel : Nat) (x6 : Nat) (g : ρ → Option σ) : ∀ (m : Nat) (x7 : Int) (x8 : Int) (x9 : Nat → Nat → CV) (k0 : (Nat → Nat → CV) → Option ρ), ob (L52v1 fuel x6 m x7 x8 x9 k0) g = L52v1 fuel x6 m x7 x8 x9 (fun x10 => ob (k0 x10) g)
  | 0, _, _, _, _ => rfl
  | m + 1, x7, x8, x9, k0 => by
    simp only [L52v1, ob_bif, ob_ob, ob_none, nl52v1 fuel x6 g m]
theorem r52v1 (fuel : Nat) (m : Nat) {ρ : Type} (k : Ex → St → Option ρ) (x6 : Nat) (x7 : Int) (x8 : Int) (x9 : Nat → Nat → CV) :
    loopH (B52v1 (CE fuel) fuel) N52v1 (m + 1) (s52v0 x6 x7 x8 x9) k =
    (bif (decide (x7 < x8)) then (bif (inb x8 x6) then (bif (inb x7 x6) then (bif (inb x7 x6) then (bif (inb x8 x6) then (loopH (B52v1 (CE fuel) fuel) N52v1 m (s52v0 x6 (w64 (x7 + 1)) (w64 (x8 - 1)) (setF (setF x9 (0 + (Int.toNat x7)) 0 2 (listF [(.i .i64 (CV.int (x9 (0 + (Int.toNat x8)) 0))), (.i .i64 (CV.int (x9 (0 + (Int.toNat x8)) 1)))])) (0 + (Int.toNat x8)) 0 2 (listF [(.i .i64 (CV.int (x9 (0 + (Int.toNat x7)) 0))), (.i .i64 (CV.int (x9 (0 + (Int.toNat x7)) 1)))]))) k) else none) else none) else none) else none) else (k (.exit 0) (s52v1 x6 x9))) := by kernel_rfl
theorem q52v1 (fuel : Nat) (x6 : Nat) {ρ : Type} (k : Ex → St → Option ρ) : ∀ (m : Nat) (x7 : Int) (x8 : Int) (x9 : Nat → Nat → CV),
    loopH (B52v1 (CE fuel) fuel) N52v1 m (s52v0 x6 x7 x8 x9) k = L52v1 fuel x6 m x7 x8 x9 (fun x10 => k (.exit 0) (s52v1 x6 x10))
  | 0, _, _, _ => rfl
  | m + 1, x7, x8, x9 => by
    rw [r52v1]
    simp only [L52v1, q52v1 fuel x6 k m]
def D52 {ρ : Type} (fuel : Nat) (x1 : Nat) (x2 : Nat → Nat → CV) (k : (Nat × (Nat → Nat → CV)) → Option ρ) : Option ρ :=
  (L52v1 fuel x1 fuel 0 (w64 ((Int.ofNat x1) - 1)) x2
    (fun x11 => (k (x1, x11))))
def F52 (fuel : Nat) (x1 : Nat) (x2 : Nat → Nat → CV) : Option (Nat × (Nat → Nat → CV)) := D52 fuel x1 x2 some
theorem n52 {ρ σ : Type} (fuel : Nat) (x1 : Nat) (x2 : Nat → Nat → CV) (k : (Nat × (Nat → Nat → CV)) → Option ρ) (g : ρ → Option σ) : ob (D52 fuel x1 x2 k) g = D52 fuel x1 x2 fun t => ob (k t) g := by
  simp only [D52, ob_bif, ob_ob, ob_none, nl52v1]
theorem f52 {ρ : Type} (fuel : Nat) (x1 : Nat) (x2 : Nat → Nat → CV) (k : (Nat × (Nat → Nat → CV)) → Option ρ) : D52 fuel x1 x2 k = ob (F52 fuel x1 x2) k := by
  unfold F52
  rw [n52]
  simp only [ob_some]
def s52v2 (x1 : Nat) (x2 : Nat → Nat → CV) : St := ⟨[.x (.own 0 0 x1), .undef, .x (.c (.i .i64 0)), .x (.c (.i .i64 (w64 ((Int.ofNat x1) - 1)))), .x (.own 0 0 x1), .x (.c (.i .i64 (Int.ofNat x1))), .x (.c (.i .i64 (w64 ((Int.ofNat x1) - 1)))), .undef, .undef, .undef, .undef, .undef, .undef, .undef, .undef, .undef, .undef, .undef, .undef, .undef, .undef, .undef, .undef, .undef, .undef, .undef, .undef, .undef], [.arr (.pr (.int .i64) (.pr (.int .i64) .bool)) x1 x2]⟩
theorem walk52 (fuel : Nat) (x1 : Nat) (x2 : Nat → Nat → CV) :
    evalT (CE fuel) fuel A52 (.pr (.int .i64) (.pr (.int .i64) .nil)) x1 x2 [] =
    (loopN (B52v1 (CE fuel) fuel) N52v1 fuel (s52v2 x1 x2) (kBlk 0 (finishT (Kd.mark (.pr (.int .i64) (.pr (.int .i64) .nil)))))) := by kernel_rfl
theorem t52v1 (fuel : Nat) {ρ : Type} (k : Ex → St → Option ρ) (x1 : Nat) (x2 : Nat → Nat → CV) :
    loopN (B52v1 (CE fuel) fuel) N52v1 fuel (s52v2 x1 x2) k =
    L52v1 fuel x1 fuel 0 (w64 ((Int.ofNat x1) - 1)) x2 (fun x10 => k (.exit 0) (s52v1 x1 x10)) :=
  (loopN_at (st' := (s52v0 x1 0 (w64 ((Int.ofNat x1) - 1)) x2)) (by kernel_rfl)).trans (q52v1 fuel x1 k fuel 0 (w64 ((Int.ofNat x1) - 1)) x2)
theorem g52v2 (x1 : Nat) (x11 : Nat → Nat → CV) :
    (kBlk 0 (finishT (Kd.mark (.pr (.int .i64) (.pr (.int .i64) .nil))))) (.exit 0) (s52v1 x1 x11) =
    (some (x1, x11)) := by kernel_rfl
theorem e52 (fuel : Nat) (x1 : Nat) (x2 : Nat → Nat → CV) : evalT (CE fuel) fuel A52 (.pr (.int .i64) (.pr (.int .i64) .nil)) x1 x2 [] = F52 fuel x1 x2 := by
  rw [walk52]
  simp only [F52, D52, t52v1, g52v2]
def A12v1 : AC := (.region 5 [mv 19 3, o1 20 (.binOp .add 3 (tm 19) (ic 1) 3), o1 3 (.assign (tm 20))] 0 none)
def A12v2 : AC := (.seq (.block 1
  (.seq (.region 6 [o1 21 (.fieldAddr 25 (tm 1) 1 1), o1 22 (.load 23 none (tm 21)), mv 23 3, o1 24 (.indexAddr 23 22 1 (tm 22) (tm 23)), o1 25 (.load 22 none (tm 24)), o1 26 (.len 22 false (tm 25)), o1 27 (.binOp .gtr 3 (tm 26) (ic 40) 3)] 0 none) []
    (.cond (tm 27)
    (.seq (.region 7 [o1 2 (.assign (.const (.bool true)))] 0 none) []
      (.ret (0 :: 1 :: (rl 3 25 []))))
    .skip))) (2 :: (rl 21 7 []))
  A12v1)
def A12v3 : AC := (.seq (.seq (.region 4 [mv 14 3, o1 15 (.fieldAddr 25 (tm 1) 1 1), o1 16 (.load 23 none (tm 15)), o1 17 (.len 23 false (tm 16)), o1 18 (.binOp .lss 3 (tm 14) (tm 17) 3)] 0 none) []
  (.cond (tm 18)
  .skip
  (.exit 0 (rl 0 28 [])))) (rl 14 5 [])
  A12v2)
def A12v4 : AC := (.seq (.region 8 [o1 2 (.assign (.const (.bool false)))] 0 none) []
  (.ret (0 :: 1 :: (rl 3 25 []))))
def A12v5 : AC := (.seq (.seq (.region 3 [o1 3 (.assign (ic 0))] 0 none) []
  (.block 0
  (.loop [] (0 :: 2 :: (rl 4 24 []))
    A12v3))) (2 :: 3 :: (rl 14 14 []))
  A12v4)
def A12 : AF := ⟨28, [.tmp 2],
  (.seq (.region 0 [o1 1 (.box 0 25 (tm 0)), o1 2 (.assign (.const (.bool false)))] 1 none) []
  (.seq (.seq (.region 1 [o1 4 (.fieldAddr 25 (tm 1) 1 1), o1 5 (.load 23 none (tm 4)), o1 6 (.len 23 false (tm 5)), o1 7 (.binOp .gtr 3 (tm 6) (ic 12) 3), mv 8 7, og 9 (.fieldAddr 25 (tm 1) 0 0) 8 false, og 10 (.load 22 none (tm 9)) 8 false, og 11 (.len 22 false (tm 10)) 8 false, og 12 (.binOp .gtr 3 (tm 11) (ic 40) 3) 8 false, o1 13 (.pick (tm 8) (.const (.bool true)) (tm 12))] 0 none) []
  (.cond (tm 13)
  (.seq (.region 2 [o1 2 (.assign (.const (.bool true)))] 0 none) []
    (.ret (0 :: 1 :: (rl 3 25 []))))
  .skip)) (2 :: (rl 4 10 []))
  A12v5))⟩
def B12v1 (C : Oracle) (fuel : Nat) {ρ : Type} : St → (Ex → St → Option ρ) → Option ρ := fun st k => evalC C fuel A12v3 st k
def N12v1 : St → Option St := fun s => s.norm (0 :: 2 :: (rl 4 24 [])) 1
def s12v0 (x9 : Int) (x10 : Nat) (x11 : Nat → Nat → CV) (x12 : Nat) (x13 : Nat → Nat → CV) : St := ⟨(.u :: .x (.ptr 0 0) :: .u :: .x (.c (.i .i64 x9)) :: (us 24 [])), [.box [(.c (.ro false (.pr (.int .i64) (.pr (.int .i64) .nil)) x10 x11)), (.c (.ro false (.pr (.sl (.pr (.int .i64) (.pr (.int .i64) .nil))) .nil) x12 x13))]]⟩
def s12v1 (x10 : Nat) (x11 : Nat → Nat → CV) (x12 : Nat) (x13 : Nat → Nat → CV) : St := ⟨(.u :: .u :: .x (.c (.b true)) :: (us 25 [])), [.box [(.c (.ro false (.pr (.int .i64) (.pr (.int .i64) .nil)) x10 x11)), (.c (.ro false (.pr (.sl (.pr (.int .i64) (.pr (.int .i64) .nil))) .nil) x12 x13))]]⟩
def s12v2 (x10 : Nat) (x11 : Nat → Nat → CV) (x12 : Nat) (x13 : Nat → Nat → CV) : St := ⟨(us 28 []), [.box [(.c (.ro false (.pr (.int .i64) (.pr (.int .i64) .nil)) x10 x11)), (.c (.ro false (.pr (.sl (.pr (.int .i64) (.pr (.int .i64) .nil))) .nil) x12 x13))]]⟩
def L12v1 {ρ : Type} (fuel : Nat) (x10 : Nat) (x11 : Nat → Nat → CV) (x12 : Nat) (x13 : Nat → Nat → CV) : Nat → Int → (Option ρ) → (Option ρ) → Option ρ
  | 0, _, _, _ => none
  | m + 1, x9, k0, k1 =>
    (bif (decide (x9 < (Int.ofNat x12))) then (bif (inb x9 x12) then (bif (decide ((Int.ofNat (CV.len (x13 (Int.toNat x9) 0))) > 40)) then k0 else (L12v1 fuel x10 x11 x12 x13 m (w64 (x9 + 1)) k0 k1)) else none) else k1)
theorem nl12v1 {ρ σ : Type} (fuel : Nat) (x10 : Nat) (x11 : Nat → Nat → CV) (x12 : Nat) (x13 : Nat → Nat → CV) (g : ρ → Option σ) : ∀ (m : Nat) (x9 : Int) (k0 : Option ρ) (k1 : Option ρ), ob (L12v1 fuel x10 x11 x12 x13 m x9 k0 k1) g = L12v1 fuel x10 x11 x12 x13 m x9 (ob k0 g) (ob k1 g)
  | 0, _, _, _ => rfl
  | m + 1, x9, k0, k1 => by
    simp only [L12v1, ob_bif, ob_ob, ob_none, nl12v1 fuel x10 x11 x12 x13 g m]
theorem r12v1 (fuel : Nat) (m : Nat) {ρ : Type} (k : Ex → St → Option ρ) (x10 : Nat) (x11 : Nat → Nat → CV) (x12 : Nat) (x13 : Nat → Nat → CV) (x9 : Int) :
    loopH (B12v1 (C0 fuel) fuel) N12v1 (m + 1) (s12v0 x9 x10 x11 x12 x13) k =
    (bif (decide (x9 < (Int.ofNat x12))) then (bif (inb x9 x12) then (bif (decide ((Int.ofNat (CV.len (x13 (Int.toNat x9) 0))) > 40)) then (k .ret (s12v1 x10 x11 x12 x13)) else (loopH (B12v1 (C0 fuel) fuel) N12v1 m (s12v0 (w64 (x9 + 1)) x10 x11 x12 x13) k)) else none) else (k (.exit 0) (s12v2 x10 x11 x12 x13))) := by kernel_rfl
theorem q12v1 (fuel : Nat) (x10 : Nat) (x11 : Nat → Nat → CV) (x12 : Nat) (x13 : Nat → Nat → CV) {ρ : Type} (k : Ex → St → Option ρ) : ∀ (m : Nat) (x9 : Int),
    loopH (B12v1 (C0 fuel) fuel) N12v1 m (s12v0 x9 x10 x11 x12 x13) k = L12v1 fuel x10 x11 x12 x13 m x9 (k .ret (s12v1 x10 x11 x12 x13)) (k (.exit 0) (s12v2 x10 x11 x12 x13))
  | 0, _ => rfl
  | m + 1, x9 => by
    rw [r12v1]
    simp only [L12v1, q12v1 fuel x10 x11 x12 x13 k m]
def D12 {ρ : Type} (fuel : Nat) (x1 : Nat) (x2 : Nat → Nat → CV) (x3 : Nat) (x4 : Nat → Nat → CV) (k : Bool → Option ρ) : Option ρ :=
  (bif ((decide ((Int.ofNat x3) > 12)) == false) then (bif (decide ((Int.ofNat x1) > 40)) then (k true) else (L12v1 fuel x1 x2 x3 x4 fuel 0
    (k true)
    (k false))) else (k true))
def F12 (fuel : Nat) (x1 : Nat) (x2 : Nat → Nat → CV) (x3 : Nat) (x4 : Nat → Nat → CV) : Option (Bool) := D12 fuel x1 x2 x3 x4 some
theorem n12 {ρ σ : Type} (fuel : Nat) (x1 : Nat) (x2 : Nat → Nat → CV) (x3 : Nat) (x4 : Nat → Nat → CV) (k : (Bool) → Option ρ) (g : ρ → Option σ) : ob (D12 fuel x1 x2 x3 x4 k) g = D12 fuel x1 x2 x3 x4 fun t => ob (k t) g := by
  simp only [D12, ob_bif, ob_ob, ob_none, nl12v1]
theorem f12 {ρ : Type} (fuel : Nat) (x1 : Nat) (x2 : Nat → Nat → CV) (x3 : Nat) (x4 : Nat → Nat → CV) (k : (Bool) → Option ρ) : D12 fuel x1 x2 x3 x4 k = ob (F12 fuel x1 x2 x3 x4) k := by
  unfold F12
  rw [n12]
  simp only [ob_some]
def s12v3 (x1 : Nat) (x2 : Nat → Nat → CV) (x3 : Nat) (x4 : Nat → Nat → CV) : St := ⟨(.agg [(.c (.ro false (.pr (.int .i64) (.pr (.int .i64) .nil)) x1 x2)), (.c (.ro false (.pr (.sl (.pr (.int .i64) (.pr (.int .i64) .nil))) .nil) x3 x4))] :: .x (.ptr 0 0) :: .u :: .x (.c (.i .i64 0)) :: (us 10 [.undef, .undef, .undef, .undef, .undef, .undef, .undef, .undef, .undef, .undef, .undef, .undef, .undef, .undef])), [.box [(.c (.ro false (.pr (.int .i64) (.pr (.int .i64) .nil)) x1 x2)), (.c (.ro false (.pr (.sl (.pr (.int .i64) (.pr (.int .i64) .nil))) .nil) x3 x4))]]⟩
theorem walk12 (fuel : Nat) (x1 : Nat) (x2 : Nat → Nat → CV) (x3 : Nat) (x4 : Nat → Nat → CV) :
    evalF (C0 fuel) fuel A12 [.agg [(.ro false (.pr (.int .i64) (.pr (.int .i64) .nil)) x1 x2), (.ro false (.pr (.sl (.pr (.int .i64) (.pr (.int .i64) .nil))) .nil) x3 x4)]] =
    (bif ((decide ((Int.ofNat x3) > 12)) == false) then (bif (decide ((Int.ofNat x1) > 40)) then (some [.v (.b true)]) else (loopN (B12v1 (C0 fuel) fuel) N12v1 fuel (s12v3 x1 x2 x3 x4) (kBlk 0 (kSeq (C0 fuel) fuel (2 :: 3 :: (rl 14 14 [])) A12v4 (finish A12))))) else (some [.v (.b true)])) := by kernel_rfl
theorem t12v1 (fuel : Nat) {ρ : Type} (k : Ex → St → Option ρ) (x1 : Nat) (x2 : Nat → Nat → CV) (x3 : Nat) (x4 : Nat → Nat → CV) :
    loopN (B12v1 (C0 fuel) fuel) N12v1 fuel (s12v3 x1 x2 x3 x4) k =
    L12v1 fuel x1 x2 x3 x4 fuel 0 (k .ret (s12v1 x1 x2 x3 x4)) (k (.exit 0) (s12v2 x1 x2 x3 x4)) :=
  (loopN_at (st' := (s12v0 0 x1 x2 x3 x4)) (by kernel_rfl)).trans (q12v1 fuel x1 x2 x3 x4 k fuel 0)
theorem g12v2 (fuel : Nat) (x1 : Nat) (x2 : Nat → Nat → CV) (x3 : Nat) (x4 : Nat → Nat → CV) :
    (kBlk 0 (kSeq (C0 fuel) fuel (2 :: 3 :: (rl 14 14 [])) A12v4 (finish A12))) .ret (s12v1 x1 x2 x3 x4) =
    (some [.v (.b true)]) := by kernel_rfl
theorem g12v3 (fuel : Nat) (x1 : Nat) (x2 : Nat → Nat → CV) (x3 : Nat) (x4 : Nat → Nat → CV) :
    (kBlk 0 (kSeq (C0 fuel) fuel (2 :: 3 :: (rl 14 14 [])) A12v4 (finish A12))) (.exit 0) (s12v2 x1 x2 x3 x4) =
    (some [.v (.b false)]) := by kernel_rfl
theorem e12 (fuel : Nat) (x1 : Nat) (x2 : Nat → Nat → CV) (x3 : Nat) (x4 : Nat → Nat → CV) : evalF (C0 fuel) fuel A12 [.agg [(.ro false (.pr (.int .i64) (.pr (.int .i64) .nil)) x1 x2), (.ro false (.pr (.sl (.pr (.int .i64) (.pr (.int .i64) .nil))) .nil) x3 x4)]] = ob (F12 fuel x1 x2 x3 x4) fun t => some [.v (.b t)] := by
  rw [walk12, ← f12]
  simp only [D12, t12v1, g12v2, g12v3]
def O12 (fuel : Nat) : Ora where
  o := fun args {ρ} K =>
    wc args fun a1 l2 =>
    wagg a1 fun l3 =>
    wc l3 fun c4 l5 =>
    wL (.pr (.int .i64) (.pr (.int .i64) .nil)) c4 fun y6 y7 =>
    wc l5 fun c9 l10 =>
    wL (.pr (.sl (.pr (.int .i64) (.pr (.int .i64) .nil))) .nil) c9 fun y11 y12 =>
    wn l10 <|
    wn l2 <|
    (ob (F12 fuel y6 y7 y11 y12) fun t => K [.v (.b t)])
  nat := fun args {ρ} K => by
    simp only [bind_wc, bind_wn, bind_wv, bind_wagg, bind_wI, bind_wB, bind_wS, bind_wL, bind_wP, bind_wFn, bind_ob, Option.bind_some]
theorem d12 {P : Program} (fuel : Nat) (hmix : P.follows .mixedOrders = true) (hC : Sound P (C0 fuel)) (hF : FFits P 12 A12) (args res : List A) (h : (O12 fuel).o args some = some res) : Den P 12 args res := by
  obtain ⟨a1, l2, rfl, z0⟩ := inv_wc h
  obtain ⟨l3, rfl, z1⟩ := inv_wagg z0
  obtain ⟨c4, l5, rfl, z2⟩ := inv_wc z1
  obtain ⟨y6, y7, h8, z3⟩ := inv_wL z2
  obtain ⟨c9, l10, rfl, z4⟩ := inv_wc z3
  obtain ⟨y11, y12, h13, z5⟩ := inv_wL z4
  obtain ⟨hn, z6⟩ := inv_wn z5
  cases hn
  obtain ⟨hn, z7⟩ := inv_wn z6
  cases hn
  exact Den.weaken (.cons (WkA.agg (.cons h8 (.cons h13 .nil))) .nil) (evalF_sound hmix hC hF ((e12 fuel y6 y7 y11 y12).trans z7))
def C1 (fuel : Nat) : Oracle := (C0 fuel).add 12 (fun _ => true) (O12 fuel)
def A61 : AF := ⟨21, [.tmp 2],
  (.seq (.region 0 [o1 1 (.box 0 34 (tm 0)), o1 2 (.assign (.const (.bool false)))] 1 none) []
  (.seq (.region 1 [o1 3 (.fieldAddr 34 (tm 1) 0 0), o1 4 (.load 3 none (tm 3)), o1 5 (.binOp .lss 3 (tm 4) (ic (-32768)) 3), mv 6 5, og 7 (.fieldAddr 34 (tm 1) 0 0) 6 false, og 8 (.load 3 none (tm 7)) 6 false, og 9 (.binOp .gtr 3 (tm 8) (ic 32768) 3) 6 false, o1 10 (.pick (tm 6) (.const (.bool true)) (tm 9)), mv 11 10, og 12 (.fieldAddr 34 (tm 1) 1 1) 11 false, og 13 (.load 3 none (tm 12)) 11 false, og 14 (.binOp .lss 3 (tm 13) (ic (-32768)) 3) 11 false, o1 15 (.pick (tm 11) (.const (.bool true)) (tm 14)), mv 16 15, og 17 (.fieldAddr 34 (tm 1) 1 1) 16 false, og 18 (.load 3 none (tm 17)) 16 false, og 19 (.binOp .gtr 3 (tm 18) (ic 32768) 3) 16 false, o1 20 (.pick (tm 16) (.const (.bool true)) (tm 19)), o1 2 (.assign (tm 20))] 0 none) []
  (.ret (0 :: 1 :: (rl 3 18 [])))))⟩
def D61 {ρ : Type} (fuel : Nat) (x1 : Int) (x2 : Int) (k : Bool → Option ρ) : Option ρ :=
  (bif ((decide (x1 < (-32768))) == false) then (bif ((decide (x1 > 32768)) == false) then (bif ((decide (x2 < (-32768))) == false) then (k (decide (x2 > 32768))) else (k true)) else (k true)) else (k true))
def F61 (fuel : Nat) (x1 : Int) (x2 : Int) : Option (Bool) := D61 fuel x1 x2 some
theorem n61 {ρ σ : Type} (fuel : Nat) (x1 : Int) (x2 : Int) (k : (Bool) → Option ρ) (g : ρ → Option σ) : ob (D61 fuel x1 x2 k) g = D61 fuel x1 x2 fun t => ob (k t) g := by
  simp only [D61, ob_bif, ob_ob, ob_none]
theorem f61 {ρ : Type} (fuel : Nat) (x1 : Int) (x2 : Int) (k : (Bool) → Option ρ) : D61 fuel x1 x2 k = ob (F61 fuel x1 x2) k := by
  unfold F61
  rw [n61]
  simp only [ob_some]
theorem walk61 (fuel : Nat) (x1 : Int) (x2 : Int) :
    evalF (C1 fuel) fuel A61 [.agg [(.i .i64 x1), (.i .i64 x2)]] =
    (bif ((decide (x1 < (-32768))) == false) then (bif ((decide (x1 > 32768)) == false) then (bif ((decide (x2 < (-32768))) == false) then (some [.v (.b (decide (x2 > 32768)))]) else (some [.v (.b true)])) else (some [.v (.b true)])) else (some [.v (.b true)])) := by kernel_rfl
theorem e61 (fuel : Nat) (x1 : Int) (x2 : Int) : evalF (C1 fuel) fuel A61 [.agg [(.i .i64 x1), (.i .i64 x2)]] = ob (F61 fuel x1 x2) fun t => some [.v (.b t)] := by
  rw [walk61, ← f61]
  simp only [D61]
def O61 (fuel : Nat) : Ora where
  o := fun args {ρ} K =>
    wc args fun a1 l2 =>
    wagg a1 fun l3 =>
    wc l3 fun c4 l5 =>
    wI .i64 c4 fun y6 =>
    wc l5 fun c8 l9 =>
    wI .i64 c8 fun y10 =>
    wn l9 <|
    wn l2 <|
    (ob (F61 fuel y6 y10) fun t => K [.v (.b t)])
  nat := fun args {ρ} K => by
    simp only [bind_wc, bind_wn, bind_wv, bind_wagg, bind_wI, bind_wB, bind_wS, bind_wL, bind_wP, bind_wFn, bind_ob, Option.bind_some]
theorem d61 {P : Program} (fuel : Nat) (hmix : P.follows .mixedOrders = true) (hC : Sound P (C1 fuel)) (hF : FFits P 61 A61) (args res : List A) (h : (O61 fuel).o args some = some res) : Den P 61 args res := by
  obtain ⟨a1, l2, rfl, z0⟩ := inv_wc h
  obtain ⟨l3, rfl, z1⟩ := inv_wagg z0
  obtain ⟨c4, l5, rfl, z2⟩ := inv_wc z1
  obtain ⟨y6, h7, z3⟩ := inv_wI z2
  obtain ⟨c8, l9, rfl, z4⟩ := inv_wc z3
  obtain ⟨y10, h11, z5⟩ := inv_wI z4
  obtain ⟨hn, z6⟩ := inv_wn z5
  cases hn
  obtain ⟨hn, z7⟩ := inv_wn z6
  cases hn
  exact Den.weaken (.cons (WkA.agg (.cons (Wk.i h7) (.cons (Wk.i h11) .nil))) .nil) (evalF_sound hmix hC hF ((e61 fuel y6 y10).trans z7))
def C2 (fuel : Nat) : Oracle := (C1 fuel).add 61 (fun _ => true) (O61 fuel)
def A73v1 : AC := (.region 6 [o1 18 (.binOp .add 3 (tm 8) (ic 1) 3), mv 8 18] 0 none)
def A73v2 : AC := (.seq (.block 1
  (.seq (.region 3 [mv 10 8, o1 5 (.assign (tm 10))] 0 none) []
    (.seq (.region 4 [mv 11 1, mv 12 0, mv 13 5, o1 14 (.indexAddr 22 34 2 (tm 12) (tm 13)), o1 15 (.load 34 (some 2) (tm 14)), o1 16 (.callv (tm 11) [(tm 15)] [34] .snap)] 0 none) []
    (.cond (tm 16)
    (.seq (.region 5 [mv 17 5, o1 4 (.assign (tm 17))] 0 none) []
      (.ret (rl 0 4 (rl 5 14 []))))
    .skip)))) (4 :: 5 :: (rl 10 8 []))
  A73v1)
def A73v3 : AC := (.seq (.region 2 [o1 9 (.binOp .lss 3 (tm 8) (tm 7) 3)] 0 none) []
  (.seq (.cond (tm 9)
  .skip
  (.exit 0 (rl 0 19 []))) []
  A73v2))
def A73v4 : AC := (.seq (.region 7 [o1 4 (.assign (ic (-1)))] 0 none) []
  (.ret (rl 0 4 (rl 5 14 []))))
def A73 : AF := ⟨19, [.tmp 4],
  (.seq (.region 0 [o1 4 (.assign (ic 0))] 0 none) []
  (.seq (.seq (.region 1 [mv 6 0, o1 7 (.len 22 false (tm 6)), o1 8 (.move (ic 0))] 0 none) []
  (.block 0
  (.loop [] (rl 2 5 (rl 9 10 []))
    A73v3))) (rl 4 15 [])
  A73v4))⟩
def B73v1 (C : Oracle) (fuel : Nat) {ρ : Type} : St → (Ex → St → Option ρ) → Option ρ := fun st k => evalC C fuel A73v3 st k
def N73v1 : St → Option St := fun s => s.norm (rl 2 5 (rl 9 10 [])) 0
def s73v0 (x7 : Nat) (x8 : Nat → Nat → CV) (x9 : Int) (x10 : Int) : St := ⟨(.x (.c (.ro false (.pr (.int .i64) (.pr (.int .i64) .nil)) x7 x8)) :: .x (.c (.fn 61 0 (listF []))) :: (us 5 (.x (.c (.i .i64 x9)) :: .x (.c (.i .i64 x10)) :: (us 10 [])))), []⟩
def s73v1 (x12 : Int) : St := ⟨(us 4 (.x (.c (.i .i64 x12)) :: (us 14 []))), []⟩
def s73v2 : St := ⟨(us 19 []), []⟩
def L73v1 {ρ : Type} (fuel : Nat) (x7 : Nat) (x8 : Nat → Nat → CV) (x9 : Int) : Nat → Int → (Int → Option ρ) → (Option ρ) → Option ρ
  | 0, _, _, _ => none
  | m + 1, x10, k0, k1 =>
    (bif (decide (x10 < x9)) then (bif (inb x10 x7) then (ob (F61 fuel (CV.int (x8 (Int.toNat x10) 0)) (CV.int (x8 (Int.toNat x10) 1))) fun x11 => (bif x11 then (k0 x10) else (L73v1 fuel x7 x8 x9 m (w64 (x10 + 1)) k0 k1))) else none) else k1)
theorem nl73v1 {ρ σ : Type} (fuel : Nat) (x7 : Nat) (x8 : Nat → Nat → CV) (x9 : Int) (g : ρ → Option σ) : ∀ (m : Nat) (x10 : Int) (k0 : Int → Option ρ) (k1 : Option ρ), ob (L73v1 fuel x7 x8 x9 m x10 k0 k1) g = L73v1 fuel x7 x8 x9 m x10 (fun x12 => ob (k0 x12) g) (ob k1 g)
  | 0, _, _, _ => rfl
  | m + 1, x10, k0, k1 => by
    simp only [L73v1, ob_bif, ob_ob, ob_none, nl73v1 fuel x7 x8 x9 g m]
theorem r73v1 (fuel : Nat) (m : Nat) {ρ : Type} (k : Ex → St → Option ρ) (x7 : Nat) (x8 : Nat → Nat → CV) (x9 : Int) (x10 : Int) :
    loopH (B73v1 (C2 fuel) fuel) N73v1 (m + 1) (s73v0 x7 x8 x9 x10) k =
    (bif (decide (x10 < x9)) then (bif (inb x10 x7) then (ob (F61 fuel (CV.int (x8 (Int.toNat x10) 0)) (CV.int (x8 (Int.toNat x10) 1))) fun x11 => (bif x11 then (k .ret (s73v1 x10)) else (loopH (B73v1 (C2 fuel) fuel) N73v1 m (s73v0 x7 x8 x9 (w64 (x10 + 1))) k))) else none) else (k (.exit 0) s73v2)) := by kernel_rfl
theorem q73v1 (fuel : Nat) (x7 : Nat) (x8 : Nat → Nat → CV) (x9 : Int) {ρ : Type} (k : Ex → St → Option ρ) : ∀ (m : Nat) (x10 : Int),
    loopH (B73v1 (C2 fuel) fuel) N73v1 m (s73v0 x7 x8 x9 x10) k = L73v1 fuel x7 x8 x9 m x10 (fun x12 => k .ret (s73v1 x12)) (k (.exit 0) s73v2)
  | 0, _ => rfl
  | m + 1, x10 => by
    rw [r73v1]
    simp only [L73v1, q73v1 fuel x7 x8 x9 k m]
def D73 {ρ : Type} (fuel : Nat) (x1 : Nat) (x2 : Nat → Nat → CV) (k : Int → Option ρ) : Option ρ :=
  (L73v1 fuel x1 x2 (Int.ofNat x1) fuel 0
    (fun x13 => (k x13))
    (k (-1)))
def F73 (fuel : Nat) (x1 : Nat) (x2 : Nat → Nat → CV) : Option (Int) := D73 fuel x1 x2 some
theorem n73 {ρ σ : Type} (fuel : Nat) (x1 : Nat) (x2 : Nat → Nat → CV) (k : (Int) → Option ρ) (g : ρ → Option σ) : ob (D73 fuel x1 x2 k) g = D73 fuel x1 x2 fun t => ob (k t) g := by
  simp only [D73, ob_bif, ob_ob, ob_none, nl73v1]
theorem f73 {ρ : Type} (fuel : Nat) (x1 : Nat) (x2 : Nat → Nat → CV) (k : (Int) → Option ρ) : D73 fuel x1 x2 k = ob (F73 fuel x1 x2) k := by
  unfold F73
  rw [n73]
  simp only [ob_some]
def s73v3 (x1 : Nat) (x2 : Nat → Nat → CV) : St := ⟨[.x (.c (.ro false (.pr (.int .i64) (.pr (.int .i64) .nil)) x1 x2)), .x (.c (.fn 61 0 (listF []))), .undef, .undef, .x (.c (.i .i64 0)), .undef, .x (.c (.ro false (.pr (.int .i64) (.pr (.int .i64) .nil)) x1 x2)), .x (.c (.i .i64 (Int.ofNat x1))), .x (.c (.i .i64 0)), .undef, .undef, .undef, .undef, .undef, .undef, .undef, .undef, .undef, .undef], []⟩
theorem walk73 (fuel : Nat) (x1 : Nat) (x2 : Nat → Nat → CV) :
    evalF (C2 fuel) fuel A73 [.v (.ro false (.pr (.int .i64) (.pr (.int .i64) .nil)) x1 x2), .v (.fn 61 0 (listF []))] =
    (loopN (B73v1 (C2 fuel) fuel) N73v1 fuel (s73v3 x1 x2) (kBlk 0 (kSeq (C2 fuel) fuel (rl 4 15 []) A73v4 (finish A73)))) := by kernel_rfl
theorem t73v1 (fuel : Nat) {ρ : Type} (k : Ex → St → Option ρ) (x1 : Nat) (x2 : Nat → Nat → CV) :
    loopN (B73v1 (C2 fuel) fuel) N73v1 fuel (s73v3 x1 x2) k =
    L73v1 fuel x1 x2 (Int.ofNat x1) fuel 0 (fun x12 => k .ret (s73v1 x12)) (k (.exit 0) s73v2) :=
  (loopN_at (st' := (s73v0 x1 x2 (Int.ofNat x1) 0)) (by kernel_rfl)).trans (q73v1 fuel x1 x2 (Int.ofNat x1) k fuel 0)
theorem g73v2 (fuel : Nat) (x13 : Int) :
    (kBlk 0 (kSeq (C2 fuel) fuel (rl 4 15 []) A73v4 (finish A73))) .ret (s73v1 x13) =
    (some [.v (.i .i64 x13)]) := by kernel_rfl
theorem g73v3 (fuel : Nat) :
    (kBlk 0 (kSeq (C2 fuel) fuel (rl 4 15 []) A73v4 (finish A73))) (.exit 0) s73v2 =
    (some [.v (.i .i64 (-1))]) := by kernel_rfl
theorem e73 (fuel : Nat) (x1 : Nat) (x2 : Nat → Nat → CV) : evalF (C2 fuel) fuel A73 [.v (.ro false (.pr (.int .i64) (.pr (.int .i64) .nil)) x1 x2), .v (.fn 61 0 (listF []))] = ob (F73 fuel x1 x2) fun t => some [.v (.i .i64 t)] := by
  rw [walk73, ← f73]
  simp only [D73, t73v1, g73v2, g73v3]
def O73 (fuel : Nat) : Ora where
  o := fun args {ρ} K =>
    wc args fun a1 l2 =>
    wv a1 fun c3 =>
    wL (.pr (.int .i64) (.pr (.int .i64) .nil)) c3 fun y4 y5 =>
    wc l2 fun a7 l8 =>
    wv a7 fun c9 =>
    wFn 61 0 c9 fun y10 =>
    wn l8 <|
    (ob (F73 fuel y4 y5) fun t => K [.v (.i .i64 t)])
  nat := fun args {ρ} K => by
    simp only [bind_wc, bind_wn, bind_wv, bind_wagg, bind_wI, bind_wB, bind_wS, bind_wL, bind_wP, bind_wFn, bind_ob, Option.bind_some]
theorem d73 {P : Program} (fuel : Nat) (hmix : P.follows .mixedOrders = true) (hC : Sound P (C2 fuel)) (hF : FFits P 73 A73) (args res : List A) (h : (O73 fuel).o args some = some res) : Den P 73 args res := by
  obtain ⟨a1, l2, rfl, z0⟩ := inv_wc h
  obtain ⟨c3, rfl, z1⟩ := inv_wv z0
  obtain ⟨y4, y5, h6, z2⟩ := inv_wL z1
  obtain ⟨a7, l8, rfl, z3⟩ := inv_wc z2
  obtain ⟨c9, rfl, z4⟩ := inv_wv z3
  obtain ⟨y10, h11, z5⟩ := inv_wFn z4
  obtain ⟨hn, z6⟩ := inv_wn z5
  cases hn
  exact Den.weaken (.cons (WkA.v h6) (.cons (WkA.v (wk_fn0 h11)) .nil)) (evalF_sound hmix hC hF ((e73 fuel y4 y5).trans z6))
def C3 (fuel : Nat) : Oracle := (C2 fuel).add 73 (fun l => isFn 61 l 1) (O73 fuel)
def A50 : AF := ⟨9, [.tmp 4],
  (.seq (.region 0 [o1 4 (.assign (.const (.bool false)))] 0 none) []
  (.seq (.region 1 [mv 5 0, mv 6 1, o1 7 (.call 73 [(tm 5), (tm 6)] [22, 62] .snap), o1 8 (.binOp .geq 3 (tm 7) (ic 0) 3), o1 4 (.assign (tm 8))] 0 none) []
  (.ret (rl 0 4 (rl 5 4 [])))))⟩
def D50 {ρ : Type} (fuel : Nat) (x1 : Nat) (x2 : Nat → Nat → CV) (k : Bool → Option ρ) : Option ρ :=
  (ob (F73 fuel x1 x2) fun x3 => (k (decide (x3 ≥ 0))))
def F50 (fuel : Nat) (x1 : Nat) (x2 : Nat → Nat → CV) : Option (Bool) := D50 fuel x1 x2 some
theorem n50 {ρ σ : Type} (fuel : Nat) (x1 : Nat) (x2 : Nat → Nat → CV) (k : (Bool) → Option ρ) (g : ρ → Option σ) : ob (D50 fuel x1 x2 k) g = D50 fuel x1 x2 fun t => ob (k t) g := by
  simp only [D50, ob_bif, ob_ob, ob_none]
theorem f50 {ρ : Type} (fuel : Nat) (x1 : Nat) (x2 : Nat → Nat → CV) (k : (Bool) → Option ρ) : D50 fuel x1 x2 k = ob (F50 fuel x1 x2) k := by
  unfold F50
  rw [n50]
  simp only [ob_some]
theorem walk50 (fuel : Nat) (x1 : Nat) (x2 : Nat → Nat → CV) :
    evalF (C3 fuel) fuel A50 [.v (.ro false (.pr (.int .i64) (.pr (.int .i64) .nil)) x1 x2), .v (.fn 61 0 (listF []))] =
    (ob (F73 fuel x1 x2) fun x3 => (some [.v (.b (decide (x3 ≥ 0)))])) := by kernel_rfl
theorem e50 (fuel : Nat) (x1 : Nat) (x2 : Nat → Nat → CV) : evalF (C3 fuel) fuel A50 [.v (.ro false (.pr (.int .i64) (.pr (.int .i64) .nil)) x1 x2), .v (.fn 61 0 (listF []))] = ob (F50 fuel x1 x2) fun t => some [.v (.b t)] := by
  rw [walk50, ← f50]
  simp only [D50]
def O50 (fuel : Nat) : Ora where
  o := fun args {ρ} K =>
    wc args fun a1 l2 =>
    wv a1 fun c3 =>
    wL (.pr (.int .i64) (.pr (.int .i64) .nil)) c3 fun y4 y5 =>
    wc l2 fun a7 l8 =>
    wv a7 fun c9 =>
    wFn 61 0 c9 fun y10 =>
    wn l8 <|
    (ob (F50 fuel y4 y5) fun t => K [.v (.b t)])
  nat := fun args {ρ} K => by
    simp only [bind_wc, bind_wn, bind_wv, bind_wagg, bind_wI, bind_wB, bind_wS, bind_wL, bind_wP, bind_wFn, bind_ob, Option.bind_some]
theorem d50 {P : Program} (fuel : Nat) (hmix : P.follows .mixedOrders = true) (hC : Sound P (C3 fuel)) (hF : FFits P 50 A50) (args res : List A) (h : (O50 fuel).o args some = some res) : Den P 50 args res := by
  obtain ⟨a1, l2, rfl, z0⟩ := inv_wc h
  obtain ⟨c3, rfl, z1⟩ := inv_wv z0
  obtain ⟨y4, y5, h6, z2⟩ := inv_wL z1
  obtain ⟨a7, l8, rfl, z3⟩ := inv_wc z2
  obtain ⟨c9, rfl, z4⟩ := inv_wv z3
  obtain ⟨y10, h11, z5⟩ := inv_wFn z4
  obtain ⟨hn, z6⟩ := inv_wn z5
  cases hn
  exact Den.weaken (.cons (WkA.v h6) (.cons (WkA.v (wk_fn0 h11)) .nil)) (evalF_sound hmix hC hF ((e50 fuel y4 y5).trans z6))
def C4 (fuel : Nat) : Oracle := (C3 fuel).add 50 (fun l => isFn 61 l 1) (O50 fuel)
def A79 : AF := ⟨30, [.tmp 6],
  (.seq (.region 0 [o1 3 (.box 0 34 (tm 0)), o1 4 (.box 1 34 (tm 1)), o1 5 (.box 2 34 (tm 2)), o1 6 (.assign (ic 0))] 3 none) []
  (.seq (.region 1 [o1 7 (.fieldAddr 34 (tm 4) 0 0), o1 8 (.load 3 none (tm 7)), o1 9 (.fieldAddr 34 (tm 3) 0 0), o1 10 (.load 3 none (tm 9)), o1 11 (.binOp .sub 3 (tm 8) (tm 10) 3), o1 12 (.fieldAddr 34 (tm 5) 1 1), o1 13 (.load 3 none (tm 12)), o1 14 (.fieldAddr 34 (tm 3) 1 1), o1 15 (.load 3 none (tm 14)), o1 16 (.binOp .sub 3 (tm 13) (tm 15) 3), o1 17 (.binOp .mul 3 (tm 11) (tm 16) 3), o1 18 (.fieldAddr 34 (tm 4) 1 1), o1 19 (.load 3 none (tm 18)), o1 20 (.fieldAddr 34 (tm 3) 1 1), o1 21 (.load 3 none (tm 20)), o1 22 (.binOp .sub 3 (tm 19) (tm 21) 3), o1 23 (.fieldAddr 34 (tm 5) 0 0), o1 24 (.load 3 none (tm 23)), o1 25 (.fieldAddr 34 (tm 3) 0 0), o1 26 (.load 3 none (tm 25)), o1 27 (.binOp .sub 3 (tm 24) (tm 26) 3), o1 28 (.binOp .mul 3 (tm 22) (tm 27) 3), o1 29 (.binOp .sub 3 (tm 17) (tm 28) 3), o1 6 (.assign (tm 29))] 0 none) []
  (.ret (rl 0 6 (rl 7 23 [])))))⟩
def D79 {ρ : Type} (fuel : Nat) (x1 : Int) (x2 : Int) (x3 : Int) (x4 : Int) (x5 : Int) (x6 : Int) (k : Int → Option ρ) : Option ρ :=
  (k (w64 ((w64 ((w64 (x3 - x1)) * (w64 (x6 - x2)))) - (w64 ((w64 (x4 - x2)) * (w64 (x5 - x1)))))))
def F79 (fuel : Nat) (x1 : Int) (x2 : Int) (x3 : Int) (x4 : Int) (x5 : Int) (x6 : Int) : Option (Int) := D79 fuel x1 x2 x3 x4 x5 x6 some
theorem n79 {ρ σ : Type} (fuel : Nat) (x1 : Int) (x2 : Int) (x3 : Int) (x4 : Int) (x5 : Int) (x6 : Int) (k : (Int) → Option ρ) (g : ρ → Option σ) : ob (D79 fuel x1 x2 x3 x4 x5 x6 k) g = D79 fuel x1 x2 x3 x4 x5 x6 fun t => ob (k t) g := by
  simp only [D79, ob_bif, ob_ob, ob_none]
theorem f79 {ρ : Type} (fuel : Nat) (x1 : Int) (x2 : Int) (x3 : Int) (x4 : Int) (x5 : Int) (x6 : Int) (k : (Int) → Option ρ) : D79 fuel x1 x2 x3 x4 x5 x6 k = ob (F79 fuel x1 x2 x3 x4 x5 x6) k := by
  unfold F79
  rw [n79]
  simp only [ob_some]
theorem walk79 (fuel : Nat) (x1 : Int) (x2 : Int) (x3 : Int) (x4 : Int) (x5 : Int) (x6 : Int) :
    evalF (C4 fuel) fuel A79 [.agg [(.i .i64 x1), (.i .i64 x2)], .agg [(.i .i64 x3), (.i .i64 x4)], .agg [(.i .i64 x5), (.i .i64 x6)]] =
    (some [.v (.i .i64 (w64 ((w64 ((w64 (x3 - x1)) * (w64 (x6 - x2)))) - (w64 ((w64 (x4 - x2)) * (w64 (x5 - x1)))))))]) := by kernel_rfl
theorem e79 (fuel : Nat) (x1 : Int) (x2 : Int) (x3 : Int) (x4 : Int) (x5 : Int) (x6 : Int) : evalF (C4 fuel) fuel A79 [.agg [(.i .i64 x1), (.i .i64 x2)], .agg [(.i .i64 x3), (.i .i64 x4)], .agg [(.i .i64 x5), (.i .i64 x6)]] = ob (F79 fuel x1 x2 x3 x4 x5 x6) fun t => some [.v (.i .i64 t)] := by
  rw [walk79, ← f79]
  simp only [D79]
def O79 (fuel : Nat) : Ora where
  o := fun args {ρ} K =>
    wc args fun a1 l2 =>
    wagg a1 fun l3 =>
    wc l3 fun c4 l5 =>
    wI .i64 c4 fun y6 =>
    wc l5 fun c8 l9 =>
    wI .i64 c8 fun y10 =>
    wn l9 <|
    wc l2 fun a12 l13 =>
    wagg a12 fun l14 =>
    wc l14 fun c15 l16 =>
    wI .i64 c15 fun y17 =>
    wc l16 fun c19 l20 =>
    wI .i64 c19 fun y21 =>
    wn l20 <|
    wc l13 fun a23 l24 =>
    wagg a23 fun l25 =>
    wc l25 fun c26 l27 =>
    wI .i64 c26 fun y28 =>
    wc l27 fun c30 l31 =>
    wI .i64 c30 fun y32 =>
    wn l31 <|
    wn l24 <|
    (ob (F79 fuel y6 y10 y17 y21 y28 y32) fun t => K [.v (.i .i64 t)])
  nat := fun args {ρ} K => by
    simp only [bind_wc, bind_wn, bind_wv, bind_wagg, bind_wI, bind_wB, bind_wS, bind_wL, bind_wP, bind_wFn, bind_ob, Option.bind_some]
theorem d79 {P : Program} (fuel : Nat) (hmix : P.follows .mixedOrders = true) (hC : Sound P (C4 fuel)) (hF : FFits P 79 A79) (args res : List A) (h : (O79 fuel).o args some = some res) : Den P 79 args res := by
  obtain ⟨a1, l2, rfl, z0⟩ := inv_wc h
  obtain ⟨l3, rfl, z1⟩ := inv_wagg z0
  obtain ⟨c4, l5, rfl, z2⟩ := inv_wc z1
  obtain ⟨y6, h7, z3⟩ := inv_wI z2
  obtain ⟨c8, l9, rfl, z4⟩ := inv_wc z3
  obtain ⟨y10, h11, z5⟩ := inv_wI z4
  obtain ⟨hn, z6⟩ := inv_wn z5
  cases hn
  obtain ⟨a12, l13, rfl, z7⟩ := inv_wc z6
  obtain ⟨l14, rfl, z8⟩ := inv_wagg z7
  obtain ⟨c15, l16, rfl, z9⟩ := inv_wc z8
  obtain ⟨y17, h18, z10⟩ := inv_wI z9
  obtain ⟨c19, l20, rfl, z11⟩ := inv_wc z10
  obtain ⟨y21, h22, z12⟩ := inv_wI z11
  obtain ⟨hn, z13⟩ := inv_wn z12
  cases hn
  obtain ⟨a23, l24, rfl, z14⟩ := inv_wc z13
  obtain ⟨l25, rfl, z15⟩ := inv_wagg z14
  obtain ⟨c26, l27, rfl, z16⟩ := inv_wc z15
  obtain ⟨y28, h29, z17⟩ := inv_wI z16
  obtain ⟨c30, l31, rfl, z18⟩ := inv_wc z17
  obtain ⟨y32, h33, z19⟩ := inv_wI z18
  obtain ⟨hn, z20⟩ := inv_wn z19
  cases hn
  obtain ⟨hn, z21⟩ := inv_wn z20
  cases hn
  exact Den.weaken (.cons (WkA.agg (.cons (Wk.i h7) (.cons (Wk.i h11) .nil))) (.cons (WkA.agg (.cons (Wk.i h18) (.cons (Wk.i h22) .nil))) (.cons (WkA.agg (.cons (Wk.i h29) (.cons (Wk.i h33) .nil))) .nil))) (evalF_sound hmix hC hF ((e79 fuel y6 y10 y17 y21 y28 y32).trans z21))
def C5 (fuel : Nat) : Oracle := (C4 fuel).add 79 (fun _ => true) (O79 fuel)
def A87 : AF := ⟨45, [.tmp 6],
  (.seq (.region 0 [o1 3 (.box 0 34 (tm 0)), o1 4 (.box 1 34 (tm 1)), o1 5 (.box 2 34 (tm 2)), o1 6 (.assign (.const (.bool false)))] 3 none) []
  (.seq (.region 1 [o1 7 (.fieldAddr 34 (tm 3) 0 0), o1 8 (.load 3 none (tm 7)), o1 9 (.fieldAddr 34 (tm 4) 0 0), o1 10 (.load 3 none (tm 9)), o1 11 (.mm false [(tm 8), (tm 10)] [3, 3]), o1 12 (.fieldAddr 34 (tm 5) 0 0), o1 13 (.load 3 none (tm 12)), o1 14 (.binOp .leq 3 (tm 11) (tm 13) 3), mv 15 14, og 16 (.fieldAddr 34 (tm 5) 0 0) 15 true, og 17 (.load 3 none (tm 16)) 15 true, og 18 (.fieldAddr 34 (tm 3) 0 0) 15 true, og 19 (.load 3 none (tm 18)) 15 true, og 20 (.fieldAddr 34 (tm 4) 0 0) 15 true, og 21 (.load 3 none (tm 20)) 15 true, og 22 (.mm true [(tm 19), (tm 21)] [3, 3]) 15 true, og 23 (.binOp .leq 3 (tm 17) (tm 22) 3) 15 true, o1 24 (.pick (tm 15) (tm 23) (.const (.bool false))), mv 25 24, og 26 (.fieldAddr 34 (tm 3) 1 1) 25 true, og 27 (.load 3 none (tm 26)) 25 true, og 28 (.fieldAddr 34 (tm 4) 1 1) 25 true, og 29 (.load 3 none (tm 28)) 25 true, og 30 (.mm false [(tm 27), (tm 29)] [3, 3]) 25 true, og 31 (.fieldAddr 34 (tm 5) 1 1) 25 true, og 32 (.load 3 none (tm 31)) 25 true, og 33 (.binOp .leq 3 (tm 30) (tm 32) 3) 25 true, o1 34 (.pick (tm 25) (tm 33) (.const (.bool false))), mv 35 34, og 36 (.fieldAddr 34 (tm 5) 1 1) 35 true, og 37 (.load 3 none (tm 36)) 35 true, og 38 (.fieldAddr 34 (tm 3) 1 1) 35 true, og 39 (.load 3 none (tm 38)) 35 true, og 40 (.fieldAddr 34 (tm 4) 1 1) 35 true, og 41 (.load 3 none (tm 40)) 35 true, og 42 (.mm true [(tm 39), (tm 41)] [3, 3]) 35 true, og 43 (.binOp .leq 3 (tm 37) (tm 42) 3) 35 true, o1 44 (.pick (tm 35) (tm 43) (.const (.bool false))), o1 6 (.assign (tm 44))] 0 none) []
  (.ret (rl 0 6 (rl 7 38 [])))))⟩
def D87 {ρ : Type} (fuel : Nat) (x1 : Int) (x2 : Int) (x3 : Int) (x4 : Int) (x5 : Int) (x6 : Int) (k : Bool → Option ρ) : Option ρ :=
  (bif ((decide ((if x3 < x1 then x3 else x1) ≤ x5)) == true) then (bif ((decide (x5 ≤ (if x3 > x1 then x3 else x1))) == true) then (bif ((decide ((if x4 < x2 then x4 else x2) ≤ x6)) == true) then (k (decide (x6 ≤ (if x4 > x2 then x4 else x2)))) else (k false)) else (k false)) else (k false))
def F87 (fuel : Nat) (x1 : Int) (x2 : Int) (x3 : Int) (x4 : Int) (x5 : Int) (x6 : Int) : Option (Bool) := D87 fuel x1 x2 x3 x4 x5 x6 some
theorem n87 {ρ σ : Type} (fuel : Nat) (x1 : Int) (x2 : Int) (x3 : Int) (x4 : Int) (x5 : Int) (x6 : Int) (k : (Bool) → Option ρ) (g : ρ → Option σ) : ob (D87 fuel x1 x2 x3 x4 x5 x6 k) g = D87 fuel x1 x2 x3 x4 x5 x6 fun t => ob (k t) g := by
  simp only [D87, ob_bif, ob_ob, ob_none]
theorem f87 {ρ : Type} (fuel : Nat) (x1 : Int) (x2 : Int) (x3 : Int) (x4 : Int) (x5 : Int) (x6 : Int) (k : (Bool) → Option ρ) : D87 fuel x1 x2 x3 x4 x5 x6 k = ob (F87 fuel x1 x2 x3 x4 x5 x6) k := by
  unfold F87
  rw [n87]
  simp only [ob_some]
theorem walk87 (fuel : Nat) (x1 : Int) (x2 : Int) (x3 : Int) (x4 : Int) (x5 : Int) (x6 : Int) :
    evalF (C5 fuel) fuel A87 [.agg [(.i .i64 x1), (.i .i64 x2)], .agg [(.i .i64 x3), (.i .i64 x4)], .agg [(.i .i64 x5), (.i .i64 x6)]] =
    (bif ((decide ((if x3 < x1 then x3 else x1) ≤ x5)) == true) then (bif ((decide (x5 ≤ (if x3 > x1 then x3 else x1))) == true) then (bif ((decide ((if x4 < x2 then x4 else x2) ≤ x6)) == true) then (some [.v (.b (decide (x6 ≤ (if x4 > x2 then x4 else x2))))]) else (some [.v (.b false)])) else (some [.v (.b false)])) else (some [.v (.b false)])) := by kernel_rfl
theorem e87 (fuel : Nat) (x1 : Int) (x2 : Int) (x3 : Int) (x4 : Int) (x5 : Int) (x6 : Int) : evalF (C5 fuel) fuel A87 [.agg [(.i .i64 x1), (.i .i64 x2)], .agg [(.i .i64 x3), (.i .i64 x4)], .agg [(.i .i64 x5), (.i .i64 x6)]] = ob (F87 fuel x1 x2 x3 x4 x5 x6) fun t => some [.v (.b t)] := by
  rw [walk87, ← f87]
  simp only [D87]
def O87 (fuel : Nat) : Ora where
  o := fun args {ρ} K =>
    wc args fun a1 l2 =>
    wagg a1 fun l3 =>
    wc l3 fun c4 l5 =>
    wI .i64 c4 fun y6 =>
    wc l5 fun c8 l9 =>
    wI .i64 c8 fun y10 =>
    wn l9 <|
    wc l2 fun a12 l13 =>
    wagg a12 fun l14 =>
    wc l14 fun c15 l16 =>
    wI .i64 c15 fun y17 =>
    wc l16 fun c19 l20 =>
    wI .i64 c19 fun y21 =>
    wn l20 <|
    wc l13 fun a23 l24 =>
    wagg a23 fun l25 =>
    wc l25 fun c26 l27 =>
    wI .i64 c26 fun y28 =>
    wc l27 fun c30 l31 =>
    wI .i64 c30 fun y32 =>
    wn l31 <|
    wn l24 <|
    (ob (F87 fuel y6 y10 y17 y21 y28 y32) fun t => K [.v (.b t)])
  nat := fun args {ρ} K => by
    simp only [bind_wc, bind_wn, bind_wv, bind_wagg, bind_wI, bind_wB, bind_wS, bind_wL, bind_wP, bind_wFn, bind_ob, Option.bind_some]
theorem d87 {P : Program} (fuel : Nat) (hmix : P.follows .mixedOrders = true) (hC : Sound P (C5 fuel)) (hF : FFits P 87 A87) (args res : List A) (h : (O87 fuel).o args some = some res) : Den P 87 args res := by
  obtain ⟨a1, l2, rfl, z0⟩ := inv_wc h
  obtain ⟨l3, rfl, z1⟩ := inv_wagg z0
  obtain ⟨c4, l5, rfl, z2⟩ := inv_wc z1
  obtain ⟨y6, h7, z3⟩ := inv_wI z2
  obtain ⟨c8, l9, rfl, z4⟩ := inv_wc z3
  obtain ⟨y10, h11, z5⟩ := inv_wI z4
  obtain ⟨hn, z6⟩ := inv_wn z5
  cases hn
  obtain ⟨a12, l13, rfl, z7⟩ := inv_wc z6
  obtain ⟨l14, rfl, z8⟩ := inv_wagg z7
  obtain ⟨c15, l16, rfl, z9⟩ := inv_wc z8
  obtain ⟨y17, h18, z10⟩ := inv_wI z9
  obtain ⟨c19, l20, rfl, z11⟩ := inv_wc z10
  obtain ⟨y21, h22, z12⟩ := inv_wI z11
  obtain ⟨hn, z13⟩ := inv_wn z12
  cases hn
  obtain ⟨a23, l24, rfl, z14⟩ := inv_wc z13
  obtain ⟨l25, rfl, z15⟩ := inv_wagg z14
  obtain ⟨c26, l27, rfl, z16⟩ := inv_wc z15
  obtain ⟨y28, h29, z17⟩ := inv_wI z16
  obtain ⟨c30, l31, rfl, z18⟩ := inv_wc z17
  obtain ⟨y32, h33, z19⟩ := inv_wI z18
  obtain ⟨hn, z20⟩ := inv_wn z19
  cases hn
  obtain ⟨hn, z21⟩ := inv_wn z20
  cases hn
  exact Den.weaken (.cons (WkA.agg (.cons (Wk.i h7) (.cons (Wk.i h11) .nil))) (.cons (WkA.agg (.cons (Wk.i h18) (.cons (Wk.i h22) .nil))) (.cons (WkA.agg (.cons (Wk.i h29) (.cons (Wk.i h33) .nil))) .nil))) (evalF_sound hmix hC hF ((e87 fuel y6 y10 y17 y21 y28 y32).trans z21))
def C6 (fuel : Nat) : Oracle := (C5 fuel).add 87 (fun _ => true) (O87 fuel)
def A81 : AF := ⟨18, [.tmp 6],
  (.seq (.region 0 [o1 3 (.box 0 34 (tm 0)), o1 4 (.box 1 34 (tm 1)), o1 5 (.box 2 34 (tm 2)), o1 6 (.assign (.const (.bool false)))] 3 none) []
  (.seq (.region 1 [o1 7 (.load 34 (some 2) (tm 3)), o1 8 (.load 34 (some 2) (tm 4)), o1 9 (.load 34 (some 2) (tm 5)), o1 10 (.call 79 [(tm 7), (tm 8), (tm 9)] [34, 34, 34] .snap), o1 11 (.binOp .eql 3 (tm 10) (ic 0) 3), mv 12 11, og 13 (.load 34 (some 2) (tm 3)) 12 true, og 14 (.load 34 (some 2) (tm 4)) 12 true, og 15 (.load 34 (some 2) (tm 5)) 12 true, og 16 (.call 87 [(tm 13), (tm 14), (tm 15)] [34, 34, 34] .snap) 12 true, o1 17 (.pick (tm 12) (tm 16) (.const (.bool false))), o1 6 (.assign (tm 17))] 0 none) []
  (.ret (rl 0 6 (rl 7 11 [])))))⟩
def D81 {ρ : Type} (fuel : Nat) (x1 : Int) (x2 : Int) (x3 : Int) (x4 : Int) (x5 : Int) (x6 : Int) (k : Bool → Option ρ) : Option ρ :=
  (ob (F79 fuel x1 x2 x3 x4 x5 x6) fun x7 => (bif ((x7 == 0) == true) then (ob (F87 fuel x1 x2 x3 x4 x5 x6) fun x8 => (k x8)) else (k false)))
def F81 (fuel : Nat) (x1 : Int) (x2 : Int) (x3 : Int) (x4 : Int) (x5 : Int) (x6 : Int) : Option (Bool) := D81 fuel x1 x2 x3 x4 x5 x6 some
theorem n81 {ρ σ : Type} (fuel : Nat) (x1 : Int) (x2 : Int) (x3 : Int) (x4 : Int) (x5 : Int) (x6 : Int) (k : (Bool) → Option ρ) (g : ρ → Option σ) : ob (D81 fuel x1 x2 x3 x4 x5 x6 k) g = D81 fuel x1 x2 x3 x4 x5 x6 fun t => ob (k t) g := by
  simp only [D81, ob_bif, ob_ob, ob_none]
theorem f81 {ρ : Type} (fuel : Nat) (x1 : Int) (x2 : Int) (x3 : Int) (x4 : Int) (x5 : Int) (x6 : Int) (k : (Bool) → Option ρ) : D81 fuel x1 x2 x3 x4 x5 x6 k = ob (F81 fuel x1 x2 x3 x4 x5 x6) k := by
  unfold F81
  rw [n81]
  simp only [ob_some]
theorem walk81 (fuel : Nat) (x1 : Int) (x2 : Int) (x3 : Int) (x4 : Int) (x5 : Int) (x6 : Int) :
    evalF (C6 fuel) fuel A81 [.agg [(.i .i64 x1), (.i .i64 x2)], .agg [(.i .i64 x3), (.i .i64 x4)], .agg [(.i .i64 x5), (.i .i64 x6)]] =
    (ob (F79 fuel x1 x2 x3 x4 x5 x6) fun x7 => (bif ((x7 == 0) == true) then (ob (F87 fuel x1 x2 x3 x4 x5 x6) fun x8 => (some [.v (.b x8)])) else (some [.v (.b false)]))) := by kernel_rfl
theorem e81 (fuel : Nat) (x1 : Int) (x2 : Int) (x3 : Int) (x4 : Int) (x5 : Int) (x6 : Int) : evalF (C6 fuel) fuel A81 [.agg [(.i .i64 x1), (.i .i64 x2)], .agg [(.i .i64 x3), (.i .i64 x4)], .agg [(.i .i64 x5), (.i .i64 x6)]] = ob (F81 fuel x1 x2 x3 x4 x5 x6) fun t => some [.v (.b t)] := by
  rw [walk81, ← f81]
  simp only [D81]
def O81 (fuel : Nat) : Ora where
  o := fun args {ρ} K =>
    wc args fun a1 l2 =>
    wagg a1 fun l3 =>
    wc l3 fun c4 l5 =>
    wI .i64 c4 fun y6 =>
    wc l5 fun c8 l9 =>
    wI .i64 c8 fun y10 =>
    wn l9 <|
    wc l2 fun a12 l13 =>
    wagg a12 fun l14 =>
    wc l14 fun c15 l16 =>
    wI .i64 c15 fun y17 =>
    wc l16 fun c19 l20 =>
    wI .i64 c19 fun y21 =>
    wn l20 <|
    wc l13 fun a23 l24 =>
    wagg a23 fun l25 =>
    wc l25 fun c26 l27 =>
    wI .i64 c26 fun y28 =>
    wc l27 fun c30 l31 =>
    wI .i64 c30 fun y32 =>
    wn l31 <|
    wn l24 <|
    (ob (F81 fuel y6 y10 y17 y21 y28 y32) fun t => K [.v (.b t)])
  nat := fun args {ρ} K => by
    simp only [bind_wc, bind_wn, bind_wv, bind_wagg, bind_wI, bind_wB, bind_wS, bind_wL, bind_wP, bind_wFn, bind_ob, Option.bind_some]
theorem d81 {P : Program} (fuel : Nat) (hmix : P.follows .mixedOrders = true) (hC : Sound P (C6 fuel)) (hF : FFits P 81 A81) (args res : List A) (h : (O81 fuel).o args some = some res) : Den P 81 args res := by
  obtain ⟨a1, l2, rfl, z0⟩ := inv_wc h
  obtain ⟨l3, rfl, z1⟩ := inv_wagg z0
  obtain ⟨c4, l5, rfl, z2⟩ := inv_wc z1
  obtain ⟨y6, h7, z3⟩ := inv_wI z2
  obtain ⟨c8, l9, rfl, z4⟩ := inv_wc z3
  obtain ⟨y10, h11, z5⟩ := inv_wI z4
  obtain ⟨hn, z6⟩ := inv_wn z5
  cases hn
  obtain ⟨a12, l13, rfl, z7⟩ := inv_wc z6
  obtain ⟨l14, rfl, z8⟩ := inv_wagg z7
  obtain ⟨c15, l16, rfl, z9⟩ := inv_wc z8
  obtain ⟨y17, h18, z10⟩ := inv_wI z9
  obtain ⟨c19, l20, rfl, z11⟩ := inv_wc z10
  obtain ⟨y21, h22, z12⟩ := inv_wI z11
  obtain ⟨hn, z13⟩ := inv_wn z12
  cases hn
  obtain ⟨a23, l24, rfl, z14⟩ := inv_wc z13
  obtain ⟨l25, rfl, z15⟩ := inv_wagg z14
  obtain ⟨c26, l27, rfl, z16⟩ := inv_wc z15
  obtain ⟨y28, h29, z17⟩ := inv_wI z16
  obtain ⟨c30, l31, rfl, z18⟩ := inv_wc z17
  obtain ⟨y32, h33, z19⟩ := inv_wI z18
  obtain ⟨hn, z20⟩ := inv_wn z19
  cases hn
  obtain ⟨hn, z21⟩ := inv_wn z20
  cases hn
  exact Den.weaken (.cons (WkA.agg (.cons (Wk.i h7) (.cons (Wk.i h11) .nil))) (.cons (WkA.agg (.cons (Wk.i h18) (.cons (Wk.i h22) .nil))) (.cons (WkA.agg (.cons (Wk.i h29) (.cons (Wk.i h33) .nil))) .nil))) (evalF_sound hmix hC hF ((e81 fuel y6 y10 y17 y21 y28 y32).trans z21))
def C7 (fuel : Nat) : Oracle := (C6 fuel).add 81 (fun _ => true) (O81 fuel)
def A90 : AF := ⟨6, [.tmp 2],
  (.seq (.region 0 [o1 2 (.assign (.const (.bool false)))] 0 none) []
  (.seq (.region 1 [mv 3 0, mv 4 0, o1 5 (.binOp .neq 3 (tm 3) (tm 4) 3), o1 2 (.assign (tm 5))] 0 none) []
  (.ret [0, 1, 3, 4, 5])))⟩
def D90 {ρ : Type} (fuel : Nat) (x1 : Int) (k : Bool → Option ρ) : Option ρ :=
  (k (x1 != x1))
def F90 (fuel : Nat) (x1 : Int) : Option (Bool) := D90 fuel x1 some
theorem n90 {ρ σ : Type} (fuel : Nat) (x1 : Int) (k : (Bool) → Option ρ) (g : ρ → Option σ) : ob (D90 fuel x1 k) g = D90 fuel x1 fun t => ob (k t) g := by
  simp only [D90, ob_bif, ob_ob, ob_none]
theorem f90 {ρ : Type} (fuel : Nat) (x1 : Int) (k : (Bool) → Option ρ) : D90 fuel x1 k = ob (F90 fuel x1) k := by
  unfold F90
  rw [n90]
  simp only [ob_some]
theorem walk90 (fuel : Nat) (x1 : Int) :
    evalF (C7 fuel) fuel A90 [.v (.i .i64 x1)] =
    (some [.v (.b (x1 != x1))]) := by kernel_rfl
theorem e90 (fuel : Nat) (x1 : Int) : evalF (C7 fuel) fuel A90 [.v (.i .i64 x1)] = ob (F90 fuel x1) fun t => some [.v (.b t)] := by
  rw [walk90, ← f90]
  simp only [D90]
def O90 (fuel : Nat) : Ora where
  o := fun args {ρ} K =>
    wc args fun a1 l2 =>
    wv a1 fun c3 =>
    wI .i64 c3 fun y4 =>
    wn l2 <|
    (ob (F90 fuel y4) fun t => K [.v (.b t)])
  nat := fun args {ρ} K => by
    simp only [bind_wc, bind_wn, bind_wv, bind_wagg, bind_wI, bind_wB, bind_wS, bind_wL, bind_wP, bind_wFn, bind_ob, Option.bind_some]
theorem d90 {P : Program} (fuel : Nat) (hmix : P.follows .mixedOrders = true) (hC : Sound P (C7 fuel)) (hF : FFits P 90 A90) (args res : List A) (h : (O90 fuel).o args some = some res) : Den P 90 args res := by
  obtain ⟨a1, l2, rfl, z0⟩ := inv_wc h
  obtain ⟨c3, rfl, z1⟩ := inv_wv z0
  obtain ⟨y4, h5, z2⟩ := inv_wI z1
  obtain ⟨hn, z3⟩ := inv_wn z2
  cases hn
  exact Den.weaken (.cons (WkA.v (Wk.i h5)) .nil) (evalF_sound hmix hC hF ((e90 fuel y4).trans z3))
def C8 (fuel : Nat) : Oracle := (C7 fuel).add 90 (fun _ => true) (O90 fuel)
def A89v1 : AC := (.seq (.region 6 [o1 4 (.assign (ic (-1)))] 0 none) []
  (.ret (rl 0 4 (rl 5 15 []))))
def A89v2 : AC := (.seq (.region 13 [o1 4 (.assign (ic 0))] 0 none) []
  (.ret (rl 0 4 (rl 5 15 []))))
def A89v3 : AC := (.seq (.seq (.region 11 [mv 17 0, mv 18 1, o1 19 (.binOp .gtr 3 (tm 17) (tm 18) 3)] 0 none) []
  (.cond (tm 19)
  (.seq (.region 12 [o1 4 (.assign (ic 1))] 0 none) []
    (.ret (rl 0 4 (rl 5 15 []))))
  .skip)) [4, 17, 18, 19]
  A89v2)
def A89v4 : AC := (.seq (.seq (.region 9 [mv 14 0, mv 15 1, o1 16 (.binOp .lss 3 (tm 14) (tm 15) 3)] 0 none) []
  (.cond (tm 16)
  (.seq (.region 10 [o1 4 (.assign (ic (-1)))] 0 none) []
    (.ret (rl 0 4 (rl 5 15 []))))
  .skip)) [4, 14, 15, 16]
  A89v3)
def A89v5 : AC := (.seq (.seq (.region 7 [mv 13 6] 0 none) []
  (.cond (tm 13)
  (.seq (.region 8 [o1 4 (.assign (ic 1))] 0 none) []
    (.ret (rl 0 4 (rl 5 15 []))))
  .skip)) [4, 13]
  A89v4)
def A89 : AF := ⟨20, [.tmp 4],
  (.seq (.region 0 [o1 4 (.assign (ic 0))] 0 none) []
  (.seq (.region 1 [mv 7 0, o1 8 (.call 90 [(tm 7)] [3] .snap), o1 5 (.assign (tm 8))] 0 none) []
  (.seq (.region 2 [mv 9 1, o1 10 (.call 90 [(tm 9)] [3] .snap), o1 6 (.assign (tm 10))] 0 none) []
  (.seq (.seq (.region 3 [mv 11 5] 0 none) []
  (.cond (tm 11)
  (.seq (.seq (.region 4 [mv 12 6] 0 none) []
    (.cond (tm 12)
    (.seq (.region 5 [o1 4 (.assign (ic 0))] 0 none) []
      (.ret (rl 0 4 (rl 5 15 []))))
    .skip)) [4, 12]
    A89v1)
  .skip)) [4, 11, 12]
  A89v5))))⟩
def D89 {ρ : Type} (fuel : Nat) (x1 : Int) (x2 : Int) (k : Int → Option ρ) : Option ρ :=
  (ob (F90 fuel x1) fun x3 => (ob (F90 fuel x2) fun x4 => (bif x3 then (bif x4 then (k 0) else (k (-1))) else (bif x4 then (k 1) else (bif (decide (x1 < x2)) then (k (-1)) else (bif (decide (x1 > x2)) then (k 1) else (k 0)))))))
def F89 (fuel : Nat) (x1 : Int) (x2 : Int) : Option (Int) := D89 fuel x1 x2 some
theorem n89 {ρ σ : Type} (fuel : Nat) (x1 : Int) (x2 : Int) (k : (Int) → Option ρ) (g : ρ → Option σ) : ob (D89 fuel x1 x2 k) g = D89 fuel x1 x2 fun t => ob (k t) g := by
  simp only [D89, ob_bif, ob_ob, ob_none]
theorem f89 {ρ : Type} (fuel : Nat) (x1 : Int) (x2 : Int) (k : (Int) → Option ρ) : D89 fuel x1 x2 k = ob (F89 fuel x1 x2) k := by
  unfold F89
  rw [n89]
  simp only [ob_some]
theorem walk89 (fuel : Nat) (x1 : Int) (x2 : Int) :
    evalF (C8 fuel) fuel A89 [.v (.i .i64 x1), .v (.i .i64 x2)] =
    (ob (F90 fuel x1) fun x3 => (ob (F90 fuel x2) fun x4 => (bif x3 then (bif x4 then (some [.v (.i .i64 0)]) else (some [.v (.i .i64 (-1))])) else (bif x4 then (some [.v (.i .i64 1)]) else (bif (decide (x1 < x2)) then (some [.v (.i .i64 (-1))]) else (bif (decide (x1 > x2)) then (some [.v (.i .i64 1)]) else (some [.v (.i .i64 0)]))))))) := by kernel_rfl
theorem e89 (fuel : Nat) (x1 : Int) (x2 : Int) : evalF (C8 fuel) fuel A89 [.v (.i .i64 x1), .v (.i .i64 x2)] = ob (F89 fuel x1 x2) fun t => some [.v (.i .i64 t)] := by
  rw [walk89, ← f89]
  simp only [D89]
def O89 (fuel : Nat) : Ora where
  o := fun args {ρ} K =>
    wc args fun a1 l2 =>
    wv a1 fun c3 =>
    wI .i64 c3 fun y4 =>
    wc l2 fun a6 l7 =>
    wv a6 fun c8 =>
    wI .i64 c8 fun y9 =>
    wn l7 <|
    (ob (F89 fuel y4 y9) fun t => K [.v (.i .i64 t)])
  nat := fun args {ρ} K => by
    simp only [bind_wc, bind_wn, bind_wv, bind_wagg, bind_wI, bind_wB, bind_wS, bind_wL, bind_wP, bind_wFn, bind_ob, Option.bind_some]
theorem d89 {P : Program} (fuel : Nat) (hmix : P.follows .mixedOrders = true) (hC : Sound P (C8 fuel)) (hF : FFits P 89 A89) (args res : List A) (h : (O89 fuel).o args some = some res) : Den P 89 args res := by
  obtain ⟨a1, l2, rfl, z0⟩ := inv_wc h
  obtain ⟨c3, rfl, z1⟩ := inv_wv z0
  obtain ⟨y4, h5, z2⟩ := inv_wI z1
  obtain ⟨a6, l7, rfl, z3⟩ := inv_wc z2
  obtain ⟨c8, rfl, z4⟩ := inv_wv z3
  obtain ⟨y9, h10, z5⟩ := inv_wI z4
  obtain ⟨hn, z6⟩ := inv_wn z5
  cases hn
  exact Den.weaken (.cons (WkA.v (Wk.i h5)) (.cons (WkA.v (Wk.i h10)) .nil)) (evalF_sound hmix hC hF ((e89 fuel y4 y9).trans z6))
def C9 (fuel : Nat) : Oracle := (C8 fuel).add 89 (fun _ => true) (O89 fuel)
def A86 : AF := ⟨5, [.tmp 2],
  (.seq (.region 0 [o1 2 (.assign (ic 0))] 0 none) []
  (.seq (.region 1 [mv 3 0, o1 4 (.call 89 [(tm 3), (ic 0)] [3, 3] .snap), o1 2 (.assign (tm 4))] 0 none) []
  (.ret [0, 1, 3, 4])))⟩
def D86 {ρ : Type} (fuel : Nat) (x1 : Int) (k : Int → Option ρ) : Option ρ :=
  (ob (F89 fuel x1 0) fun x2 => (k x2))
def F86 (fuel : Nat) (x1 : Int) : Option (Int) := D86 fuel x1 some
theorem n86 {ρ σ : Type} (fuel : Nat) (x1 : Int) (k : (Int) → Option ρ) (g : ρ → Option σ) : ob (D86 fuel x1 k) g = D86 fuel x1 fun t => ob (k t) g := by
  simp only [D86, ob_bif, ob_ob, ob_none]
theorem f86 {ρ : Type} (fuel : Nat) (x1 : Int) (k : (Int) → Option ρ) : D86 fuel x1 k = ob (F86 fuel x1) k := by
  unfold F86
  rw [n86]
  simp only [ob_some]
theorem walk86 (fuel : Nat) (x1 : Int) :
    evalF (C9 fuel) fuel A86 [.v (.i .i64 x1)] =
    (ob (F89 fuel x1 0) fun x2 => (some [.v (.i .i64 x2)])) := by kernel_rfl
theorem e86 (fuel : Nat) (x1 : Int) : evalF (C9 fuel) fuel A86 [.v (.i .i64 x1)] = ob (F86 fuel x1) fun t => some [.v (.i .i64 t)] := by
  rw [walk86, ← f86]
  simp only [D86]
def O86 (fuel : Nat) : Ora where
  o := fun args {ρ} K =>
    wc args fun a1 l2 =>
    wv a1 fun c3 =>
    wI .i64 c3 fun y4 =>
    wn l2 <|
    (ob (F86 fuel y4) fun t => K [.v (.i .i64 t)])
  nat := fun args {ρ} K => by
    simp only [bind_wc, bind_wn, bind_wv, bind_wagg, bind_wI, bind_wB, bind_wS, bind_wL, bind_wP, bind_wFn, bind_ob, Option.bind_some]
theorem d86 {P : Program} (fuel : Nat) (hmix : P.follows .mixedOrders = true) (hC : Sound P (C9 fuel)) (hF : FFits P 86 A86) (args res : List A) (h : (O86 fuel).o args some = some res) : Den P 86 args res := by
  obtain ⟨a1, l2, rfl, z0⟩ := inv_wc h
  obtain ⟨c3, rfl, z1⟩ := inv_wv z0
  obtain ⟨y4, h5, z2⟩ := inv_wI z1
  obtain ⟨hn, z3⟩ := inv_wn z2
  cases hn
  exact Den.weaken (.cons (WkA.v (Wk.i h5)) .nil) (evalF_sound hmix hC hF ((e86 fuel y4).trans z3))
def C10 (fuel : Nat) : Oracle := (C9 fuel).add 86 (fun _ => true) (O86 fuel)
def A80v1 : AC := (.seq (.region 3 [o1 31 (.load 34 (some 2) (tm 4)), o1 32 (.load 34 (some 2) (tm 5)), o1 33 (.load 34 (some 2) (tm 6)), o1 34 (.call 79 [(tm 31), (tm 32), (tm 33)] [34, 34, 34] .snap), o1 35 (.call 86 [(tm 34)] [3] .snap), o1 36 (.load 34 (some 2) (tm 4)), o1 37 (.load 34 (some 2) (tm 5)), o1 38 (.load 34 (some 2) (tm 7)), o1 39 (.call 79 [(tm 36), (tm 37), (tm 38)] [34, 34, 34] .snap), o1 40 (.call 86 [(tm 39)] [3] .snap), o1 41 (.binOp .mul 3 (tm 35) (tm 40) 3), o1 42 (.binOp .lss 3 (tm 41) (ic 0) 3), mv 43 42, og 44 (.load 34 (some 2) (tm 6)) 43 true, og 45 (.load 34 (some 2) (tm 7)) 43 true, og 46 (.load 34 (some 2) (tm 4)) 43 true, og 47 (.call 79 [(tm 44), (tm 45), (tm 46)] [34, 34, 34] .snap) 43 true, og 48 (.call 86 [(tm 47)] [3] .snap) 43 true, og 49 (.load 34 (some 2) (tm 6)) 43 true, og 50 (.load 34 (some 2) (tm 7)) 43 true, og 51 (.load 34 (some 2) (tm 5)) 43 true, og 52 (.call 79 [(tm 49), (tm 50), (tm 51)] [34, 34, 34] .snap) 43 true, og 53 (.call 86 [(tm 52)] [3] .snap) 43 true, og 54 (.binOp .mul 3 (tm 48) (tm 53) 3) 43 true, og 55 (.binOp .lss 3 (tm 54) (ic 0) 3) 43 true, o1 56 (.pick (tm 43) (tm 55) (.const (.bool false))), o1 8 (.assign (tm 56))] 0 (some [[], [], [], [0, 1, 2], (rl 0 4 []), [], [], [], (rl 0 8 []), (rl 0 9 []), (rl 0 10 []), (rl 0 11 []), (rl 0 12 []), (rl 0 13 []), (rl 0 13 []), (rl 0 13 []), (rl 0 16 []), (rl 0 17 []), (rl 0 13 []), (rl 0 13 []), (rl 0 13 []), (rl 0 21 []), (rl 0 22 []), (rl 0 23 []), (rl 0 24 []), (rl 0 25 []), (rl 0 26 [])])) []
  (.ret (rl 0 8 (rl 9 48 []))))
def A80 : AF := ⟨57, [.tmp 8],
  (.seq (.region 0 [o1 4 (.box 0 34 (tm 0)), o1 5 (.box 1 34 (tm 1)), o1 6 (.box 2 34 (tm 2)), o1 7 (.box 3 34 (tm 3)), o1 8 (.assign (.const (.bool false)))] 4 none) []
  (.seq (.seq (.region 1 [o1 9 (.load 34 (some 2) (tm 4)), o1 10 (.load 34 (some 2) (tm 5)), o1 11 (.load 34 (some 2) (tm 6)), o1 12 (.call 81 [(tm 9), (tm 10), (tm 11)] [34, 34, 34] .snap), mv 13 12, og 14 (.load 34 (some 2) (tm 4)) 13 false, og 15 (.load 34 (some 2) (tm 5)) 13 false, og 16 (.load 34 (some 2) (tm 7)) 13 false, og 17 (.call 81 [(tm 14), (tm 15), (tm 16)] [34, 34, 34] .snap) 13 false, o1 18 (.pick (tm 13) (.const (.bool true)) (tm 17)), mv 19 18, og 20 (.load 34 (some 2) (tm 6)) 19 false, og 21 (.load 34 (some 2) (tm 7)) 19 false, og 22 (.load 34 (some 2) (tm 4)) 19 false, og 23 (.call 81 [(tm 20), (tm 21), (tm 22)] [34, 34, 34] .snap) 19 false, o1 24 (.pick (tm 19) (.const (.bool true)) (tm 23)), mv 25 24, og 26 (.load 34 (some 2) (tm 6)) 25 false, og 27 (.load 34 (some 2) (tm 7)) 25 false, og 28 (.load 34 (some 2) (tm 5)) 25 false, og 29 (.call 81 [(tm 26), (tm 27), (tm 28)] [34, 34, 34] .snap) 25 false, o1 30 (.pick (tm 25) (.const (.bool true)) (tm 29))] 0 none) []
  (.cond (tm 30)
  (.seq (.region 2 [o1 8 (.assign (.const (.bool true)))] 0 none) []
    (.ret (rl 0 8 (rl 9 48 []))))
  .skip)) (rl 8 23 [])
  A80v1))⟩
def D80 {ρ : Type} (fuel : Nat) (x1 : Int) (x2 : Int) (x3 : Int) (x4 : Int) (x5 : Int) (x6 : Int) (x7 : Int) (x8 : Int) (k : Bool → Option ρ) : Option ρ :=
  (ob (F81 fuel x1 x2 x3 x4 x5 x6) fun x9 => (bif (x9 == false) then (ob (F81 fuel x1 x2 x3 x4 x7 x8) fun x10 => (bif (x10 == false) then (ob (F81 fuel x5 x6 x7 x8 x1 x2) fun x11 => (bif (x11 == false) then (ob (F81 fuel x5 x6 x7 x8 x3 x4) fun x12 => (bif x12 then (k true) else (ob (F79 fuel x1 x2 x3 x4 x5 x6) fun x13 => (ob (F86 fuel x13) fun x14 => (ob (F79 fuel x1 x2 x3 x4 x7 x8) fun x15 => (ob (F86 fuel x15) fun x16 => (bif ((decide ((w64 (x14 * x16)) < 0)) == true) then (ob (F79 fuel x5 x6 x7 x8 x1 x2) fun x17 => (ob (F86 fuel x17) fun x18 => (ob (F79 fuel x5 x6 x7 x8 x3 x4) fun x19 => (ob (F86 fuel x19) fun x20 => (k (decide ((w64 (x18 * x20)) < 0))))))) else (k false)))))))) else (k true))) else (k true))) else (k true)))
def F80 (fuel : Nat) (x1 : Int) (x2 : Int) (x3 : Int) (x4 : Int) (x5 : Int) (x6 : Int) (x7 : Int) (x8 : Int) : Option (Bool) := D80 fuel x1 x2 x3 x4 x5 x6 x7 x8 some
theorem n80 {ρ σ : Type} (fuel : Nat) (x1 : Int) (x2 : Int) (x3 : Int) (x4 : Int) (x5 : Int) (x6 : Int) (x7 : Int) (x8 : Int) (k : (Bool) → Option ρ) (g : ρ → Option σ) : ob (D80 fuel x1 x2 x3 x4 x5 x6 x7 x8 k) g = D80 fuel x1 x2 x3 x4 x5 x6 x7 x8 fun t => ob (k t) g := by
  simp only [D80, ob_bif, ob_ob, ob_none]
theorem f80 {ρ : Type} (fuel : Nat) (x1 : Int) (x2 : Int) (x3 : Int) (x4 : Int) (x5 : Int) (x6 : Int) (x7 : Int) (x8 : Int) (k : (Bool) → Option ρ) : D80 fuel x1 x2 x3 x4 x5 x6 x7 x8 k = ob (F80 fuel x1 x2 x3 x4 x5 x6 x7 x8) k := by
  unfold F80
  rw [n80]
  simp only [ob_some]
theorem walk80 (fuel : Nat) (x1 : Int) (x2 : Int) (x3 : Int) (x4 : Int) (x5 : Int) (x6 : Int) (x7 : Int) (x8 : Int) :
    evalF (C10 fuel) fuel A80 [.agg [(.i .i64 x1), (.i .i64 x2)], .agg [(.i .i64 x3), (.i .i64 x4)], .agg [(.i .i64 x5), (.i .i64 x6)], .agg [(.i .i64 x7), (.i .i64 x8)]] =
    (ob (F81 fuel x1 x2 x3 x4 x5 x6) fun x9 => (bif (x9 == false) then (ob (F81 fuel x1 x2 x3 x4 x7 x8) fun x10 => (bif (x10 == false) then (ob (F81 fuel x5 x6 x7 x8 x1 x2) fun x11 => (bif (x11 == false) then (ob (F81 fuel x5 x6 x7 x8 x3 x4) fun x12 => (bif x12 then (some [.v (.b true)]) else (ob (F79 fuel x1 x2 x3 x4 x5 x6) fun x13 => (ob (F86 fuel x13) fun x14 => (ob (F79 fuel x1 x2 x3 x4 x7 x8) fun x15 => (ob (F86 fuel x15) fun x16 => (bif ((decide ((w64 (x14 * x16)) < 0)) == true) then (ob (F79 fuel x5 x6 x7 x8 x1 x2) fun x17 => (ob (F86 fuel x17) fun x18 => (ob (F79 fuel x5 x6 x7 x8 x3 x4) fun x19 => (ob (F86 fuel x19) fun x20 => (some [.v (.b (decide ((w64 (x18 * x20)) < 0)))]))))) else (some [.v (.b false)])))))))) else (some [.v (.b true)]))) else (some [.v (.b true)]))) else (some [.v (.b true)]))) := by kernel_rfl
theorem e80 (fuel : Nat) (x1 : Int) (x2 : Int) (x3 : Int) (x4 : Int) (x5 : Int) (x6 : Int) (x7 : Int) (x8 : Int) : evalF (C10 fuel) fuel A80 [.agg [(.i .i64 x1), (.i .i64 x2)], .agg [(.i .i64 x3), (.i .i64 x4)], .agg [(.i .i64 x5), (.i .i64 x6)], .agg [(.i .i64 x7), (.i .i64 x8)]] = ob (F80 fuel x1 x2 x3 x4 x5 x6 x7 x8) fun t => some [.v (.b t)] := by
  rw [walk80, ← f80]
  simp only [D80]
def O80 (fuel : Nat) : Ora where
  o := fun args {ρ} K =>
    wc args fun a1 l2 =>
    wagg a1 fun l3 =>
    wc l3 fun c4 l5 =>
    wI .i64 c4 fun y6 =>
    wc l5 fun c8 l9 =>
    wI .i64 c8 fun y10 =>
    wn l9 <|
    wc l2 fun a12 l13 =>
    wagg a12 fun l14 =>
    wc l14 fun c15 l16 =>
    wI .i64 c15 fun y17 =>
    wc l16 fun c19 l20 =>
    wI .i64 c19 fun y21 =>
    wn l20 <|
    wc l13 fun a23 l24 =>
    wagg a23 fun l25 =>
    wc l25 fun c26 l27 =>
    wI .i64 c26 fun y28 =>
    wc l27 fun c30 l31 =>
    wI .i64 c30 fun y32 =>
    wn l31 <|
    wc l24 fun a34 l35 =>
    wagg a34 fun l36 =>
    wc l36 fun c37 l38 =>
    wI .i64 c37 fun y39 =>
    wc l38 fun c41 l42 =>
    wI .i64 c41 fun y43 =>
    wn l42 <|
    wn l35 <|
    (ob (F80 fuel y6 y10 y17 y21 y28 y32 y39 y43) fun t => K [.v (.b t)])
  nat := fun args {ρ} K => by
    simp only [bind_wc, bind_wn, bind_wv, bind_wagg, bind_wI, bind_wB, bind_wS, bind_wL, bind_wP, bind_wFn, bind_ob, Option.bind_some]
theorem d80 {P : Program} (fuel : Nat) (hmix : P.follows .mixedOrders = true) (hC : Sound P (C10 fuel)) (hF : FFits P 80 A80) (args res : List A) (h : (O80 fuel).o args some = some res) : Den P 80 args res := by
  obtain ⟨a1, l2, rfl, z0⟩ := inv_wc h
  obtain ⟨l3, rfl, z1⟩ := inv_wagg z0
  obtain ⟨c4, l5, rfl, z2⟩ := inv_wc z1
  obtain ⟨y6, h7, z3⟩ := inv_wI z2
  obtain ⟨c8, l9, rfl, z4⟩ := inv_wc z3
  obtain ⟨y10, h11, z5⟩ := inv_wI z4
  obtain ⟨hn, z6⟩ := inv_wn z5
  cases hn
  obtain ⟨a12, l13, rfl, z7⟩ := inv_wc z6
  obtain ⟨l14, rfl, z8⟩ := inv_wagg z7
  obtain ⟨c15, l16, rfl, z9⟩ := inv_wc z8
  obtain ⟨y17, h18, z10⟩ := inv_wI z9
  obtain ⟨c19, l20, rfl, z11⟩ := inv_wc z10
  obtain ⟨y21, h22, z12⟩ := inv_wI z11
  obtain ⟨hn, z13⟩ := inv_wn z12
  cases hn
  obtain ⟨a23, l24, rfl, z14⟩ := inv_wc z13
  obtain ⟨l25, rfl, z15⟩ := inv_wagg z14
  obtain ⟨c26, l27, rfl, z16⟩ := inv_wc z15
  obtain ⟨y28, h29, z17⟩ := inv_wI z16
  obtain ⟨c30, l31, rfl, z18⟩ := inv_wc z17
  obtain ⟨y32, h33, z19⟩ := inv_wI z18
  obtain ⟨hn, z20⟩ := inv_wn z19
  cases hn
  obtain ⟨a34, l35, rfl, z21⟩ := inv_wc z20
  obtain ⟨l36, rfl, z22⟩ := inv_wagg z21
  obtain ⟨c37, l38, rfl, z23⟩ := inv_wc z22
  obtain ⟨y39, h40, z24⟩ := inv_wI z23
  obtain ⟨c41, l42, rfl, z25⟩ := inv_wc z24
  obtain ⟨y43, h44, z26⟩ := inv_wI z25
  obtain ⟨hn, z27⟩ := inv_wn z26
  cases hn
  obtain ⟨hn, z28⟩ := inv_wn z27
  cases hn
  exact Den.weaken (.cons (WkA.agg (.cons (Wk.i h7) (.cons (Wk.i h11) .nil))) (.cons (WkA.agg (.cons (Wk.i h18) (.cons (Wk.i h22) .nil))) (.cons (WkA.agg (.cons (Wk.i h29) (.cons (Wk.i h33) .nil))) (.cons (WkA.agg (.cons (Wk.i h40) (.cons (Wk.i h44) .nil))) .nil)))) (evalF_sound hmix hC hF ((e80 fuel y6 y10 y17 y21 y28 y32 y39 y43).trans z28))
def C11 (fuel : Nat) : Oracle := (C10 fuel).add 80 (fun _ => true) (O80 fuel)
def A62v1 : AC := (.region 13 [mv 73 8, o1 74 (.binOp .add 3 (tm 73) (ic 1) 3), o1 8 (.assign (tm 74))] 0 none)
def A62v2 : AC := (.seq (.block 3
  (.seq (.region 14 [mv 75 8, o1 76 (.binOp .add 3 (tm 75) (ic 1) 3), mv 77 3, o1 78 (.binOp .rem 3 (tm 76) (tm 77) 3), mv 79 4, o1 80 (.binOp .neq 3 (tm 78) (tm 79) 3), mv 81 80, og 82 (.load 34 (some 2) (tm 5)) 81 true, og 83 (.load 34 (some 2) (tm 6)) 81 true, og 84 (.move (tm 0)) 81 true, og 85 (.move (tm 8)) 81 true, og 86 (.indexAddr 22 34 2 (tm 84) (tm 85)) 81 true, og 87 (.load 34 (some 2) (tm 86)) 81 true, og 88 (.move (tm 0)) 81 true, og 89 (.move (tm 8)) 81 true, og 90 (.binOp .add 3 (tm 89) (ic 1) 3) 81 true, og 91 (.move (tm 3)) 81 true, og 92 (.binOp .rem 3 (tm 90) (tm 91) 3) 81 true, og 93 (.indexAddr 22 34 2 (tm 88) (tm 92)) 81 true, og 94 (.load 34 (some 2) (tm 93)) 81 true, og 95 (.call 80 [(tm 82), (tm 83), (tm 87), (tm 94)] [34, 34, 34, 34] .snap) 81 true, o1 96 (.pick (tm 81) (tm 95) (.const (.bool false)))] 0 (some [[], [0], [], [0, 1, 2], [], (rl 0 5 []), (rl 0 6 []), (rl 0 7 []), (rl 0 7 []), (rl 0 7 []), (rl 0 7 []), (rl 0 7 [9, 10]), (rl 0 7 [9, 10, 11]), (rl 0 7 []), (rl 0 7 []), (rl 0 7 [14]), (rl 0 7 []), (rl 0 7 [14, 15, 16]), (rl 0 7 (rl 13 5 [])), (rl 0 7 (rl 13 6 [])), (rl 0 20 []), (rl 0 21 [])])) []
    (.cond (tm 96)
    (.seq (.region 15 [o1 2 (.assign (.const (.bool false)))] 0 none) []
      (.ret (0 :: 1 :: (rl 3 95 []))))
    .skip))) (2 :: (rl 75 22 []))
  A62v1)
def A62v3 : AC := (.seq (.seq (.region 12 [mv 70 8, mv 71 3, o1 72 (.binOp .lss 3 (tm 70) (tm 71) 3)] 0 none) []
  (.cond (tm 72)
  .skip
  (.exit 2 (1 :: 2 :: (rl 4 8 (rl 14 84 [])))))) [70, 71, 72]
  A62v2)
def A62v4 : AC := (.seq (.region 11 [mv 68 4, o1 69 (.binOp .add 3 (tm 68) (ic 2) 3), o1 8 (.assign (tm 69))] 0 none) []
  (.block 2
  (.loop [] (1 :: 2 :: 7 :: 9 :: 10 :: 11 :: (rl 14 84 []))
    A62v3)))
def A62v5 : AC := (.seq (.region 8 [mv 30 0, mv 31 4, o1 32 (.binOp .add 3 (tm 31) (ic 2) 3), mv 33 3, o1 34 (.binOp .rem 3 (tm 32) (tm 33) 3), o1 35 (.indexAddr 22 34 2 (tm 30) (tm 34)), o1 36 (.load 34 (some 2) (tm 35)), o1 7 (.alloc 0 34 [.c (.i .i64 0), .c (.i .i64 0)]), o0 (.store 34 2 (tm 7) (tm 36))] 1 none) []
  (.seq (.seq (.region 9 [o1 37 (.load 34 (some 2) (tm 5)), o1 38 (.load 34 (some 2) (tm 6)), o1 39 (.load 34 (some 2) (tm 7)), o1 40 (.call 79 [(tm 37), (tm 38), (tm 39)] [34, 34, 34] .snap), o1 41 (.binOp .eql 3 (tm 40) (ic 0) 3), mv 42 41, og 43 (.fieldAddr 34 (tm 5) 0 0) 42 true, og 44 (.load 3 none (tm 43)) 42 true, og 45 (.fieldAddr 34 (tm 6) 0 0) 42 true, og 46 (.load 3 none (tm 45)) 42 true, og 47 (.binOp .sub 3 (tm 44) (tm 46) 3) 42 true, og 48 (.fieldAddr 34 (tm 7) 0 0) 42 true, og 49 (.load 3 none (tm 48)) 42 true, og 50 (.fieldAddr 34 (tm 6) 0 0) 42 true, og 51 (.load 3 none (tm 50)) 42 true, og 52 (.binOp .sub 3 (tm 49) (tm 51) 3) 42 true, og 53 (.binOp .mul 3 (tm 47) (tm 52) 3) 42 true, og 54 (.fieldAddr 34 (tm 5) 1 1) 42 true, og 55 (.load 3 none (tm 54)) 42 true, og 56 (.fieldAddr 34 (tm 6) 1 1) 42 true, og 57 (.load 3 none (tm 56)) 42 true, og 58 (.binOp .sub 3 (tm 55) (tm 57) 3) 42 true, og 59 (.fieldAddr 34 (tm 7) 1 1) 42 true, og 60 (.load 3 none (tm 59)) 42 true, og 61 (.fieldAddr 34 (tm 6) 1 1) 42 true, og 62 (.load 3 none (tm 61)) 42 true, og 63 (.binOp .sub 3 (tm 60) (tm 62) 3) 42 true, og 64 (.binOp .mul 3 (tm 58) (tm 63) 3) 42 true, og 65 (.binOp .add 3 (tm 53) (tm 64) 3) 42 true, og 66 (.binOp .gtr 3 (tm 65) (ic 0) 3) 42 true, o1 67 (.pick (tm 42) (tm 66) (.const (.bool false)))] 0 none) []
  (.cond (tm 67)
  (.seq (.region 10 [o1 2 (.assign (.const (.bool false)))] 0 none) []
    (.ret (0 :: 1 :: (rl 3 95 []))))
  .skip)) (2 :: (rl 37 31 []))
  A62v4))
def A62v6 : AC := (.region 16 [o1 97 (.binOp .add 3 (tm 13) (ic 1) 3), mv 13 97] 0 none)
def A62v7 : AC := (.seq (.block 1
  (.seq (.region 4 [mv 15 13, o1 4 (.assign (tm 15))] 0 none) []
    (.seq (.region 5 [mv 16 0, mv 17 4, o1 18 (.indexAddr 22 34 2 (tm 16) (tm 17)), o1 19 (.load 34 (some 2) (tm 18)), mv 20 0, mv 21 4, o1 22 (.binOp .add 3 (tm 21) (ic 1) 3), mv 23 3, o1 24 (.binOp .rem 3 (tm 22) (tm 23) 3), o1 25 (.indexAddr 22 34 2 (tm 20) (tm 24)), o1 26 (.load 34 (some 2) (tm 25)), o1 5 (.alloc 0 34 [.c (.i .i64 0), .c (.i .i64 0)]), o1 6 (.alloc 1 34 [.c (.i .i64 0), .c (.i .i64 0)]), o0 (.store 34 2 (tm 5) (tm 19)), o0 (.store 34 2 (tm 6) (tm 26))] 2 (some [[], [], [0, 1], [0, 1, 2], [], [], [5], [], [5, 6, 7], (rl 4 5 []), (rl 4 6 []), [], [], (rl 0 4 [11, 12]), (rl 0 14 [])])) []
    (.seq (.seq (.region 6 [o1 27 (.load 34 (some 2) (tm 5)), o1 28 (.load 34 (some 2) (tm 6)), o1 29 (.eqA false (.pr (.int .i64) (.pr (.int .i64) .nil)) 34 (tm 27) (tm 28) 34)] 0 none) []
    (.cond (tm 29)
    (.seq (.region 7 [o1 2 (.assign (.const (.bool false)))] 0 none) []
      (.ret (0 :: 1 :: (rl 3 95 []))))
    .skip)) [2, 27, 28, 29]
    A62v5)))) (2 :: (rl 4 5 (rl 15 82 [])))
  A62v6)
def A62v8 : AC := (.seq (.region 3 [o1 14 (.binOp .lss 3 (tm 13) (tm 12) 3)] 0 none) []
  (.seq (.cond (tm 14)
  .skip
  (.exit 0 (rl 0 98 []))) []
  A62v7))
def A62v9 : AC := (.seq (.region 17 [o1 2 (.assign (.const (.bool true)))] 0 none) []
  (.ret (0 :: 1 :: (rl 3 95 []))))
def A62 : AF := ⟨98, [.tmp 2],
  (.seq (.region 0 [o1 2 (.assign (.const (.bool false)))] 0 none) []
  (.seq (.region 1 [mv 9 0, o1 10 (.len 22 false (tm 9)), o1 3 (.assign (tm 10))] 0 none) []
  (.seq (.seq (.region 2 [mv 11 0, o1 12 (.len 22 false (tm 11)), o1 13 (.move (ic 0))] 0 none) []
  (.block 0
  (.loop [] (1 :: 2 :: (rl 4 8 (rl 14 84 [])))
    A62v8))) (2 :: (rl 4 5 (rl 11 87 [])))
  A62v9)))⟩
def B62v2 (C : Oracle) (fuel : Nat) {ρ : Type} : St → (Ex → St → Option ρ) → Option ρ := fun st k => evalC C fuel A62v3 st k
def N62v2 : St → Option St := fun s => s.norm (1 :: 2 :: 7 :: 9 :: 10 :: 11 :: (rl 14 84 [])) 3
def s62v0 (x45 : Nat) (x46 : Nat → Nat → CV) (x47 : Int) (x48 : Int) (x49 : Int) (x50 : Int) (x51 : Int) (x52 : Int) (x53 : Int) (x54 : Int) (x55 : Int) : St := ⟨(.x (.c (.ro false (.pr (.int .i64) (.pr (.int .i64) .nil)) x45 x46)) :: .u :: .u :: .x (.c (.i .i64 x47)) :: .x (.c (.i .i64 x48)) :: .x (.ptr 0 0) :: .x (.ptr 1 0) :: .u :: .x (.c (.i .i64 x49)) :: (us 3 (.x (.c (.i .i64 x47)) :: .x (.c (.i .i64 x48)) :: (us 84 [])))), [.box [(.c (.i .i64 x50)), (.c (.i .i64 x51))], .box [(.c (.i .i64 x52)), (.c (.i .i64 x53))], .box [(.c (.i .i64 x54)), (.c (.i .i64 x55))]]⟩
def s62v1 (x50 : Int) (x51 : Int) (x52 : Int) (x53 : Int) (x54 : Int) (x55 : Int) : St := ⟨(.u :: .u :: .x (.c (.b false)) :: (us 95 [])), [.box [(.c (.i .i64 x50)), (.c (.i .i64 x51))], .box [(.c (.i .i64 x52)), (.c (.i .i64 x53))], .box [(.c (.i .i64 x54)), (.c (.i .i64 x55))]]⟩
def s62v2 (x45 : Nat) (x46 : Nat → Nat → CV) (x47 : Int) (x48 : Int) (x50 : Int) (x51 : Int) (x52 : Int) (x53 : Int) (x54 : Int) (x55 : Int) : St := ⟨(.x (.c (.ro false (.pr (.int .i64) (.pr (.int .i64) .nil)) x45 x46)) :: .u :: .u :: .x (.c (.i .i64 x47)) :: (us 8 (.x (.c (.i .i64 x47)) :: .x (.c (.i .i64 x48)) :: (us 84 [])))), [.box [(.c (.i .i64 x50)), (.c (.i .i64 x51))], .box [(.c (.i .i64 x52)), (.c (.i .i64 x53))], .box [(.c (.i .i64 x54)), (.c (.i .i64 x55))]]⟩
def L62v2 {ρ : Type} (fuel : Nat) (x45 : Nat) (x46 : Nat → Nat → CV) (x47 : Int) (x48 : Int) (x50 : Int) (x51 : Int) (x52 : Int) (x53 : Int) (x54 : Int) (x55 : Int) : Nat → Int → (Option ρ) → (Option ρ) → Option ρ
  | 0, _, _, _ => none
  | m + 1, x49, k0, k1 =>
    (bif (decide (x49 < x47)) then (bif (x47 == 0) then none else (bif (((Int.tmod (w64 (x49 + 1)) x47) != x48) == true) then (bif (inb x49 x45) then (bif (x47 == 0) then none else (bif (inb (Int.tmod (w64 (x49 + 1)) x47) x45) then (ob (F80 fuel x50 x51 x52 x53 (CV.int (x46 (Int.toNat x49) 0)) (CV.int (x46 (Int.toNat x49) 1)) (CV.int (x46 (Int.toNat (Int.tmod (w64 (x49 + 1)) x47)) 0)) (CV.int (x46 (Int.toNat (Int.tmod (w64 (x49 + 1)) x47)) 1))) fun x56 => (bif x56 then k0 else (L62v2 fuel x45 x46 x47 x48 x50 x51 x52 x53 x54 x55 m (w64 (x49 + 1)) k0 k1))) else none)) else none) else (L62v2 fuel x45 x46 x47 x48 x50 x51 x52 x53 x54 x55 m (w64 (x49 + 1)) k0 k1))) else k1)
theorem nl62v2 {ρ σ : Type} (fuel : Nat) (x45 : Nat) (x46 : Nat → Nat → CV) (x47 : Int) (x48 : Int) (x50 : Int) (x51 : Int) (x52 : Int) (x53 : Int) (x54 : Int) (x55 : Int) (g : ρ → Option σ) : ∀ (m : Nat) (x49 : Int) (k0 : Option ρ) (k1 : Option ρ), ob (L62v2 fuel x45 x46 x47 x48 x50 x51 x52 x53 x54 x55 m x49 k0 k1) g = L62v2 fuel x45 x46 x47 x48 x50 x51 x52 x53 x54 x55 m x49 (ob k0 g) (ob k1 g)
  | 0, _, _, _ => rfl
  | m + 1, x49, k0, k1 => by
    simp only [L62v2, ob_bif, ob_ob, ob_none, nl62v2 fuel x45 x46 x47 x48 x50 x51 x52 x53 x54 x55 g m]
theorem r62v2 (fuel : Nat) (m : Nat) {ρ : Type} (k : Ex → St → Option ρ) (x45 : Nat) (x46 : Nat → Nat → CV) (x47 : Int) (x48 : Int) (x50 : Int) (x51 : Int) (x52 : Int) (x53 : Int) (x54 : Int) (x55 : Int) (x49 : Int) :
    loopH (B62v2 (C11 fuel) fuel) N62v2 (m + 1) (s62v0 x45 x46 x47 x48 x49 x50 x51 x52 x53 x54 x55) k =
    (bif (decide (x49 < x47)) then (bif (x47 == 0) then none else (bif (((Int.tmod (w64 (x49 + 1)) x47) != x48) == true) then (bif (inb x49 x45) then (bif (x47 == 0) then none else (bif (inb (Int.tmod (w64 (x49 + 1)) x47) x45) then (ob (F80 fuel x50 x51 x52 x53 (CV.int (x46 (Int.toNat x49) 0)) (CV.int (x46 (Int.toNat x49) 1)) (CV.int (x46 (Int.toNat (Int.tmod (w64 (x49 + 1)) x47)) 0)) (CV.int (x46 (Int.toNat (Int.tmod (w64 (x49 + 1)) x47)) 1))) fun x56 => (bif x56 then (k .ret (s62v1 x50 x51 x52 x53 x54 x55)) else (loopH (B62v2 (C11 fuel) fuel) N62v2 m (s62v0 x45 x46 x47 x48 (w64 (x49 + 1)) x50 x51 x52 x53 x54 x55) k))) else none)) else none) else (loopH (B62v2 (C11 fuel) fuel) N62v2 m (s62v0 x45 x46 x47 x48 (w64 (x49 + 1)) x50 x51 x52 x53 x54 x55) k))) else (k (.exit 2) (s62v2 x45 x46 x47 x48 x50 x51 x52 x53 x54 x55))) := by kernel_rfl
theorem q62v2 (fuel : Nat) (x45 : Nat) (x46 : Nat → Nat → CV) (x47 : Int) (x48 : Int) (x50 : Int) (x51 : Int) (x52 : Int) (x53 : Int) (x54 : Int) (x55 : Int) {ρ : Type} (k : Ex → St → Option ρ) : ∀ (m : Nat) (x49 : Int),
    loopH (B62v2 (C11 fuel) fuel) N62v2 m (s62v0 x45 x46 x47 x48 x49 x50 x51 x52 x53 x54 x55) k = L62v2 fuel x45 x46 x47 x48 x50 x51 x52 x53 x54 x55 m x49 (k .ret (s62v1 x50 x51 x52 x53 x54 x55)) (k (.exit 2) (s62v2 x45 x46 x47 x48 x50 x51 x52 x53 x54 x55))
  | 0, _ => rfl
  | m + 1, x49 => by
    rw [r62v2]
    simp only [L62v2, q62v2 fuel x45 x46 x47 x48 x50 x51 x52 x53 x54 x55 k m]
def B62v3 (C : Oracle) (fuel : Nat) {ρ : Type} : St → (Ex → St → Option ρ) → Option ρ := fun st k => evalC C fuel A62v8 st k
def N62v3 : St → Option St := fun s => s.norm (1 :: 2 :: (rl 4 8 (rl 14 84 []))) 0
def s62v3 (x28 : Nat) (x29 : Nat → Nat → CV) (x30 : Int) (x31 : Int) : St := ⟨(.x (.c (.ro false (.pr (.int .i64) (.pr (.int .i64) .nil)) x28 x29)) :: .u :: .u :: .x (.c (.i .i64 x30)) :: (us 8 (.x (.c (.i .i64 x30)) :: .x (.c (.i .i64 x31)) :: (us 84 [])))), []⟩
def s62v4 (x57 : Int) (x58 : Int) (x59 : Int) (x60 : Int) : St := ⟨(.u :: .u :: .x (.c (.b false)) :: (us 95 [])), [.box [(.c (.i .i64 x57)), (.c (.i .i64 x58))], .box [(.c (.i .i64 x59)), (.c (.i .i64 x60))]]⟩
def s62v5 (x61 : Int) (x62 : Int) (x63 : Int) (x64 : Int) (x65 : Int) (x66 : Int) : St := ⟨(.u :: .u :: .x (.c (.b false)) :: (us 95 [])), [.box [(.c (.i .i64 x61)), (.c (.i .i64 x62))], .box [(.c (.i .i64 x63)), (.c (.i .i64 x64))], .box [(.c (.i .i64 x65)), (.c (.i .i64 x66))]]⟩
def s62v6 : St := ⟨(us 98 []), []⟩
def L62v3 {ρ : Type} (fuel : Nat) (x28 : Nat) (x29 : Nat → Nat → CV) (x30 : Int) : Nat → Int → (Int → Int → Int → Int → Option ρ) → (Int → Int → Int → Int → Int → Int → Option ρ) → (Option ρ) → Option ρ
  | 0, _, _, _, _ => none
  | m + 1, x31, k0, k1, k2 =>
    (bif (decide (x31 < x30)) then (bif (inb x31 x28) then (bif (x30 == 0) then none else (bif (inb (Int.tmod (w64 (x31 + 1)) x30) x28) then (bif (((CV.int (x29 (Int.toNat x31) 0)) == (CV.int (x29 (Int.toNat (Int.tmod (w64 (x31 + 1)) x30)) 0))) && (((CV.int (x29 (Int.toNat x31) 1)) == (CV.int (x29 (Int.toNat (Int.tmod (w64 (x31 + 1)) x30)) 1))) && true)) then (k0 (CV.int (x29 (Int.toNat x31) 0)) (CV.int (x29 (Int.toNat x31) 1)) (CV.int (x29 (Int.toNat (Int.tmod (w64 (x31 + 1)) x30)) 0)) (CV.int (x29 (Int.toNat (Int.tmod (w64 (x31 + 1)) x30)) 1))) else (bif (x30 == 0) then none else (bif (inb (Int.tmod (w64 (x31 + 2)) x30) x28) then (ob (F79 fuel (CV.int (x29 (Int.toNat x31) 0)) (CV.int (x29 (Int.toNat x31) 1)) (CV.int (x29 (Int.toNat (Int.tmod (w64 (x31 + 1)) x30)) 0)) (CV.int (x29 (Int.toNat (Int.tmod (w64 (x31 + 1)) x30)) 1)) (CV.int (x29 (Int.toNat (Int.tmod (w64 (x31 + 2)) x30)) 0)) (CV.int (x29 (Int.toNat (Int.tmod (w64 (x31 + 2)) x30)) 1))) fun x32 => (bif ((x32 == 0) == true) then (bif (decide ((w64 ((w64 ((w64 ((CV.int (x29 (Int.toNat x31) 0)) - (CV.int (x29 (Int.toNat (Int.tmod (w64 (x31 + 1)) x30)) 0)))) * (w64 ((CV.int (x29 (Int.toNat (Int.tmod (w64 (x31 + 2)) x30)) 0)) - (CV.int (x29 (Int.toNat (Int.tmod (w64 (x31 + 1)) x30)) 0)))))) + (w64 ((w64 ((CV.int (x29 (Int.toNat x31) 1)) - (CV.int (x29 (Int.toNat (Int.tmod (w64 (x31 + 1)) x30)) 1)))) * (w64 ((CV.int (x29 (Int.toNat (Int.tmod (w64 (x31 + 2)) x30)) 1)) - (CV.int (x29 (Int.toNat (Int.tmod (w64 (x31 + 1)) x30)) 1)))))))) > 0)) then (k1 (CV.int (x29 (Int.toNat x31) 0)) (CV.int (x29 (Int.toNat x31) 1)) (CV.int (x29 (Int.toNat (Int.tmod (w64 (x31 + 1)) x30)) 0)) (CV.int (x29 (Int.toNat (Int.tmod (w64 (x31 + 1)) x30)) 1)) (CV.int (x29 (Int.toNat (Int.tmod (w64 (x31 + 2)) x30)) 0)) (CV.int (x29 (Int.toNat (Int.tmod (w64 (x31 + 2)) x30)) 1))) else (L62v2 fuel x28 x29 x30 x31 (CV.int (x29 (Int.toNat x31) 0)) (CV.int (x29 (Int.toNat x31) 1)) (CV.int (x29 (Int.toNat (Int.tmod (w64 (x31 + 1)) x30)) 0)) (CV.int (x29 (Int.toNat (Int.tmod (w64 (x31 + 1)) x30)) 1)) (CV.int (x29 (Int.toNat (Int.tmod (w64 (x31 + 2)) x30)) 0)) (CV.int (x29 (Int.toNat (Int.tmod (w64 (x31 + 2)) x30)) 1)) fuel (w64 (x31 + 2))
    (k1 (CV.int (x29 (Int.toNat x31) 0)) (CV.int (x29 (Int.toNat x31) 1)) (CV.int (x29 (Int.toNat (Int.tmod (w64 (x31 + 1)) x30)) 0)) (CV.int (x29 (Int.toNat (Int.tmod (w64 (x31 + 1)) x30)) 1)) (CV.int (x29 (Int.toNat (Int.tmod (w64 (x31 + 2)) x30)) 0)) (CV.int (x29 (Int.toNat (Int.tmod (w64 (x31 + 2)) x30)) 1)))
    (L62v3 fuel x28 x29 x30 m (w64 (x31 + 1)) k0 k1 k2))) else (L62v2 fuel x28 x29 x30 x31 (CV.int (x29 (Int.toNat x31) 0)) (CV.int (x29 (Int.toNat x31) 1)) (CV.int (x29 (Int.toNat (Int.tmod (w64 (x31 + 1)) x30)) 0)) (CV.int (x29 (Int.toNat (Int.tmod (w64 (x31 + 1)) x30)) 1)) (CV.int (x29 (Int.toNat (Int.tmod (w64 (x31 + 2)) x30)) 0)) (CV.int (x29 (Int.toNat (Int.tmod (w64 (x31 + 2)) x30)) 1)) fuel (w64 (x31 + 2))
    (k1 (CV.int (x29 (Int.toNat x31) 0)) (CV.int (x29 (Int.toNat x31) 1)) (CV.int (x29 (Int.toNat (Int.tmod (w64 (x31 + 1)) x30)) 0)) (CV.int (x29 (Int.toNat (Int.tmod (w64 (x31 + 1)) x30)) 1)) (CV.int (x29 (Int.toNat (Int.tmod (w64 (x31 + 2)) x30)) 0)) (CV.int (x29 (Int.toNat (Int.tmod (w64 (x31 + 2)) x30)) 1)))
    (L62v3 fuel x28 x29 x30 m (w64 (x31 + 1)) k0 k1 k2)))) else none))) else none)) else none) else k2)
theorem nl62v3 {ρ σ : Type} (fuel : Nat) (x28 : Nat) (x29 : Nat → Nat → CV) (x30 : Int) (g : ρ → Option σ) : ∀ (m : Nat) (x31 : Int) (k0 : Int → Int → Int → Int → Option ρ) (k1 : Int → Int → Int → Int → Int → Int → Option ρ) (k2 : Option ρ), ob (L62v3 fuel x28 x29 x30 m x31 k0 k1 k2) g = L62v3 fuel x28 x29 x30 m x31 (fun x57 x58 x59 x60 => ob (k0 x57 x58 x59 x60) g) (fun x61 x62 x63 x64 x65 x66 => ob (k1 x61 x62 x63 x64 x65 x66) g) (ob k2 g)
  | 0, _, _, _, _ => rfl
  | m + 1, x31, k0, k1, k2 => by
    simp only [L62v3, ob_bif, ob_ob, ob_none, nl62v3 fuel x28 x29 x30 g m, nl62v2]
def s62v7 (x28 : Nat) (x29 : Nat → Nat → CV) (x30 : Int) (x31 : Int) : St := ⟨(.x (.c (.ro false (.pr (.int .i64) (.pr (.int .i64) .nil)) x28 x29)) :: .u :: .u :: .x (.c (.i .i64 x30)) :: .x (.c (.i .i64 x31)) :: .x (.ptr 0 0) :: .x (.ptr 1 0) :: .x (.ptr 2 0) :: .x (.c (.i .i64 (w64 (x31 + 2)))) :: (us 3 (.x (.c (.i .i64 x30)) :: .x (.c (.i .i64 x31)) :: .x (.c (.b true)) :: .x (.c (.i .i64 x31)) :: .x (.c (.ro false (.pr (.int .i64) (.pr (.int .i64) .nil)) x28 x29)) :: .x (.c (.i .i64 x31)) :: .x (.c (.rp (.pr (.int .i64) (.pr (.int .i64) .nil)) (x29 (Int.toNat x31)))) :: .agg [(.c (.i .i64 (CV.int (x29 (Int.toNat x31) 0)))), (.c (.i .i64 (CV.int (x29 (Int.toNat x31) 1))))] :: .x (.c (.ro false (.pr (.int .i64) (.pr (.int .i64) .nil)) x28 x29)) :: .x (.c (.i .i64 x31)) :: .x (.c (.i .i64 (w64 (x31 + 1)))) :: .x (.c (.i .i64 x30)) :: .x (.c (.i .i64 (Int.tmod (w64 (x31 + 1)) x30))) :: .x (.c (.rp (.pr (.int .i64) (.pr (.int .i64) .nil)) (x29 (Int.toNat (Int.tmod (w64 (x31 + 1)) x30))))) :: .agg [(.c (.i .i64 (CV.int (x29 (Int.toNat (Int.tmod (w64 (x31 + 1)) x30)) 0)))), (.c (.i .i64 (CV.int (x29 (Int.toNat (Int.tmod (w64 (x31 + 1)) x30)) 1))))] :: (us 3 (.x (.c (.ro false (.pr (.int .i64) (.pr (.int .i64) .nil)) x28 x29)) :: .x (.c (.i .i64 x31)) :: .x (.c (.i .i64 (w64 (x31 + 2)))) :: .x (.c (.i .i64 x30)) :: .x (.c (.i .i64 (Int.tmod (w64 (x31 + 2)) x30))) :: .x (.c (.rp (.pr (.int .i64) (.pr (.int .i64) .nil)) (x29 (Int.toNat (Int.tmod (w64 (x31 + 2)) x30))))) :: .agg [(.c (.i .i64 (CV.int (x29 (Int.toNat (Int.tmod (w64 (x31 + 2)) x30)) 0)))), (.c (.i .i64 (CV.int (x29 (Int.toNat (Int.tmod (w64 (x31 + 2)) x30)) 1))))] :: (us 31 (.x (.c (.i .i64 x31)) :: .x (.c (.i .i64 (w64 (x31 + 2)))) :: (us 28 [])))))))), [.box [(.c (.i .i64 (CV.int (x29 (Int.toNat x31) 0)))), (.c (.i .i64 (CV.int (x29 (Int.toNat x31) 1))))], .box [(.c (.i .i64 (CV.int (x29 (Int.toNat (Int.tmod (w64 (x31 + 1)) x30)) 0)))), (.c (.i .i64 (CV.int (x29 (Int.toNat (Int.tmod (w64 (x31 + 1)) x30)) 1))))], .box [(.c (.i .i64 (CV.int (x29 (Int.toNat (Int.tmod (w64 (x31 + 2)) x30)) 0)))), (.c (.i .i64 (CV.int (x29 (Int.toNat (Int.tmod (w64 (x31 + 2)) x30)) 1))))]]⟩
theorem r62v3 (fuel : Nat) (m : Nat) {ρ : Type} (k : Ex → St → Option ρ) (x28 : Nat) (x29 : Nat → Nat → CV) (x30 : Int) (x31 : Int) :
    loopH (B62v3 (C11 fuel) fuel) N62v3 (m + 1) (s62v3 x28 x29 x30 x31) k =
    (bif (decide (x31 < x30)) then (bif (inb x31 x28) then (bif (x30 == 0) then none else (bif (inb (Int.tmod (w64 (x31 + 1)) x30) x28) then (bif (((CV.int (x29 (Int.toNat x31) 0)) == (CV.int (x29 (Int.toNat (Int.tmod (w64 (x31 + 1)) x30)) 0))) && (((CV.int (x29 (Int.toNat x31) 1)) == (CV.int (x29 (Int.toNat (Int.tmod (w64 (x31 + 1)) x30)) 1))) && true)) then (k .ret (s62v4 (CV.int (x29 (Int.toNat x31) 0)) (CV.int (x29 (Int.toNat x31) 1)) (CV.int (x29 (Int.toNat (Int.tmod (w64 (x31 + 1)) x30)) 0)) (CV.int (x29 (Int.toNat (Int.tmod (w64 (x31 + 1)) x30)) 1)))) else (bif (x30 == 0) then none else (bif (inb (Int.tmod (w64 (x31 + 2)) x30) x28) then (ob (F79 fuel (CV.int (x29 (Int.toNat x31) 0)) (CV.int (x29 (Int.toNat x31) 1)) (CV.int (x29 (Int.toNat (Int.tmod (w64 (x31 + 1)) x30)) 0)) (CV.int (x29 (Int.toNat (Int.tmod (w64 (x31 + 1)) x30)) 1)) (CV.int (x29 (Int.toNat (Int.tmod (w64 (x31 + 2)) x30)) 0)) (CV.int (x29 (Int.toNat (Int.tmod (w64 (x31 + 2)) x30)) 1))) fun x32 => (bif ((x32 == 0) == true) then (bif (decide ((w64 ((w64 ((w64 ((CV.int (x29 (Int.toNat x31) 0)) - (CV.int (x29 (Int.toNat (Int.tmod (w64 (x31 + 1)) x30)) 0)))) * (w64 ((CV.int (x29 (Int.toNat (Int.tmod (w64 (x31 + 2)) x30)) 0)) - (CV.int (x29 (Int.toNat (Int.tmod (w64 (x31 + 1)) x30)) 0)))))) + (w64 ((w64 ((CV.int (x29 (Int.toNat x31) 1)) - (CV.int (x29 (Int.toNat (Int.tmod (w64 (x31 + 1)) x30)) 1)))) * (w64 ((CV.int (x29 (Int.toNat (Int.tmod (w64 (x31 + 2)) x30)) 1)) - (CV.int (x29 (Int.toNat (Int.tmod (w64 (x31 + 1)) x30)) 1)))))))) > 0)) then (k .ret (s62v5 (CV.int (x29 (Int.toNat x31) 0)) (CV.int (x29 (Int.toNat x31) 1)) (CV.int (x29 (Int.toNat (Int.tmod (w64 (x31 + 1)) x30)) 0)) (CV.int (x29 (Int.toNat (Int.tmod (w64 (x31 + 1)) x30)) 1)) (CV.int (x29 (Int.toNat (Int.tmod (w64 (x31 + 2)) x30)) 0)) (CV.int (x29 (Int.toNat (Int.tmod (w64 (x31 + 2)) x30)) 1)))) else (loopN (B62v2 (C11 fuel) fuel) N62v2 fuel (s62v7 x28 x29 x30 x31) (kBlk 2 (kBlk 1 (kSeq (C11 fuel) fuel (2 :: (rl 4 5 (rl 15 82 []))) A62v6 (kLoop (B62v3 (C11 fuel) fuel) N62v3 m k)))))) else (loopN (B62v2 (C11 fuel) fuel) N62v2 fuel (s62v7 x28 x29 x30 x31) (kBlk 2 (kBlk 1 (kSeq (C11 fuel) fuel (2 :: (rl 4 5 (rl 15 82 []))) A62v6 (kLoop (B62v3 (C11 fuel) fuel) N62v3 m k))))))) else none))) else none)) else none) else (k (.exit 0) s62v6)) := by kernel_rfl
theorem t62v1 (fuel : Nat) {ρ : Type} (k : Ex → St → Option ρ) (x28 : Nat) (x29 : Nat → Nat → CV) (x30 : Int) (x31 : Int) :
    loopN (B62v2 (C11 fuel) fuel) N62v2 fuel (s62v7 x28 x29 x30 x31) k =
    L62v2 fuel x28 x29 x30 x31 (CV.int (x29 (Int.toNat x31) 0)) (CV.int (x29 (Int.toNat x31) 1)) (CV.int (x29 (Int.toNat (Int.tmod (w64 (x31 + 1)) x30)) 0)) (CV.int (x29 (Int.toNat (Int.tmod (w64 (x31 + 1)) x30)) 1)) (CV.int (x29 (Int.toNat (Int.tmod (w64 (x31 + 2)) x30)) 0)) (CV.int (x29 (Int.toNat (Int.tmod (w64 (x31 + 2)) x30)) 1)) fuel (w64 (x31 + 2)) (k .ret (s62v1 (CV.int (x29 (Int.toNat x31) 0)) (CV.int (x29 (Int.toNat x31) 1)) (CV.int (x29 (Int.toNat (Int.tmod (w64 (x31 + 1)) x30)) 0)) (CV.int (x29 (Int.toNat (Int.tmod (w64 (x31 + 1)) x30)) 1)) (CV.int (x29 (Int.toNat (Int.tmod (w64 (x31 + 2)) x30)) 0)) (CV.int (x29 (Int.toNat (Int.tmod (w64 (x31 + 2)) x30)) 1)))) (k (.exit 2) (s62v2 x28 x29 x30 x31 (CV.int (x29 (Int.toNat x31) 0)) (CV.int (x29 (Int.toNat x31) 1)) (CV.int (x29 (Int.toNat (Int.tmod (w64 (x31 + 1)) x30)) 0)) (CV.int (x29 (Int.toNat (Int.tmod (w64 (x31 + 1)) x30)) 1)) (CV.int (x29 (Int.toNat (Int.tmod (w64 (x31 + 2)) x30)) 0)) (CV.int (x29 (Int.toNat (Int.tmod (w64 (x31 + 2)) x30)) 1)))) :=
  (loopN_at (st' := (s62v0 x28 x29 x30 x31 (w64 (x31 + 2)) (CV.int (x29 (Int.toNat x31) 0)) (CV.int (x29 (Int.toNat x31) 1)) (CV.int (x29 (Int.toNat (Int.tmod (w64 (x31 + 1)) x30)) 0)) (CV.int (x29 (Int.toNat (Int.tmod (w64 (x31 + 1)) x30)) 1)) (CV.int (x29 (Int.toNat (Int.tmod (w64 (x31 + 2)) x30)) 0)) (CV.int (x29 (Int.toNat (Int.tmod (w64 (x31 + 2)) x30)) 1)))) (by kernel_rfl)).trans (q62v2 fuel x28 x29 x30 x31 (CV.int (x29 (Int.toNat x31) 0)) (CV.int (x29 (Int.toNat x31) 1)) (CV.int (x29 (Int.toNat (Int.tmod (w64 (x31 + 1)) x30)) 0)) (CV.int (x29 (Int.toNat (Int.tmod (w64 (x31 + 1)) x30)) 1)) (CV.int (x29 (Int.toNat (Int.tmod (w64 (x31 + 2)) x30)) 0)) (CV.int (x29 (Int.toNat (Int.tmod (w64 (x31 + 2)) x30)) 1)) k fuel (w64 (x31 + 2)))
theorem g62v2 (fuel : Nat) (m : Nat) {ρ : Type} (k : Ex → St → Option ρ) (x29 : Nat → Nat → CV) (x31 : Int) (x30 : Int) :
    (kBlk 2 (kBlk 1 (kSeq (C11 fuel) fuel (2 :: (rl 4 5 (rl 15 82 []))) A62v6 (kLoop (B62v3 (C11 fuel) fuel) N62v3 m k)))) .ret (s62v1 (CV.int (x29 (Int.toNat x31) 0)) (CV.int (x29 (Int.toNat x31) 1)) (CV.int (x29 (Int.toNat (Int.tmod (w64 (x31 + 1)) x30)) 0)) (CV.int (x29 (Int.toNat (Int.tmod (w64 (x31 + 1)) x30)) 1)) (CV.int (x29 (Int.toNat (Int.tmod (w64 (x31 + 2)) x30)) 0)) (CV.int (x29 (Int.toNat (Int.tmod (w64 (x31 + 2)) x30)) 1))) =
    (k .ret (s62v5 (CV.int (x29 (Int.toNat x31) 0)) (CV.int (x29 (Int.toNat x31) 1)) (CV.int (x29 (Int.toNat (Int.tmod (w64 (x31 + 1)) x30)) 0)) (CV.int (x29 (Int.toNat (Int.tmod (w64 (x31 + 1)) x30)) 1)) (CV.int (x29 (Int.toNat (Int.tmod (w64 (x31 + 2)) x30)) 0)) (CV.int (x29 (Int.toNat (Int.tmod (w64 (x31 + 2)) x30)) 1)))) := by kernel_rfl
theorem g62v3 (fuel : Nat) (m : Nat) {ρ : Type} (k : Ex → St → Option ρ) (x28 : Nat) (x29 : Nat → Nat → CV) (x30 : Int) (x31 : Int) :
    (kBlk 2 (kBlk 1 (kSeq (C11 fuel) fuel (2 :: (rl 4 5 (rl 15 82 []))) A62v6 (kLoop (B62v3 (C11 fuel) fuel) N62v3 m k)))) (.exit 2) (s62v2 x28 x29 x30 x31 (CV.int (x29 (Int.toNat x31) 0)) (CV.int (x29 (Int.toNat x31) 1)) (CV.int (x29 (Int.toNat (Int.tmod (w64 (x31 + 1)) x30)) 0)) (CV.int (x29 (Int.toNat (Int.tmod (w64 (x31 + 1)) x30)) 1)) (CV.int (x29 (Int.toNat (Int.tmod (w64 (x31 + 2)) x30)) 0)) (CV.int (x29 (Int.toNat (Int.tmod (w64 (x31 + 2)) x30)) 1))) =
    (loopH (B62v3 (C11 fuel) fuel) N62v3 m (s62v3 x28 x29 x30 (w64 (x31 + 1))) k) := by kernel_rfl
theorem t62v4 (fuel : Nat) {ρ : Type} (k : Ex → St → Option ρ) (x28 : Nat) (x29 : Nat → Nat → CV) (x30 : Int) (x31 : Int) :
    loopN (B62v2 (C11 fuel) fuel) N62v2 fuel (s62v7 x28 x29 x30 x31) k =
    L62v2 fuel x28 x29 x30 x31 (CV.int (x29 (Int.toNat x31) 0)) (CV.int (x29 (Int.toNat x31) 1)) (CV.int (x29 (Int.toNat (Int.tmod (w64 (x31 + 1)) x30)) 0)) (CV.int (x29 (Int.toNat (Int.tmod (w64 (x31 + 1)) x30)) 1)) (CV.int (x29 (Int.toNat (Int.tmod (w64 (x31 + 2)) x30)) 0)) (CV.int (x29 (Int.toNat (Int.tmod (w64 (x31 + 2)) x30)) 1)) fuel (w64 (x31 + 2)) (k .ret (s62v1 (CV.int (x29 (Int.toNat x31) 0)) (CV.int (x29 (Int.toNat x31) 1)) (CV.int (x29 (Int.toNat (Int.tmod (w64 (x31 + 1)) x30)) 0)) (CV.int (x29 (Int.toNat (Int.tmod (w64 (x31 + 1)) x30)) 1)) (CV.int (x29 (Int.toNat (Int.tmod (w64 (x31 + 2)) x30)) 0)) (CV.int (x29 (Int.toNat (Int.tmod (w64 (x31 + 2)) x30)) 1)))) (k (.exit 2) (s62v2 x28 x29 x30 x31 (CV.int (x29 (Int.toNat x31) 0)) (CV.int (x29 (Int.toNat x31) 1)) (CV.int (x29 (Int.toNat (Int.tmod (w64 (x31 + 1)) x30)) 0)) (CV.int (x29 (Int.toNat (Int.tmod (w64 (x31 + 1)) x30)) 1)) (CV.int (x29 (Int.toNat (Int.tmod (w64 (x31 + 2)) x30)) 0)) (CV.int (x29 (Int.toNat (Int.tmod (w64 (x31 + 2)) x30)) 1)))) :=
  (loopN_at (st' := (s62v0 x28 x29 x30 x31 (w64 (x31 + 2)) (CV.int (x29 (Int.toNat x31) 0)) (CV.int (x29 (Int.toNat x31) 1)) (CV.int (x29 (Int.toNat (Int.tmod (w64 (x31 + 1)) x30)) 0)) (CV.int (x29 (Int.toNat (Int.tmod (w64 (x31 + 1)) x30)) 1)) (CV.int (x29 (Int.toNat (Int.tmod (w64 (x31 + 2)) x30)) 0)) (CV.int (x29 (Int.toNat (Int.tmod (w64 (x31 + 2)) x30)) 1)))) (by kernel_rfl)).trans (q62v2 fuel x28 x29 x30 x31 (CV.int (x29 (Int.toNat x31) 0)) (CV.int (x29 (Int.toNat x31) 1)) (CV.int (x29 (Int.toNat (Int.tmod (w64 (x31 + 1)) x30)) 0)) (CV.int (x29 (Int.toNat (Int.tmod (w64 (x31 + 1)) x30)) 1)) (CV.int (x29 (Int.toNat (Int.tmod (w64 (x31 + 2)) x30)) 0)) (CV.int (x29 (Int.toNat (Int.tmod (w64 (x31 + 2)) x30)) 1)) k fuel (w64 (x31 + 2)))
theorem g62v5 (fuel : Nat) (m : Nat) {ρ : Type} (k : Ex → St → Option ρ) (x29 : Nat → Nat → CV) (x31 : Int) (x30 : Int) :
    (kBlk 2 (kBlk 1 (kSeq (C11 fuel) fuel (2 :: (rl 4 5 (rl 15 82 []))) A62v6 (kLoop (B62v3 (C11 fuel) fuel) N62v3 m k)))) .ret (s62v1 (CV.int (x29 (Int.toNat x31) 0)) (CV.int (x29 (Int.toNat x31) 1)) (CV.int (x29 (Int.toNat (Int.tmod (w64 (x31 + 1)) x30)) 0)) (CV.int (x29 (Int.toNat (Int.tmod (w64 (x31 + 1)) x30)) 1)) (CV.int (x29 (Int.toNat (Int.tmod (w64 (x31 + 2)) x30)) 0)) (CV.int (x29 (Int.toNat (Int.tmod (w64 (x31 + 2)) x30)) 1))) =
    (k .ret (s62v5 (CV.int (x29 (Int.toNat x31) 0)) (CV.int (x29 (Int.toNat x31) 1)) (CV.int (x29 (Int.toNat (Int.tmod (w64 (x31 + 1)) x30)) 0)) (CV.int (x29 (Int.toNat (Int.tmod (w64 (x31 + 1)) x30)) 1)) (CV.int (x29 (Int.toNat (Int.tmod (w64 (x31 + 2)) x30)) 0)) (CV.int (x29 (Int.toNat (Int.tmod (w64 (x31 + 2)) x30)) 1)))) := by kernel_rfl
theorem g62v6 (fuel : Nat) (m : Nat) {ρ : Type} (k : Ex → St → Option ρ) (x28 : Nat) (x29 : Nat → Nat → CV) (x30 : Int) (x31 : Int) :
    (kBlk 2 (kBlk 1 (kSeq (C11 fuel) fuel (2 :: (rl 4 5 (rl 15 82 []))) A62v6 (kLoop (B62v3 (C11 fuel) fuel) N62v3 m k)))) (.exit 2) (s62v2 x28 x29 x30 x31 (CV.int (x29 (Int.toNat x31) 0)) (CV.int (x29 (Int.toNat x31) 1)) (CV.int (x29 (Int.toNat (Int.tmod (w64 (x31 + 1)) x30)) 0)) (CV.int (x29 (Int.toNat (Int.tmod (w64 (x31 + 1)) x30)) 1)) (CV.int (x29 (Int.toNat (Int.tmod (w64 (x31 + 2)) x30)) 0)) (CV.int (x29 (Int.toNat (Int.tmod (w64 (x31 + 2)) x30)) 1))) =
    (loopH (B62v3 (C11 fuel) fuel) N62v3 m (s62v3 x28 x29 x30 (w64 (x31 + 1))) k) := by kernel_rfl
theorem q62v3 (fuel : Nat) (x28 : Nat) (x29 : Nat → Nat → CV) (x30 : Int) {ρ : Type} (k : Ex → St → Option ρ) : ∀ (m : Nat) (x31 : Int),
    loopH (B62v3 (C11 fuel) fuel) N62v3 m (s62v3 x28 x29 x30 x31) k = L62v3 fuel x28 x29 x30 m x31 (fun x57 x58 x59 x60 => k .ret (s62v4 x57 x58 x59 x60)) (fun x61 x62 x63 x64 x65 x66 => k .ret (s62v5 x61 x62 x63 x64 x65 x66)) (k (.exit 0) s62v6)
  | 0, _ => rfl
  | m + 1, x31 => by
    rw [r62v3]
    simp only [L62v3, q62v3 fuel x28 x29 x30 k m, t62v1, g62v2, g62v3, t62v4, g62v5, g62v6]
def D62 {ρ : Type} (fuel : Nat) (x1 : Nat) (x2 : Nat → Nat → CV) (k : Bool → Option ρ) : Option ρ :=
  (L62v3 fuel x1 x2 (Int.ofNat x1) fuel 0
    (fun x67 x68 x69 x70 => (k false))
    (fun x71 x72 x73 x74 x75 x76 => (k false))
    (k true))
def F62 (fuel : Nat) (x1 : Nat) (x2 : Nat → Nat → CV) : Option (Bool) := D62 fuel x1 x2 some
theorem n62 {ρ σ : Type} (fuel : Nat) (x1 : Nat) (x2 : Nat → Nat → CV) (k : (Bool) → Option ρ) (g : ρ → Option σ) : ob (D62 fuel x1 x2 k) g = D62 fuel x1 x2 fun t => ob (k t) g := by
  simp only [D62, ob_bif, ob_ob, ob_none, nl62v3]
theorem f62 {ρ : Type} (fuel : Nat) (x1 : Nat) (x2 : Nat → Nat → CV) (k : (Bool) → Option ρ) : D62 fuel x1 x2 k = ob (F62 fuel x1 x2) k := by
  unfold F62
  rw [n62]
  simp only [ob_some]
def s62v8 (x1 : Nat) (x2 : Nat → Nat → CV) : St := ⟨[.x (.c (.ro false (.pr (.int .i64) (.pr (.int .i64) .nil)) x1 x2)), .undef, .x (.c (.b false)), .x (.c (.i .i64 (Int.ofNat x1))), .undef, .undef, .undef, .undef, .undef, .x (.c (.ro false (.pr (.int .i64) (.pr (.int .i64) .nil)) x1 x2)), .x (.c (.i .i64 (Int.ofNat x1))), .x (.c (.ro false (.pr (.int .i64) (.pr (.int .i64) .nil)) x1 x2)), .x (.c (.i .i64 (Int.ofNat x1))), .x (.c (.i .i64 0)), .undef, .undef, .undef, .undef, .undef, .undef, .undef, .undef, .undef, .undef, .undef, .undef, .undef, .undef, .undef, .undef, .undef, .undef, .undef, .undef, .undef, .undef, .undef, .undef, .undef, .undef, .undef, .undef, .undef, .undef, .undef, .undef, .undef, .undef, .undef, .undef, .undef, .undef, .undef, .undef, .undef, .undef, .undef, .undef, .undef, .undef, .undef, .undef, .undef, .undef, .undef, .undef, .undef, .undef, .undef, .undef, .undef, .undef, .undef, .undef, .undef, .undef, .undef, .undef, .undef, .undef, .undef, .undef, .undef, .undef, .undef, .undef, .undef, .undef, .undef, .undef, .undef, .undef, .undef, .undef, .undef, .undef, .undef, .undef], []⟩
theorem walk62 (fuel : Nat) (x1 : Nat) (x2 : Nat → Nat → CV) :
    evalF (C11 fuel) fuel A62 [.v (.ro false (.pr (.int .i64) (.pr (.int .i64) .nil)) x1 x2)] =
    (loopN (B62v3 (C11 fuel) fuel) N62v3 fuel (s62v8 x1 x2) (kBlk 0 (kSeq (C11 fuel) fuel (2 :: (rl 4 5 (rl 11 87 []))) A62v9 (finish A62)))) := by kernel_rfl
theorem t62v7 (fuel : Nat) {ρ : Type} (k : Ex → St → Option ρ) (x1 : Nat) (x2 : Nat → Nat → CV) :
    loopN (B62v3 (C11 fuel) fuel) N62v3 fuel (s62v8 x1 x2) k =
    L62v3 fuel x1 x2 (Int.ofNat x1) fuel 0 (fun x57 x58 x59 x60 => k .ret (s62v4 x57 x58 x59 x60)) (fun x61 x62 x63 x64 x65 x66 => k .ret (s62v5 x61 x62 x63 x64 x65 x66)) (k (.exit 0) s62v6) :=
  (loopN_at (st' := (s62v3 x1 x2 (Int.ofNat x1) 0)) (by kernel_rfl)).trans (q62v3 fuel x1 x2 (Int.ofNat x1) k fuel 0)
theorem g62v8 (fuel : Nat) (x67 : Int) (x68 : Int) (x69 : Int) (x70 : Int) :
    (kBlk 0 (kSeq (C11 fuel) fuel (2 :: (rl 4 5 (rl 11 87 []))) A62v9 (finish A62))) .ret (s62v4 x67 x68 x69 x70) =
    (some [.v (.b false)]) := by kernel_rfl
theorem g62v9 (fuel : Nat) (x71 : Int) (x72 : Int) (x73 : Int) (x74 : Int) (x75 : Int) (x76 : Int) :
    (kBlk 0 (kSeq (C11 fuel) fuel (2 :: (rl 4 5 (rl 11 87 []))) A62v9 (finish A62))) .ret (s62v5 x71 x72 x73 x74 x75 x76) =
    (some [.v (.b false)]) := by kernel_rfl
theorem g62v10 (fuel : Nat) :
    (kBlk 0 (kSeq (C11 fuel) fuel (2 :: (rl 4 5 (rl 11 87 []))) A62v9 (finish A62))) (.exit 0) s62v6 =
    (some [.v (.b true)]) := by kernel_rfl
theorem e62 (fuel : Nat) (x1 : Nat) (x2 : Nat → Nat → CV) : evalF (C11 fuel) fuel A62 [.v (.ro false (.pr (.int .i64) (.pr (.int .i64) .nil)) x1 x2)] = ob (F62 fuel x1 x2) fun t => some [.v (.b t)] := by
  rw [walk62, ← f62]
  simp only [D62, t62v7, g62v8, g62v9, g62v10]
def O62 (fuel : Nat) : Ora where
  o := fun args {ρ} K =>
    wc args fun a1 l2 =>
    wv a1 fun c3 =>
    wL (.pr (.int .i64) (.pr (.int .i64) .nil)) c3 fun y4 y5 =>
    wn l2 <|
    (ob (F62 fuel y4 y5) fun t => K [.v (.b t)])
  nat := fun args {ρ} K => by
    simp only [bind_wc, bind_wn, bind_wv, bind_wagg, bind_wI, bind_wB, bind_wS, bind_wL, bind_wP, bind_wFn, bind_ob, Option.bind_some]
theorem d62 {P : Program} (fuel : Nat) (hmix : P.follows .mixedOrders = true) (hC : Sound P (C11 fuel)) (hF : FFits P 62 A62) (args res : List A) (h : (O62 fuel).o args some = some res) : Den P 62 args res := by
  obtain ⟨a1, l2, rfl, z0⟩ := inv_wc h
  obtain ⟨c3, rfl, z1⟩ := inv_wv z0
  obtain ⟨y4, y5, h6, z2⟩ := inv_wL z1
  obtain ⟨hn, z3⟩ := inv_wn z2
  cases hn
  exact Den.weaken (.cons (WkA.v h6) .nil) (evalF_sound hmix hC hF ((e62 fuel y4 y5).trans z3))
def C12 (fuel : Nat) : Oracle := (C11 fuel).add 62 (fun _ => true) (O62 fuel)
def A63v1 : AC := (.seq (.block 1
  (.seq (.region 4 [mv 11 9, o1 12 (.indexAddr 22 34 2 (tm 7) (tm 9)), o1 13 (.load 34 (some 2) (tm 12)), o1 5 (.alloc 0 34 [.c (.i .i64 0), .c (.i .i64 0)]), o1 4 (.assign (tm 11)), o0 (.store 34 2 (tm 5) (tm 13))] 1 none) []
    (.seq (.region 5 [mv 14 0, mv 15 4, o1 16 (.binOp .add 3 (tm 15) (ic 1) 3), mv 17 0, o1 18 (.len 22 false (tm 17)), o1 19 (.binOp .rem 3 (tm 16) (tm 18) 3), o1 20 (.indexAddr 22 34 2 (tm 14) (tm 19)), o1 21 (.load 34 (some 2) (tm 20)), o1 6 (.alloc 0 34 [.c (.i .i64 0), .c (.i .i64 0)]), o0 (.store 34 2 (tm 6) (tm 21))] 1 none) []
    (.region 6 [mv 22 3, o1 23 (.fieldAddr 34 (tm 5) 0 0), o1 24 (.load 3 none (tm 23)), o1 25 (.fieldAddr 34 (tm 6) 1 1), o1 26 (.load 3 none (tm 25)), o1 27 (.binOp .mul 3 (tm 24) (tm 26) 3), o1 28 (.fieldAddr 34 (tm 6) 0 0), o1 29 (.load 3 none (tm 28)), o1 30 (.fieldAddr 34 (tm 5) 1 1), o1 31 (.load 3 none (tm 30)), o1 32 (.binOp .mul 3 (tm 29) (tm 31) 3), o1 33 (.binOp .sub 3 (tm 27) (tm 32) 3), o1 34 (.binOp .add 3 (tm 22) (tm 33) 3), o1 3 (.assign (tm 34))] 0 none)))) []
  (.region 7 [o1 35 (.binOp .add 3 (tm 9) (ic 1) 3), mv 9 35] 0 none))
def A63v2 : AC := (.seq (.region 3 [o1 10 (.binOp .lss 3 (tm 9) (tm 8) 3)] 0 none) []
  (.seq (.cond (tm 10)
  .skip
  (.exit 0 (0 :: 1 :: 2 :: (rl 4 33 [])))) []
  A63v1))
def A63v3 : AC := (.seq (.region 8 [mv 36 3, o1 2 (.assign (tm 36))] 0 none) []
  (.ret (0 :: 1 :: (rl 3 34 []))))
def A63 : AF := ⟨37, [.tmp 2],
  (.seq (.region 0 [o1 2 (.assign (ic 0))] 0 none) []
  (.seq (.region 1 [o1 3 (.assign (ic 0))] 0 none) []
  (.seq (.seq (.region 2 [mv 7 0, o1 8 (.len 22 false (tm 7)), o1 9 (.move (ic 0))] 0 none) []
  (.block 0
  (.loop [] (1 :: 2 :: 4 :: 5 :: 6 :: (rl 10 27 []))
    A63v2))) (rl 4 32 [])
  A63v3)))⟩
def B63v1 (C : Oracle) (fuel : Nat) {ρ : Type} : St → (Ex → St → Option ρ) → Option ρ := fun st k => evalC C fuel A63v2 st k
def N63v1 : St → Option St := fun s => s.norm (1 :: 2 :: 4 :: 5 :: 6 :: (rl 10 27 [])) 0
def s63v0 (x6 : Nat) (x7 : Nat → Nat → CV) (x8 : Int) (x9 : Int) (x10 : Int) : St := ⟨(.x (.c (.ro false (.pr (.int .i64) (.pr (.int .i64) .nil)) x6 x7)) :: .u :: .u :: .x (.c (.i .i64 x8)) :: (us 3 (.x (.c (.ro false (.pr (.int .i64) (.pr (.int .i64) .nil)) x6 x7)) :: .x (.c (.i .i64 x9)) :: .x (.c (.i .i64 x10)) :: (us 27 [])))), []⟩
def s63v1 (x11 : Int) : St := ⟨(us 3 (.x (.c (.i .i64 x11)) :: (us 33 []))), []⟩
def L63v1 {ρ : Type} (fuel : Nat) (x6 : Nat) (x7 : Nat → Nat → CV) (x9 : Int) : Nat → Int → Int → (Int → Option ρ) → Option ρ
  | 0, _, _, _ => none
  | m + 1, x8, x10, k0 =>
    (bif (decide (x10 < x9)) then (bif (inb x10 x6) then (bif ((Int.ofNat x6) == 0) then none else (bif (inb (Int.tmod (w64 (x10 + 1)) (Int.ofNat x6)) x6) then (L63v1 fuel x6 x7 x9 m (w64 (x8 + (w64 ((w64 ((CV.int (x7 (Int.toNat x10) 0)) * (CV.int (x7 (Int.toNat (Int.tmod (w64 (x10 + 1)) (Int.ofNat x6))) 1)))) - (w64 ((CV.int (x7 (Int.toNat (Int.tmod (w64 (x10 + 1)) (Int.ofNat x6))) 0)) * (CV.int (x7 (Int.toNat x10) 1)))))))) (w64 (x10 + 1)) k0) else none)) else none) else (k0 x8))
theorem nl63v1 {ρ σ : Type} (fuel : Nat) (x6 : Nat) (x7 : Nat → Nat → CV) (x9 : Int) (g : ρ → Option σ) : ∀ (m : Nat) (x8 : Int) (x10 : Int) (k0 : Int → Option ρ), ob (L63v1 fuel x6 x7 x9 m x8 x10 k0) g = L63v1 fuel x6 x7 x9 m x8 x10 (fun x11 => ob (k0 x11) g)
  | 0, _, _, _ => rfl
  | m + 1, x8, x10, k0 => by
    simp only [L63v1, ob_bif, ob_ob, ob_none, nl63v1 fuel x6 x7 x9 g m]
theorem r63v1 (fuel : Nat) (m : Nat) {ρ : Type} (k : Ex → St → Option ρ) (x6 : Nat) (x7 : Nat → Nat → CV) (x9 : Int) (x8 : Int) (x10 : Int) :
    loopH (B63v1 (C12 fuel) fuel) N63v1 (m + 1) (s63v0 x6 x7 x8 x9 x10) k =
    (bif (decide (x10 < x9)) then (bif (inb x10 x6) then (bif ((Int.ofNat x6) == 0) then none else (bif (inb (Int.tmod (w64 (x10 + 1)) (Int.ofNat x6)) x6) then (loopH (B63v1 (C12 fuel) fuel) N63v1 m (s63v0 x6 x7 (w64 (x8 + (w64 ((w64 ((CV.int (x7 (Int.toNat x10) 0)) * (CV.int (x7 (Int.toNat (Int.tmod (w64 (x10 + 1)) (Int.ofNat x6))) 1)))) - (w64 ((CV.int (x7 (Int.toNat (Int.tmod (w64 (x10 + 1)) (Int.ofNat x6))) 0)) * (CV.int (x7 (Int.toNat x10) 1)))))))) x9 (w64 (x10 + 1))) k) else none)) else none) else (k (.exit 0) (s63v1 x8))) := by kernel_rfl
theorem q63v1 (fuel : Nat) (x6 : Nat) (x7 : Nat → Nat → CV) (x9 : Int) {ρ : Type} (k : Ex → St → Option ρ) : ∀ (m : Nat) (x8 : Int) (x10 : Int),
    loopH (B63v1 (C12 fuel) fuel) N63v1 m (s63v0 x6 x7 x8 x9 x10) k = L63v1 fuel x6 x7 x9 m x8 x10 (fun x11 => k (.exit 0) (s63v1 x11))
  | 0, _, _ => rfl
  | m + 1, x8, x10 => by
    rw [r63v1]
    simp only [L63v1, q63v1 fuel x6 x7 x9 k m]
def D63 {ρ : Type} (fuel : Nat) (x1 : Nat) (x2 : Nat → Nat → CV) (k : Int → Option ρ) : Option ρ :=
  (L63v1 fuel x1 x2 (Int.ofNat x1) fuel 0 0
    (fun x12 => (k x12)))
def F63 (fuel : Nat) (x1 : Nat) (x2 : Nat → Nat → CV) : Option (Int) := D63 fuel x1 x2 some
theorem n63 {ρ σ : Type} (fuel : Nat) (x1 : Nat) (x2 : Nat → Nat → CV) (k : (Int) → Option ρ) (g : ρ → Option σ) : ob (D63 fuel x1 x2 k) g = D63 fuel x1 x2 fun t => ob (k t) g := by
  simp only [D63, ob_bif, ob_ob, ob_none, nl63v1]
theorem f63 {ρ : Type} (fuel : Nat) (x1 : Nat) (x2 : Nat → Nat → CV) (k : (Int) → Option ρ) : D63 fuel x1 x2 k = ob (F63 fuel x1 x2) k := by
  unfold F63
  rw [n63]
  simp only [ob_some]
def s63v2 (x1 : Nat) (x2 : Nat → Nat → CV) : St := ⟨[.x (.c (.ro false (.pr (.int .i64) (.pr (.int .i64) .nil)) x1 x2)), .undef, .x (.c (.i .i64 0)), .x (.c (.i .i64 0)), .undef, .undef, .undef, .x (.c (.ro false (.pr (.int .i64) (.pr (.int .i64) .nil)) x1 x2)), .x (.c (.i .i64 (Int.ofNat x1))), .x (.c (.i .i64 0)), .undef, .undef, .undef, .undef, .undef, .undef, .undef, .undef, .undef, .undef, .undef, .undef, .undef, .undef, .undef, .undef, .undef, .undef, .undef, .undef, .undef, .undef, .undef, .undef, .undef, .undef, .undef], []⟩
theorem walk63 (fuel : Nat) (x1 : Nat) (x2 : Nat → Nat → CV) :
    evalF (C12 fuel) fuel A63 [.v (.ro false (.pr (.int .i64) (.pr (.int .i64) .nil)) x1 x2)] =
    (loopN (B63v1 (C12 fuel) fuel) N63v1 fuel (s63v2 x1 x2) (kBlk 0 (kSeq (C12 fuel) fuel (rl 4 32 []) A63v3 (finish A63)))) := by kernel_rfl
theorem t63v1 (fuel : Nat) {ρ : Type} (k : Ex → St → Option ρ) (x1 : Nat) (x2 : Nat → Nat → CV) :
    loopN (B63v1 (C12 fuel) fuel) N63v1 fuel (s63v2 x1 x2) k =
    L63v1 fuel x1 x2 (Int.ofNat x1) fuel 0 0 (fun x11 => k (.exit 0) (s63v1 x11)) :=
  (loopN_at (st' := (s63v0 x1 x2 0 (Int.ofNat x1) 0)) (by kernel_rfl)).trans (q63v1 fuel x1 x2 (Int.ofNat x1) k fuel 0 0)
theorem g63v2 (fuel : Nat) (x12 : Int) :
    (kBlk 0 (kSeq (C12 fuel) fuel (rl 4 32 []) A63v3 (finish A63))) (.exit 0) (s63v1 x12) =
    (some [.v (.i .i64 x12)]) := by kernel_rfl
theorem e63 (fuel : Nat) (x1 : Nat) (x2 : Nat → Nat → CV) : evalF (C12 fuel) fuel A63 [.v (.ro false (.pr (.int .i64) (.pr (.int .i64) .nil)) x1 x2)] = ob (F63 fuel x1 x2) fun t => some [.v (.i .i64 t)] := by
  rw [walk63, ← f63]
  simp only [D63, t63v1, g63v2]
def O63 (fuel : Nat) : Ora where
  o := fun args {ρ} K =>
    wc args fun a1 l2 =>
    wv a1 fun c3 =>
    wL (.pr (.int .i64) (.pr (.int .i64) .nil)) c3 fun y4 y5 =>
    wn l2 <|
    (ob (F63 fuel y4 y5) fun t => K [.v (.i .i64 t)])
  nat := fun args {ρ} K => by
    simp only [bind_wc, bind_wn, bind_wv, bind_wagg, bind_wI, bind_wB, bind_wS, bind_wL, bind_wP, bind_wFn, bind_ob, Option.bind_some]
theorem d63 {P : Program} (fuel : Nat) (hmix : P.follows .mixedOrders = true) (hC : Sound P (C12 fuel)) (hF : FFits P 63 A63) (args res : List A) (h : (O63 fuel).o args some = some res) : Den P 63 args res := by
  obtain ⟨a1, l2, rfl, z0⟩ := inv_wc h
  obtain ⟨c3, rfl, z1⟩ := inv_wv z0
  obtain ⟨y4, y5, h6, z2⟩ := inv_wL z1
  obtain ⟨hn, z3⟩ := inv_wn z2
  cases hn
  exact Den.weaken (.cons (WkA.v h6) .nil) (evalF_sound hmix hC hF ((e63 fuel y4 y5).trans z3))
def C13 (fuel : Nat) : Oracle := (C12 fuel).add 63 (fun _ => true) (O63 fuel)
def A33v1 : AC := (.seq (.region 9 [o1 2 (.assign (ic 0))] 0 none) []
  (.ret (0 :: 1 :: (rl 3 20 []))))
def A33 : AF := ⟨23, [.tmp 2],
  (.seq (.region 0 [o1 2 (.assign (ic 0))] 0 none) []
  (.seq (.block 0
  (.seq (.region 1 [mv 4 0, o1 5 (.len 22 false (tm 4)), o1 6 (.binOp .lss 3 (tm 5) (ic 3) 3), o1 3 (.assign (tm 6))] 0 none) []
    (.cond (tm 3)
    (.seq (.region 2 [o1 2 (.assign (ic 3))] 0 none) []
      (.ret (0 :: 1 :: (rl 3 20 []))))
    (.seq (.region 3 [mv 8 0, o1 9 (.len 22 false (tm 8)), o1 10 (.binOp .gtr 3 (tm 9) (ic 32) 3), o1 7 (.assign (tm 10))] 0 none) []
      (.cond (tm 7)
      (.seq (.region 4 [o1 2 (.assign (ic 4))] 0 none) []
        (.ret (0 :: 1 :: (rl 3 20 []))))
      (.seq (.region 5 [mv 12 0, o1 13 (.call 50 [(tm 12), (.func 61)] [22, 62] .snap), o1 11 (.assign (tm 13))] 0 none) []
        (.cond (tm 11)
        (.seq (.region 6 [o1 2 (.assign (ic 9))] 0 none) []
          (.ret (0 :: 1 :: (rl 3 20 []))))
        (.seq (.region 7 [mv 15 0, o1 16 (.call 62 [(tm 15)] [22] .snap), o1 17 (.unOp .not 4 (tm 16)), mv 18 17, og 19 (.move (tm 0)) 18 false, og 20 (.call 63 [(tm 19)] [22] .snap) 18 false, og 21 (.binOp .eql 3 (tm 20) (ic 0) 3) 18 false, o1 22 (.pick (tm 18) (.const (.bool true)) (tm 21)), o1 14 (.assign (tm 22))] 0 none) []
          (.cond (tm 14)
          (.seq (.region 8 [o1 2 (.assign (ic 17))] 0 none) []
            (.ret (0 :: 1 :: (rl 3 20 []))))
          .skip))))))))) (rl 2 21 [])
  A33v1))⟩
def D33 {ρ : Type} (fuel : Nat) (x1 : Nat) (x2 : Nat → Nat → CV) (k : Int → Option ρ) : Option ρ :=
  (bif (decide ((Int.ofNat x1) < 3)) then (k 3) else (bif (decide ((Int.ofNat x1) > 32)) then (k 4) else (ob (F50 fuel x1 x2) fun x3 => (bif x3 then (k 9) else (ob (F62 fuel x1 x2) fun x4 => (bif ((!x4) == false) then (ob (F63 fuel x1 x2) fun x5 => (bif (x5 == 0) then (k 17) else (k 0))) else (k 17)))))))
def F33 (fuel : Nat) (x1 : Nat) (x2 : Nat → Nat → CV) : Option (Int) := D33 fuel x1 x2 some
theorem n33 {ρ σ : Type} (fuel : Nat) (x1 : Nat) (x2 : Nat → Nat → CV) (k : (Int) → Option ρ) (g : ρ → Option σ) : ob (D33 fuel x1 x2 k) g = D33 fuel x1 x2 fun t => ob (k t) g := by
  simp only [D33, ob_bif, ob_ob, ob_none]
theorem f33 {ρ : Type} (fuel : Nat) (x1 : Nat) (x2 : Nat → Nat → CV) (k : (Int) → Option ρ) : D33 fuel x1 x2 k = ob (F33 fuel x1 x2) k := by
  unfold F33
  rw [n33]
  simp only [ob_some]
theorem walk33 (fuel : Nat) (x1 : Nat) (x2 : Nat → Nat → CV) :
    evalF (C13 fuel) fuel A33 [.v (.ro false (.pr (.int .i64) (.pr (.int .i64) .nil)) x1 x2)] =
    (bif (decide ((Int.ofNat x1) < 3)) then (some [.v (.i .i64 3)]) else (bif (decide ((Int.ofNat x1) > 32)) then (some [.v (.i .i64 4)]) else (ob (F50 fuel x1 x2) fun x3 => (bif x3 then (some [.v (.i .i64 9)]) else (ob (F62 fuel x1 x2) fun x4 => (bif ((!x4) == false) then (ob (F63 fuel x1 x2) fun x5 => (bif (x5 == 0) then (some [.v (.i .i64 17)]) else (some [.v (.i .i64 0)]))) else (some [.v (.i .i64 17)]))))))) := by kernel_rfl
theorem e33 (fuel : Nat) (x1 : Nat) (x2 : Nat → Nat → CV) : evalF (C13 fuel) fuel A33 [.v (.ro false (.pr (.int .i64) (.pr (.int .i64) .nil)) x1 x2)] = ob (F33 fuel x1 x2) fun t => some [.v (.i .i64 t)] := by
  rw [walk33, ← f33]
  simp only [D33]
def O33 (fuel : Nat) : Ora where
  o := fun args {ρ} K =>
    wc args fun a1 l2 =>
    wv a1 fun c3 =>
    wL (.pr (.int .i64) (.pr (.int .i64) .nil)) c3 fun y4 y5 =>
    wn l2 <|
    (ob (F33 fuel y4 y5) fun t => K [.v (.i .i64 t)])
  nat := fun args {ρ} K => by
    simp only [bind_wc, bind_wn, bind_wv, bind_wagg, bind_wI, bind_wB, bind_wS, bind_wL, bind_wP, bind_wFn, bind_ob, Option.bind_some]
theorem d33 {P : Program} (fuel : Nat) (hmix : P.follows .mixedOrders = true) (hC : Sound P (C13 fuel)) (hF : FFits P 33 A33) (args res : List A) (h : (O33 fuel).o args some = some res) : Den P 33 args res := by
  obtain ⟨a1, l2, rfl, z0⟩ := inv_wc h
  obtain ⟨c3, rfl, z1⟩ := inv_wv z0
  obtain ⟨y4, y5, h6, z2⟩ := inv_wL z1
  obtain ⟨hn, z3⟩ := inv_wn z2
  cases hn
  exact Den.weaken (.cons (WkA.v h6) .nil) (evalF_sound hmix hC hF ((e33 fuel y4 y5).trans z3))
def C14 (fuel : Nat) : Oracle := (C13 fuel).add 33 (fun _ => true) (O33 fuel)
def A34v1 : AC := (.seq (.region 3 [mv 6 0, o1 7 (.call 63 [(tm 6)] [22] .snap), o1 2 (.assign (tm 7))] 0 none) []
  (.ret (0 :: 1 :: (rl 3 5 []))))
def A34 : AF := ⟨8, [.tmp 2],
  (.seq (.region 0 [o1 2 (.assign (ic 0))] 0 none) []
  (.seq (.seq (.region 1 [mv 3 0, o1 4 (.call 33 [(tm 3)] [22] .snap), o1 5 (.binOp .neq 27 (tm 4) (ic 0) 27)] 0 none) []
  (.cond (tm 5)
  (.seq (.region 2 [o1 2 (.assign (ic 0))] 0 none) []
    (.ret (0 :: 1 :: (rl 3 5 []))))
  .skip)) (rl 2 4 [])
  A34v1))⟩
def D34 {ρ : Type} (fuel : Nat) (x1 : Nat) (x2 : Nat → Nat → CV) (k : Int → Option ρ) : Option ρ :=
  (ob (F33 fuel x1 x2) fun x3 => (bif (x3 != 0) then (k 0) else (ob (F63 fuel x1 x2) fun x4 => (k x4))))
def F34 (fuel : Nat) (x1 : Nat) (x2 : Nat → Nat → CV) : Option (Int) := D34 fuel x1 x2 some
theorem n34 {ρ σ : Type} (fuel : Nat) (x1 : Nat) (x2 : Nat → Nat → CV) (k : (Int) → Option ρ) (g : ρ → Option σ) : ob (D34 fuel x1 x2 k) g = D34 fuel x1 x2 fun t => ob (k t) g := by
  simp only [D34, ob_bif, ob_ob, ob_none]
theorem f34 {ρ : Type} (fuel : Nat) (x1 : Nat) (x2 : Nat → Nat → CV) (k : (Int) → Option ρ) : D34 fuel x1 x2 k = ob (F34 fuel x1 x2) k := by
  unfold F34
  rw [n34]
  simp only [ob_some]
theorem walk34 (fuel : Nat) (x1 : Nat) (x2 : Nat → Nat → CV) :
    evalF (C14 fuel) fuel A34 [.v (.ro false (.pr (.int .i64) (.pr (.int .i64) .nil)) x1 x2)] =
    (ob (F33 fuel x1 x2) fun x3 => (bif (x3 != 0) then (some [.v (.i .i64 0)]) else (ob (F63 fuel x1 x2) fun x4 => (some [.v (.i .i64 x4)])))) := by kernel_rfl
theorem e34 (fuel : Nat) (x1 : Nat) (x2 : Nat → Nat → CV) : evalF (C14 fuel) fuel A34 [.v (.ro false (.pr (.int .i64) (.pr (.int .i64) .nil)) x1 x2)] = ob (F34 fuel x1 x2) fun t => some [.v (.i .i64 t)] := by
  rw [walk34, ← f34]
  simp only [D34]
def O34 (fuel : Nat) : Ora where
  o := fun args {ρ} K =>
    wc args fun a1 l2 =>
    wv a1 fun c3 =>
    wL (.pr (.int .i64) (.pr (.int .i64) .nil)) c3 fun y4 y5 =>
    wn l2 <|
    (ob (F34 fuel y4 y5) fun t => K [.v (.i .i64 t)])
  nat := fun args {ρ} K => by
    simp only [bind_wc, bind_wn, bind_wv, bind_wagg, bind_wI, bind_wB, bind_wS, bind_wL, bind_wP, bind_wFn, bind_ob, Option.bind_some]
theorem d34 {P : Program} (fuel : Nat) (hmix : P.follows .mixedOrders = true) (hC : Sound P (C14 fuel)) (hF : FFits P 34 A34) (args res : List A) (h : (O34 fuel).o args some = some res) : Den P 34 args res := by
  obtain ⟨a1, l2, rfl, z0⟩ := inv_wc h
  obtain ⟨c3, rfl, z1⟩ := inv_wv z0
  obtain ⟨y4, y5, h6, z2⟩ := inv_wL z1
  obtain ⟨hn, z3⟩ := inv_wn z2
  cases hn
  exact Den.weaken (.cons (WkA.v h6) .nil) (evalF_sound hmix hC hF ((e34 fuel y4 y5).trans z3))
def C15 (fuel : Nat) : Oracle := (C14 fuel).add 34 (fun _ => true) (O34 fuel)
def A75 : AF := ⟨30, [.tmp 6],
  (.seq (.region 0 [o1 3 (.box 0 34 (tm 0)), o1 4 (.box 1 34 (tm 1)), o1 5 (.box 2 34 (tm 2)), o1 6 (.assign (ic 0))] 3 none) []
  (.seq (.region 1 [o1 7 (.fieldAddr 34 (tm 4) 0 0), o1 8 (.load 3 none (tm 7)), o1 9 (.fieldAddr 34 (tm 3) 0 0), o1 10 (.load 3 none (tm 9)), o1 11 (.binOp .sub 3 (tm 8) (tm 10) 3), o1 12 (.fieldAddr 34 (tm 5) 1 1), o1 13 (.load 3 none (tm 12)), o1 14 (.fieldAddr 34 (tm 3) 1 1), o1 15 (.load 3 none (tm 14)), o1 16 (.binOp .sub 3 (tm 13) (tm 15) 3), o1 17 (.binOp .mul 3 (tm 11) (tm 16) 3), o1 18 (.fieldAddr 34 (tm 4) 1 1), o1 19 (.load 3 none (tm 18)), o1 20 (.fieldAddr 34 (tm 3) 1 1), o1 21 (.load 3 none (tm 20)), o1 22 (.binOp .sub 3 (tm 19) (tm 21) 3), o1 23 (.fieldAddr 34 (tm 5) 0 0), o1 24 (.load 3 none (tm 23)), o1 25 (.fieldAddr 34 (tm 3) 0 0), o1 26 (.load 3 none (tm 25)), o1 27 (.binOp .sub 3 (tm 24) (tm 26) 3), o1 28 (.binOp .mul 3 (tm 22) (tm 27) 3), o1 29 (.binOp .sub 3 (tm 17) (tm 28) 3), o1 6 (.assign (tm 29))] 0 none) []
  (.ret (rl 0 6 (rl 7 23 [])))))⟩
def D75 {ρ : Type} (fuel : Nat) (x1 : Int) (x2 : Int) (x3 : Int) (x4 : Int) (x5 : Int) (x6 : Int) (k : Int → Option ρ) : Option ρ :=
  (k (w64 ((w64 ((w64 (x3 - x1)) * (w64 (x6 - x2)))) - (w64 ((w64 (x4 - x2)) * (w64 (x5 - x1)))))))
def F75 (fuel : Nat) (x1 : Int) (x2 : Int) (x3 : Int) (x4 : Int) (x5 : Int) (x6 : Int) : Option (Int) := D75 fuel x1 x2 x3 x4 x5 x6 some
theorem n75 {ρ σ : Type} (fuel : Nat) (x1 : Int) (x2 : Int) (x3 : Int) (x4 : Int) (x5 : Int) (x6 : Int) (k : (Int) → Option ρ) (g : ρ → Option σ) : ob (D75 fuel x1 x2 x3 x4 x5 x6 k) g = D75 fuel x1 x2 x3 x4 x5 x6 fun t => ob (k t) g := by
  simp only [D75, ob_bif, ob_ob, ob_none]
theorem f75 {ρ : Type} (fuel : Nat) (x1 : Int) (x2 : Int) (x3 : Int) (x4 : Int) (x5 : Int) (x6 : Int) (k : (Int) → Option ρ) : D75 fuel x1 x2 x3 x4 x5 x6 k = ob (F75 fuel x1 x2 x3 x4 x5 x6) k := by
  unfold F75
  rw [n75]
  simp only [ob_some]
theorem walk75 (fuel : Nat) (x1 : Int) (x2 : Int) (x3 : Int) (x4 : Int) (x5 : Int) (x6 : Int) :
    evalF (C15 fuel) fuel A75 [.agg [(.i .i64 x1), (.i .i64 x2)], .agg [(.i .i64 x3), (.i .i64 x4)], .agg [(.i .i64 x5), (.i .i64 x6)]] =
    (some [.v (.i .i64 (w64 ((w64 ((w64 (x3 - x1)) * (w64 (x6 - x2)))) - (w64 ((w64 (x4 - x2)) * (w64 (x5 - x1)))))))]) := by kernel_rfl
theorem e75 (fuel : Nat) (x1 : Int) (x2 : Int) (x3 : Int) (x4 : Int) (x5 : Int) (x6 : Int) : evalF (C15 fuel) fuel A75 [.agg [(.i .i64 x1), (.i .i64 x2)], .agg [(.i .i64 x3), (.i .i64 x4)], .agg [(.i .i64 x5), (.i .i64 x6)]] = ob (F75 fuel x1 x2 x3 x4 x5 x6) fun t => some [.v (.i .i64 t)] := by
  rw [walk75, ← f75]
  simp only [D75]
def O75 (fuel : Nat) : Ora where
  o := fun args {ρ} K =>
    wc args fun a1 l2 =>
    wagg a1 fun l3 =>
    wc l3 fun c4 l5 =>
    wI .i64 c4 fun y6 =>
    wc l5 fun c8 l9 =>
    wI .i64 c8 fun y10 =>
    wn l9 <|
    wc l2 fun a12 l13 =>
    wagg a12 fun l14 =>
    wc l14 fun c15 l16 =>
    wI .i64 c15 fun y17 =>
    wc l16 fun c19 l20 =>
    wI .i64 c19 fun y21 =>
    wn l20 <|
    wc l13 fun a23 l24 =>
    wagg a23 fun l25 =>
    wc l25 fun c26 l27 =>
    wI .i64 c26 fun y28 =>
    wc l27 fun c30 l31 =>
    wI .i64 c30 fun y32 =>
    wn l31 <|
    wn l24 <|
    (ob (F75 fuel y6 y10 y17 y21 y28 y32) fun t => K [.v (.i .i64 t)])
  nat := fun args {ρ} K => by
    simp only [bind_wc, bind_wn, bind_wv, bind_wagg, bind_wI, bind_wB, bind_wS, bind_wL, bind_wP, bind_wFn, bind_ob, Option.bind_some]
theorem d75 {P : Program} (fuel : Nat) (hmix : P.follows .mixedOrders = true) (hC : Sound P (C15 fuel)) (hF : FFits P 75 A75) (args res : List A) (h : (O75 fuel).o args some = some res) : Den P 75 args res := by
  obtain ⟨a1, l2, rfl, z0⟩ := inv_wc h
  obtain ⟨l3, rfl, z1⟩ := inv_wagg z0
  obtain ⟨c4, l5, rfl, z2⟩ := inv_wc z1
  obtain ⟨y6, h7, z3⟩ := inv_wI z2
  obtain ⟨c8, l9, rfl, z4⟩ := inv_wc z3
  obtain ⟨y10, h11, z5⟩ := inv_wI z4
  obtain ⟨hn, z6⟩ := inv_wn z5
  cases hn
  obtain ⟨a12, l13, rfl, z7⟩ := inv_wc z6
  obtain ⟨l14, rfl, z8⟩ := inv_wagg z7
  obtain ⟨c15, l16, rfl, z9⟩ := inv_wc z8
  obtain ⟨y17, h18, z10⟩ := inv_wI z9
  obtain ⟨c19, l20, rfl, z11⟩ := inv_wc z10
  obtain ⟨y21, h22, z12⟩ := inv_wI z11
  obtain ⟨hn, z13⟩ := inv_wn z12
  cases hn
  obtain ⟨a23, l24, rfl, z14⟩ := inv_wc z13
  obtain ⟨l25, rfl, z15⟩ := inv_wagg z14
  obtain ⟨c26, l27, rfl, z16⟩ := inv_wc z15
  obtain ⟨y28, h29, z17⟩ := inv_wI z16
  obtain ⟨c30, l31, rfl, z18⟩ := inv_wc z17
  obtain ⟨y32, h33, z19⟩ := inv_wI z18
  obtain ⟨hn, z20⟩ := inv_wn z19
  cases hn
  obtain ⟨hn, z21⟩ := inv_wn z20
  cases hn
  exact Den.weaken (.cons (WkA.agg (.cons (Wk.i h7) (.cons (Wk.i h11) .nil))) (.cons (WkA.agg (.cons (Wk.i h18) (.cons (Wk.i h22) .nil))) (.cons (WkA.agg (.cons (Wk.i h29) (.cons (Wk.i h33) .nil))) .nil))) (evalF_sound hmix hC hF ((e75 fuel y6 y10 y17 y21 y28 y32).trans z21))
def C16 (fuel : Nat) : Oracle := (C15 fuel).add 75 (fun _ => true) (O75 fuel)
def A74 : AF := ⟨6, [.tmp 2],
  (.seq (.region 0 [o1 2 (.assign (ic 0))] 0 none) []
  (.seq (.region 1 [mv 3 0, o1 4 (.mm true [(tm 3), (ic (-1))] [3, 3]), o1 5 (.mm false [(tm 4), (ic 1)] [3, 3]), o1 2 (.assign (tm 5))] 0 none) []
  (.ret [0, 1, 3, 4, 5])))⟩
def D74 {ρ : Type} (fuel : Nat) (x1 : Int) (k : Int → Option ρ) : Option ρ :=
  (k (if 1 < (if (-1) > x1 then (-1) else x1) then 1 else (if (-1) > x1 then (-1) else x1)))
def F74 (fuel : Nat) (x1 : Int) : Option (Int) := D74 fuel x1 some
theorem n74 {ρ σ : Type} (fuel : Nat) (x1 : Int) (k : (Int) → Option ρ) (g : ρ → Option σ) : ob (D74 fuel x1 k) g = D74 fuel x1 fun t => ob (k t) g := by
  simp only [D74, ob_bif, ob_ob, ob_none]
theorem f74 {ρ : Type} (fuel : Nat) (x1 : Int) (k : (Int) → Option ρ) : D74 fuel x1 k = ob (F74 fuel x1) k := by
  unfold F74
  rw [n74]
  simp only [ob_some]
theorem walk74 (fuel : Nat) (x1 : Int) :
    evalF (C16 fuel) fuel A74 [.v (.i .i64 x1)] =
    (some [.v (.i .i64 (if 1 < (if (-1) > x1 then (-1) else x1) then 1 else (if (-1) > x1 then (-1) else x1)))]) := by kernel_rfl
theorem e74 (fuel : Nat) (x1 : Int) : evalF (C16 fuel) fuel A74 [.v (.i .i64 x1)] = ob (F74 fuel x1) fun t => some [.v (.i .i64 t)] := by
  rw [walk74, ← f74]
  simp only [D74]
def O74 (fuel : Nat) : Ora where
  o := fun args {ρ} K =>
    wc args fun a1 l2 =>
    wv a1 fun c3 =>
    wI .i64 c3 fun y4 =>
    wn l2 <|
    (ob (F74 fuel y4) fun t => K [.v (.i .i64 t)])
  nat := fun args {ρ} K => by
    simp only [bind_wc, bind_wn, bind_wv, bind_wagg, bind_wI, bind_wB, bind_wS, bind_wL, bind_wP, bind_wFn, bind_ob, Option.bind_some]
theorem d74 {P : Program} (fuel : Nat) (hmix : P.follows .mixedOrders = true) (hC : Sound P (C16 fuel)) (hF : FFits P 74 A74) (args res : List A) (h : (O74 fuel).o args some = some res) : Den P 74 args res := by
  obtain ⟨a1, l2, rfl, z0⟩ := inv_wc h
  obtain ⟨c3, rfl, z1⟩ := inv_wv z0
  obtain ⟨y4, h5, z2⟩ := inv_wI z1
  obtain ⟨hn, z3⟩ := inv_wn z2
  cases hn
  exact Den.weaken (.cons (WkA.v (Wk.i h5)) .nil) (evalF_sound hmix hC hF ((e74 fuel y4).trans z3))
def C17 (fuel : Nat) : Oracle := (C16 fuel).add 74 (fun _ => true) (O74 fuel)
def A76 : AF := ⟨45, [.tmp 6],
  (.seq (.region 0 [o1 3 (.box 0 34 (tm 0)), o1 4 (.box 1 34 (tm 1)), o1 5 (.box 2 34 (tm 2)), o1 6 (.assign (.const (.bool false)))] 3 none) []
  (.seq (.region 1 [o1 7 (.fieldAddr 34 (tm 5) 0 0), o1 8 (.load 3 none (tm 7)), o1 9 (.fieldAddr 34 (tm 3) 0 0), o1 10 (.load 3 none (tm 9)), o1 11 (.fieldAddr 34 (tm 4) 0 0), o1 12 (.load 3 none (tm 11)), o1 13 (.mm false [(tm 10), (tm 12)] [3, 3]), o1 14 (.binOp .geq 3 (tm 8) (tm 13) 3), mv 15 14, og 16 (.fieldAddr 34 (tm 5) 0 0) 15 true, og 17 (.load 3 none (tm 16)) 15 true, og 18 (.fieldAddr 34 (tm 3) 0 0) 15 true, og 19 (.load 3 none (tm 18)) 15 true, og 20 (.fieldAddr 34 (tm 4) 0 0) 15 true, og 21 (.load 3 none (tm 20)) 15 true, og 22 (.mm true [(tm 19), (tm 21)] [3, 3]) 15 true, og 23 (.binOp .leq 3 (tm 17) (tm 22) 3) 15 true, o1 24 (.pick (tm 15) (tm 23) (.const (.bool false))), mv 25 24, og 26 (.fieldAddr 34 (tm 5) 1 1) 25 true, og 27 (.load 3 none (tm 26)) 25 true, og 28 (.fieldAddr 34 (tm 3) 1 1) 25 true, og 29 (.load 3 none (tm 28)) 25 true, og 30 (.fieldAddr 34 (tm 4) 1 1) 25 true, og 31 (.load 3 none (tm 30)) 25 true, og 32 (.mm false [(tm 29), (tm 31)] [3, 3]) 25 true, og 33 (.binOp .geq 3 (tm 27) (tm 32) 3) 25 true, o1 34 (.pick (tm 25) (tm 33) (.const (.bool false))), mv 35 34, og 36 (.fieldAddr 34 (tm 5) 1 1) 35 true, og 37 (.load 3 none (tm 36)) 35 true, og 38 (.fieldAddr 34 (tm 3) 1 1) 35 true, og 39 (.load 3 none (tm 38)) 35 true, og 40 (.fieldAddr 34 (tm 4) 1 1) 35 true, og 41 (.load 3 none (tm 40)) 35 true, og 42 (.mm true [(tm 39), (tm 41)] [3, 3]) 35 true, og 43 (.binOp .leq 3 (tm 37) (tm 42) 3) 35 true, o1 44 (.pick (tm 35) (tm 43) (.const (.bool false))), o1 6 (.assign (tm 44))] 0 none) []
  (.ret (rl 0 6 (rl 7 38 [])))))⟩
def D76 {ρ : Type} (fuel : Nat) (x1 : Int) (x2 : Int) (x3 : Int) (x4 : Int) (x5 : Int) (x6 : Int) (k : Bool → Option ρ) : Option ρ :=
  (bif ((decide (x5 ≥ (if x3 < x1 then x3 else x1))) == true) then (bif ((decide (x5 ≤ (if x3 > x1 then x3 else x1))) == true) then (bif ((decide (x6 ≥ (if x4 < x2 then x4 else x2))) == true) then (k (decide (x6 ≤ (if x4 > x2 then x4 else x2)))) else (k false)) else (k false)) else (k false))
def F76 (fuel : Nat) (x1 : Int) (x2 : Int) (x3 : Int) (x4 : Int) (x5 : Int) (x6 : Int) : Option (Bool) := D76 fuel x1 x2 x3 x4 x5 x6 some
theorem n76 {ρ σ : Type} (fuel : Nat) (x1 : Int) (x2 : Int) (x3 : Int) (x4 : Int) (x5 : Int) (x6 : Int) (k : (Bool) → Option ρ) (g : ρ → Option σ) : ob (D76 fuel x1 x2 x3 x4 x5 x6 k) g = D76 fuel x1 x2 x3 x4 x5 x6 fun t => ob (k t) g := by
  simp only [D76, ob_bif, ob_ob, ob_none]
theorem f76 {ρ : Type} (fuel : Nat) (x1 : Int) (x2 : Int) (x3 : Int) (x4 : Int) (x5 : Int) (x6 : Int) (k : (Bool) → Option ρ) : D76 fuel x1 x2 x3 x4 x5 x6 k = ob (F76 fuel x1 x2 x3 x4 x5 x6) k := by
  unfold F76
  rw [n76]
  simp only [ob_some]
theorem walk76 (fuel : Nat) (x1 : Int) (x2 : Int) (x3 : Int) (x4 : Int) (x5 : Int) (x6 : Int) :
    evalF (C17 fuel) fuel A76 [.agg [(.i .i64 x1), (.i .i64 x2)], .agg [(.i .i64 x3), (.i .i64 x4)], .agg [(.i .i64 x5), (.i .i64 x6)]] =
    (bif ((decide (x5 ≥ (if x3 < x1 then x3 else x1))) == true) then (bif ((decide (x5 ≤ (if x3 > x1 then x3 else x1))) == true) then (bif ((decide (x6 ≥ (if x4 < x2 then x4 else x2))) == true) then (some [.v (.b (decide (x6 ≤ (if x4 > x2 then x4 else x2))))]) else (some [.v (.b false)])) else (some [.v (.b false)])) else (some [.v (.b false)])) := by kernel_rfl
theorem e76 (fuel : Nat) (x1 : Int) (x2 : Int) (x3 : Int) (x4 : Int) (x5 : Int) (x6 : Int) : evalF (C17 fuel) fuel A76 [.agg [(.i .i64 x1), (.i .i64 x2)], .agg [(.i .i64 x3), (.i .i64 x4)], .agg [(.i .i64 x5), (.i .i64 x6)]] = ob (F76 fuel x1 x2 x3 x4 x5 x6) fun t => some [.v (.b t)] := by
  rw [walk76, ← f76]
  simp only [D76]
def O76 (fuel : Nat) : Ora where
  o := fun args {ρ} K =>
    wc args fun a1 l2 =>
    wagg a1 fun l3 =>
    wc l3 fun c4 l5 =>
    wI .i64 c4 fun y6 =>
    wc l5 fun c8 l9 =>
    wI .i64 c8 fun y10 =>
    wn l9 <|
    wc l2 fun a12 l13 =>
    wagg a12 fun l14 =>
    wc l14 fun c15 l16 =>
    wI .i64 c15 fun y17 =>
    wc l16 fun c19 l20 =>
    wI .i64 c19 fun y21 =>
    wn l20 <|
    wc l13 fun a23 l24 =>
    wagg a23 fun l25 =>
    wc l25 fun c26 l27 =>
    wI .i64 c26 fun y28 =>
    wc l27 fun c30 l31 =>
    wI .i64 c30 fun y32 =>
    wn l31 <|
    wn l24 <|
    (ob (F76 fuel y6 y10 y17 y21 y28 y32) fun t => K [.v (.b t)])
  nat := fun args {ρ} K => by
    simp only [bind_wc, bind_wn, bind_wv, bind_wagg, bind_wI, bind_wB, bind_wS, bind_wL, bind_wP, bind_wFn, bind_ob, Option.bind_some]
theorem d76 {P : Program} (fuel : Nat) (hmix : P.follows .mixedOrders = true) (hC : Sound P (C17 fuel)) (hF : FFits P 76 A76) (args res : List A) (h : (O76 fuel).o args some = some res) : Den P 76 args res := by
  obtain ⟨a1, l2, rfl, z0⟩ := inv_wc h
  obtain ⟨l3, rfl, z1⟩ := inv_wagg z0
  obtain ⟨c4, l5, rfl, z2⟩ := inv_wc z1
  obtain ⟨y6, h7, z3⟩ := inv_wI z2
  obtain ⟨c8, l9, rfl, z4⟩ := inv_wc z3
  obtain ⟨y10, h11, z5⟩ := inv_wI z4
  obtain ⟨hn, z6⟩ := inv_wn z5
  cases hn
  obtain ⟨a12, l13, rfl, z7⟩ := inv_wc z6
  obtain ⟨l14, rfl, z8⟩ := inv_wagg z7
  obtain ⟨c15, l16, rfl, z9⟩ := inv_wc z8
  obtain ⟨y17, h18, z10⟩ := inv_wI z9
  obtain ⟨c19, l20, rfl, z11⟩ := inv_wc z10
  obtain ⟨y21, h22, z12⟩ := inv_wI z11
  obtain ⟨hn, z13⟩ := inv_wn z12
  cases hn
  obtain ⟨a23, l24, rfl, z14⟩ := inv_wc z13
  obtain ⟨l25, rfl, z15⟩ := inv_wagg z14
  obtain ⟨c26, l27, rfl, z16⟩ := inv_wc z15
  obtain ⟨y28, h29, z17⟩ := inv_wI z16
  obtain ⟨c30, l31, rfl, z18⟩ := inv_wc z17
  obtain ⟨y32, h33, z19⟩ := inv_wI z18
  obtain ⟨hn, z20⟩ := inv_wn z19
  cases hn
  obtain ⟨hn, z21⟩ := inv_wn z20
  cases hn
  exact Den.weaken (.cons (WkA.agg (.cons (Wk.i h7) (.cons (Wk.i h11) .nil))) (.cons (WkA.agg (.cons (Wk.i h18) (.cons (Wk.i h22) .nil))) (.cons (WkA.agg (.cons (Wk.i h29) (.cons (Wk.i h33) .nil))) .nil))) (evalF_sound hmix hC hF ((e76 fuel y6 y10 y17 y21 y28 y32).trans z21))
def C18 (fuel : Nat) : Oracle := (C17 fuel).add 76 (fun _ => true) (O76 fuel)
def A56v1 : AC := (.seq (.region 5 [mv 43 9, o1 44 (.binOp .eql 3 (tm 43) (ic 0) 3), mv 45 44, og 46 (.load 34 (some 2) (tm 4)) 45 true, og 47 (.load 34 (some 2) (tm 5)) 45 true, og 48 (.load 34 (some 2) (tm 6)) 45 true, og 49 (.call 76 [(tm 46), (tm 47), (tm 48)] [34, 34, 34] .snap) 45 true, o1 50 (.pick (tm 45) (tm 49) (.const (.bool false))), mv 51 50, og 52 (.move (tm 10)) 51 false, og 53 (.binOp .eql 3 (tm 52) (ic 0) 3) 51 false, og 54 (.move (tm 53)) 51 false, og 55 (.load 34 (some 2) (tm 4)) 54 true, og 56 (.load 34 (some 2) (tm 5)) 54 true, og 57 (.load 34 (some 2) (tm 7)) 54 true, og 58 (.call 76 [(tm 55), (tm 56), (tm 57)] [34, 34, 34] .snap) 54 true, og 59 (.pick (tm 54) (tm 58) (.const (.bool false))) 51 false, o1 60 (.pick (tm 51) (.const (.bool true)) (tm 59)), mv 61 60, og 62 (.move (tm 11)) 61 false, og 63 (.binOp .eql 3 (tm 62) (ic 0) 3) 61 false, og 64 (.move (tm 63)) 61 false, og 65 (.load 34 (some 2) (tm 6)) 64 true, og 66 (.load 34 (some 2) (tm 7)) 64 true, og 67 (.load 34 (some 2) (tm 4)) 64 true, og 68 (.call 76 [(tm 65), (tm 66), (tm 67)] [34, 34, 34] .snap) 64 true, og 69 (.pick (tm 64) (tm 68) (.const (.bool false))) 61 false, o1 70 (.pick (tm 61) (.const (.bool true)) (tm 69)), mv 71 70, og 72 (.move (tm 12)) 71 false, og 73 (.binOp .eql 3 (tm 72) (ic 0) 3) 71 false, og 74 (.move (tm 73)) 71 false, og 75 (.load 34 (some 2) (tm 6)) 74 true, og 76 (.load 34 (some 2) (tm 7)) 74 true, og 77 (.load 34 (some 2) (tm 5)) 74 true, og 78 (.call 76 [(tm 75), (tm 76), (tm 77)] [34, 34, 34] .snap) 74 true, og 79 (.pick (tm 74) (tm 78) (.const (.bool false))) 71 false, o1 80 (.pick (tm 71) (.const (.bool true)) (tm 79)), o1 8 (.assign (tm 80))] 0 none) []
  (.ret (rl 0 8 (rl 9 72 []))))
def A56 : AF := ⟨81, [.tmp 8],
  (.seq (.region 0 [o1 4 (.box 0 34 (tm 0)), o1 5 (.box 1 34 (tm 1)), o1 6 (.box 2 34 (tm 2)), o1 7 (.box 3 34 (tm 3)), o1 8 (.assign (.const (.bool false)))] 4 none) []
  (.seq (.region 1 [o1 13 (.load 34 (some 2) (tm 4)), o1 14 (.load 34 (some 2) (tm 5)), o1 15 (.load 34 (some 2) (tm 6)), o1 16 (.call 75 [(tm 13), (tm 14), (tm 15)] [34, 34, 34] .snap), o1 17 (.call 74 [(tm 16)] [3] .snap), o1 18 (.load 34 (some 2) (tm 4)), o1 19 (.load 34 (some 2) (tm 5)), o1 20 (.load 34 (some 2) (tm 7)), o1 21 (.call 75 [(tm 18), (tm 19), (tm 20)] [34, 34, 34] .snap), o1 22 (.call 74 [(tm 21)] [3] .snap), o1 9 (.assign (tm 17)), o1 10 (.assign (tm 22))] 0 (some [[], [], [], [0, 1, 2], (rl 0 4 []), [], [], [], (rl 0 8 []), (rl 0 9 []), (rl 0 10 []), (rl 0 11 [])])) []
  (.seq (.region 2 [o1 23 (.load 34 (some 2) (tm 6)), o1 24 (.load 34 (some 2) (tm 7)), o1 25 (.load 34 (some 2) (tm 4)), o1 26 (.call 75 [(tm 23), (tm 24), (tm 25)] [34, 34, 34] .snap), o1 27 (.call 74 [(tm 26)] [3] .snap), o1 28 (.load 34 (some 2) (tm 6)), o1 29 (.load 34 (some 2) (tm 7)), o1 30 (.load 34 (some 2) (tm 5)), o1 31 (.call 75 [(tm 28), (tm 29), (tm 30)] [34, 34, 34] .snap), o1 32 (.call 74 [(tm 31)] [3] .snap), o1 11 (.assign (tm 27)), o1 12 (.assign (tm 32))] 0 (some [[], [], [], [0, 1, 2], (rl 0 4 []), [], [], [], (rl 0 8 []), (rl 0 9 []), (rl 0 10 []), (rl 0 11 [])])) []
  (.seq (.seq (.region 3 [mv 33 9, mv 34 10, o1 35 (.binOp .mul 3 (tm 33) (tm 34) 3), o1 36 (.binOp .lss 3 (tm 35) (ic 0) 3), mv 37 36, og 38 (.move (tm 11)) 37 true, og 39 (.move (tm 12)) 37 true, og 40 (.binOp .mul 3 (tm 38) (tm 39) 3) 37 true, og 41 (.binOp .lss 3 (tm 40) (ic 0) 3) 37 true, o1 42 (.pick (tm 37) (tm 41) (.const (.bool false)))] 0 none) []
  (.cond (tm 42)
  (.seq (.region 4 [o1 8 (.assign (.const (.bool true)))] 0 none) []
    (.ret (rl 0 8 (rl 9 72 []))))
  .skip)) (8 :: (rl 33 10 []))
  A56v1))))⟩
def D56 {ρ : Type} (fuel : Nat) (x1 : Int) (x2 : Int) (x3 : Int) (x4 : Int) (x5 : Int) (x6 : Int) (x7 : Int) (x8 : Int) (k : Bool → Option ρ) : Option ρ :=
  (ob (F75 fuel x1 x2 x3 x4 x5 x6) fun x9 => (ob (F74 fuel x9) fun x10 => (ob (F75 fuel x1 x2 x3 x4 x7 x8) fun x11 => (ob (F74 fuel x11) fun x12 => (ob (F75 fuel x5 x6 x7 x8 x1 x2) fun x13 => (ob (F74 fuel x13) fun x14 => (ob (F75 fuel x5 x6 x7 x8 x3 x4) fun x15 => (ob (F74 fuel x15) fun x16 => (bif ((decide ((w64 (x10 * x12)) < 0)) == true) then (bif (decide ((w64 (x14 * x16)) < 0)) then (k true) else (bif ((x10 == 0) == true) then (ob (F76 fuel x1 x2 x3 x4 x5 x6) fun x17 => (bif (x17 == false) then (bif ((x12 == 0) == true) then (ob (F76 fuel x1 x2 x3 x4 x7 x8) fun x18 => (bif (x18 == false) then (bif ((x14 == 0) == true) then (ob (F76 fuel x5 x6 x7 x8 x1 x2) fun x19 => (bif (x19 == false) then (bif ((x16 == 0) == true) then (ob (F76 fuel x5 x6 x7 x8 x3 x4) fun x20 => (k x20)) else (k false)) else (k true))) else (bif ((x16 == 0) == true) then (ob (F76 fuel x5 x6 x7 x8 x3 x4) fun x21 => (k x21)) else (k false))) else (k true))) else (bif ((x14 == 0) == true) then (ob (F76 fuel x5 x6 x7 x8 x1 x2) fun x22 => (bif (x22 == false) then (bif ((x16 == 0) == true) then (ob (F76 fuel x5 x6 x7 x8 x3 x4) fun x23 => (k x23)) else (k false)) else (k true))) else (bif ((x16 == 0) == true) then (ob (F76 fuel x5 x6 x7 x8 x3 x4) fun x24 => (k x24)) else (k false)))) else (k true))) else (bif ((x12 == 0) == true) then (ob (F76 fuel x1 x2 x3 x4 x7 x8) fun x25 => (bif (x25 == false) then (bif ((x14 == 0) == true) then (ob (F76 fuel x5 x6 x7 x8 x1 x2) fun x26 => (bif (x26 == false) then (bif ((x16 == 0) == true) then (ob (F76 fuel x5 x6 x7 x8 x3 x4) fun x27 => (k x27)) else (k false)) else (k true))) else (bif ((x16 == 0) == true) then (ob (F76 fuel x5 x6 x7 x8 x3 x4) fun x28 => (k x28)) else (k false))) else (k true))) else (bif ((x14 == 0) == true) then (ob (F76 fuel x5 x6 x7 x8 x1 x2) fun x29 => (bif (x29 == false) then (bif ((x16 == 0) == true) then (ob (F76 fuel x5 x6 x7 x8 x3 x4) fun x30 => (k x30)) else (k false)) else (k true))) else (bif ((x16 == 0) == true) then (ob (F76 fuel x5 x6 x7 x8 x3 x4) fun x31 => (k x31)) else (k false)))))) else (bif ((x10 == 0) == true) then (ob (F76 fuel x1 x2 x3 x4 x5 x6) fun x32 => (bif (x32 == false) then (bif ((x12 == 0) == true) then (ob (F76 fuel x1 x2 x3 x4 x7 x8) fun x33 => (bif (x33 == false) then (bif ((x14 == 0) == true) then (ob (F76 fuel x5 x6 x7 x8 x1 x2) fun x34 => (bif (x34 == false) then (bif ((x16 == 0) == true) then (ob (F76 fuel x5 x6 x7 x8 x3 x4) fun x35 => (k x35)) else (k false)) else (k true))) else (bif ((x16 == 0) == true) then (ob (F76 fuel x5 x6 x7 x8 x3 x4) fun x36 => (k x36)) else (k false))) else (k true))) else (bif ((x14 == 0) == true) then (ob (F76 fuel x5 x6 x7 x8 x1 x2) fun x37 => (bif (x37 == false) then (bif ((x16 == 0) == true) then (ob (F76 fuel x5 x6 x7 x8 x3 x4) fun x38 => (k x38)) else (k false)) else (k true))) else (bif ((x16 == 0) == true) then (ob (F76 fuel x5 x6 x7 x8 x3 x4) fun x39 => (k x39)) else (k false)))) else (k true))) else (bif ((x12 == 0) == true) then (ob (F76 fuel x1 x2 x3 x4 x7 x8) fun x40 => (bif (x40 == false) then (bif ((x14 == 0) == true) then (ob (F76 fuel x5 x6 x7 x8 x1 x2) fun x41 => (bif (x41 == false) then (bif ((x16 == 0) == true) then (ob (F76 fuel x5 x6 x7 x8 x3 x4) fun x42 => (k x42)) else (k false)) else (k true))) else (bif ((x16 == 0) == true) then (ob (F76 fuel x5 x6 x7 x8 x3 x4) fun x43 => (k x43)) else (k false))) else (k true))) else (bif ((x14 == 0) == true) then (ob (F76 fuel x5 x6 x7 x8 x1 x2) fun x44 => (bif (x44 == false) then (bif ((x16 == 0) == true) then (ob (F76 fuel x5 x6 x7 x8 x3 x4) fun x45 => (k x45)) else (k false)) else (k true))) else (bif ((x16 == 0) == true) then (ob (F76 fuel x5 x6 x7 x8 x3 x4) fun x46 => (k x46)) else (k false))))))))))))))
def F56 (fuel : Nat) (x1 : Int) (x2 : Int) (x3 : Int) (x4 : Int) (x5 : Int) (x6 : Int) (x7 : Int) (x8 : Int) : Option (Bool) := D56 fuel x1 x2 x3 x4 x5 x6 x7 x8 some
theorem n56 {ρ σ : Type} (fuel : Nat) (x1 : Int) (x2 : Int) (x3 : Int) (x4 : Int) (x5 : Int) (x6 : Int) (x7 : Int) (x8 : Int) (k : (Bool) → Option ρ) (g : ρ → Option σ) : ob (D56 fuel x1 x2 x3 x4 x5 x6 x7 x8 k) g = D56 fuel x1 x2 x3 x4 x5 x6 x7 x8 fun t => ob (k t) g := by
  simp only [D56, ob_bif, ob_ob, ob_none]
theorem f56 {ρ : Type} (fuel : Nat) (x1 : Int) (x2 : Int) (x3 : Int) (x4 : Int) (x5 : Int) (x6 : Int) (x7 : Int) (x8 : Int) (k : (Bool) → Option ρ) : D56 fuel x1 x2 x3 x4 x5 x6 x7 x8 k = ob (F56 fuel x1 x2 x3 x4 x5 x6 x7 x8) k := by
  unfold F56
  rw [n56]
  simp only [ob_some]
theorem walk56 (fuel : Nat) (x1 : Int) (x2 : Int) (x3 : Int) (x4 : Int) (x5 : Int) (x6 : Int) (x7 : Int) (x8 : Int) :
    evalF (C18 fuel) fuel A56 [.agg [(.i .i64 x1), (.i .i64 x2)], .agg [(.i .i64 x3), (.i .i64 x4)], .agg [(.i .i64 x5), (.i .i64 x6)], .agg [(.i .i64 x7), (.i .i64 x8)]] =
    (ob (F75 fuel x1 x2 x3 x4 x5 x6) fun x9 => (ob (F74 fuel x9) fun x10 => (ob (F75 fuel x1 x2 x3 x4 x7 x8) fun x11 => (ob (F74 fuel x11) fun x12 => (ob (F75 fuel x5 x6 x7 x8 x1 x2) fun x13 => (ob (F74 fuel x13) fun x14 => (ob (F75 fuel x5 x6 x7 x8 x3 x4) fun x15 => (ob (F74 fuel x15) fun x16 => (bif ((decide ((w64 (x10 * x12)) < 0)) == true) then (bif (decide ((w64 (x14 * x16)) < 0)) then (some [.v (.b true)]) else (bif ((x10 == 0) == true) then (ob (F76 fuel x1 x2 x3 x4 x5 x6) fun x17 => (bif (x17 == false) then (bif ((x12 == 0) == true) then (ob (F76 fuel x1 x2 x3 x4 x7 x8) fun x18 => (bif (x18 == false) then (bif ((x14 == 0) == true) then (ob (F76 fuel x5 x6 x7 x8 x1 x2) fun x19 => (bif (x19 == false) then (bif ((x16 == 0) == true) then (ob (F76 fuel x5 x6 x7 x8 x3 x4) fun x20 => (some [.v (.b x20)])) else (some [.v (.b false)])) else (some [.v (.b true)]))) else (bif ((x16 == 0) == true) then (ob (F76 fuel x5 x6 x7 x8 x3 x4) fun x21 => (some [.v (.b x21)])) else (some [.v (.b false)]))) else (some [.v (.b true)]))) else (bif ((x14 == 0) == true) then (ob (F76 fuel x5 x6 x7 x8 x1 x2) fun x22 => (bif (x22 == false) then (bif ((x16 == 0) == true) then (ob (F76 fuel x5 x6 x7 x8 x3 x4) fun x23 => (some [.v (.b x23)])) else (some [.v (.b false)])) else (some [.v (.b true)]))) else (bif ((x16 == 0) == true) then (ob (F76 fuel x5 x6 x7 x8 x3 x4) fun x24 => (some [.v (.b x24)])) else (some [.v (.b false)])))) else (some [.v (.b true)]))) else (bif ((x12 == 0) == true) then (ob (F76 fuel x1 x2 x3 x4 x7 x8) fun x25 => (bif (x25 == false) then (bif ((x14 == 0) == true) then (ob (F76 fuel x5 x6 x7 x8 x1 x2) fun x26 => (bif (x26 == false) then (bif ((x16 == 0) == true) then (ob (F76 fuel x5 x6 x7 x8 x3 x4) fun x27 => (some [.v (.b x27)])) else (some [.v (.b false)])) else (some [.v (.b true)]))) else (bif ((x16 == 0) == true) then (ob (F76 fuel x5 x6 x7 x8 x3 x4) fun x28 => (some [.v (.b x28)])) else (some [.v (.b false)]))) else (some [.v (.b true)]))) else (bif ((x14 == 0) == true) then (ob (F76 fuel x5 x6 x7 x8 x1 x2) fun x29 => (bif (x29 == false) then (bif ((x16 == 0) == true) then (ob (F76 fuel x5 x6 x7 x8 x3 x4) fun x30 => (some [.v (.b x30)])) else (some [.v (.b false)])) else (some [.v (.b true)]))) else (bif ((x16 == 0) == true) then (ob (F76 fuel x5 x6 x7 x8 x3 x4) fun x31 => (some [.v (.b x31)])) else (some [.v (.b false)])))))) else (bif ((x10 == 0) == true) then (ob (F76 fuel x1 x2 x3 x4 x5 x6) fun x32 => (bif (x32 == false) then (bif ((x12 == 0) == true) then (ob (F76 fuel x1 x2 x3 x4 x7 x8) fun x33 => (bif (x33 == false) then (bif ((x14 == 0) == true) then (ob (F76 fuel x5 x6 x7 x8 x1 x2) fun x34 => (bif (x34 == false) then (bif ((x16 == 0) == true) then (ob (F76 fuel x5 x6 x7 x8 x3 x4) fun x35 => (some [.v (.b x35)])) else (some [.v (.b false)])) else (some [.v (.b true)]))) else (bif ((x16 == 0) == true) then (ob (F76 fuel x5 x6 x7 x8 x3 x4) fun x36 => (some [.v (.b x36)])) else (some [.v (.b false)]))) else (some [.v (.b true)]))) else (bif ((x14 == 0) == true) then (ob (F76 fuel x5 x6 x7 x8 x1 x2) fun x37 => (bif (x37 == false) then (bif ((x16 == 0) == true) then (ob (F76 fuel x5 x6 x7 x8 x3 x4) fun x38 => (some [.v (.b x38)])) else (some [.v (.b false)])) else (some [.v (.b true)]))) else (bif ((x16 == 0) == true) then (ob (F76 fuel x5 x6 x7 x8 x3 x4) fun x39 => (some [.v (.b x39)])) else (some [.v (.b false)])))) else (some [.v (.b true)]))) else (bif ((x12 == 0) == true) then (ob (F76 fuel x1 x2 x3 x4 x7 x8) fun x40 => (bif (x40 == false) then (bif ((x14 == 0) == true) then (ob (F76 fuel x5 x6 x7 x8 x1 x2) fun x41 => (bif (x41 == false) then (bif ((x16 == 0) == true) then (ob (F76 fuel x5 x6 x7 x8 x3 x4) fun x42 => (some [.v (.b x42)])) else (some [.v (.b false)])) else (some [.v (.b true)]))) else (bif ((x16 == 0) == true) then (ob (F76 fuel x5 x6 x7 x8 x3 x4) fun x43 => (some [.v (.b x43)])) else (some [.v (.b false)]))) else (some [.v (.b true)]))) else (bif ((x14 == 0) == true) then (ob (F76 fuel x5 x6 x7 x8 x1 x2) fun x44 => (bif (x44 == false) then (bif ((x16 == 0) == true) then (ob (F76 fuel x5 x6 x7 x8 x3 x4) fun x45 => (some [.v (.b x45)])) else (some [.v (.b false)])) else (some [.v (.b true)]))) else (bif ((x16 == 0) == true) then (ob (F76 fuel x5 x6 x7 x8 x3 x4) fun x46 => (some [.v (.b x46)])) else (some [.v (.b false)])))))))))))))) := by kernel_rfl
theorem e56 (fuel : Nat) (x1 : Int) (x2 : Int) (x3 : Int) (x4 : Int) (x5 : Int) (x6 : Int) (x7 : Int) (x8 : Int) : evalF (C18 fuel) fuel A56 [.agg [(.i .i64 x1), (.i .i64 x2)], .agg [(.i .i64 x3), (.i .i64 x4)], .agg [(.i .i64 x5), (.i .i64 x6)], .agg [(.i .i64 x7), (.i .i64 x8)]] = ob (F56 fuel x1 x2 x3 x4 x5 x6 x7 x8) fun t => some [.v (.b t)] := by
  rw [walk56, ← f56]
  simp only [D56]
def O56 (fuel : Nat) : Ora where
  o := fun args {ρ} K =>
    wc args fun a1 l2 =>
    wagg a1 fun l3 =>
    wc l3 fun c4 l5 =>
    wI .i64 c4 fun y6 =>
    wc l5 fun c8 l9 =>
    wI .i64 c8 fun y10 =>
    wn l9 <|
    wc l2 fun a12 l13 =>
    wagg a12 fun l14 =>
    wc l14 fun c15 l16 =>
    wI .i64 c15 fun y17 =>
    wc l16 fun c19 l20 =>
    wI .i64 c19 fun y21 =>
    wn l20 <|
    wc l13 fun a23 l24 =>
    wagg a23 fun l25 =>
    wc l25 fun c26 l27 =>
    wI .i64 c26 fun y28 =>
    wc l27 fun c30 l31 =>
    wI .i64 c30 fun y32 =>
    wn l31 <|
    wc l24 fun a34 l35 =>
    wagg a34 fun l36 =>
    wc l36 fun c37 l38 =>
    wI .i64 c37 fun y39 =>
    wc l38 fun c41 l42 =>
    wI .i64 c41 fun y43 =>
    wn l42 <|
    wn l35 <|
    (ob (F56 fuel y6 y10 y17 y21 y28 y32 y39 y43) fun t => K [.v (.b t)])
  nat := fun args {ρ} K => by
    simp only [bind_wc, bind_wn, bind_wv, bind_wagg, bind_wI, bind_wB, bind_wS, bind_wL, bind_wP, bind_wFn, bind_ob, Option.bind_some]
theorem d56 {P : Program} (fuel : Nat) (hmix : P.follows .mixedOrders = true) (hC : Sound P (C18 fuel)) (hF : FFits P 56 A56) (args res : List A) (h : (O56 fuel).o args some = some res) : Den P 56 args res := by
  obtain ⟨a1, l2, rfl, z0⟩ := inv_wc h
  obtain ⟨l3, rfl, z1⟩ := inv_wagg z0
  obtain ⟨c4, l5, rfl, z2⟩ := inv_wc z1
  obtain ⟨y6, h7, z3⟩ := inv_wI z2
  obtain ⟨c8, l9, rfl, z4⟩ := inv_wc z3
  obtain ⟨y10, h11, z5⟩ := inv_wI z4
  obtain ⟨hn, z6⟩ := inv_wn z5
  cases hn
  obtain ⟨a12, l13, rfl, z7⟩ := inv_wc z6
  obtain ⟨l14, rfl, z8⟩ := inv_wagg z7
  obtain ⟨c15, l16, rfl, z9⟩ := inv_wc z8
  obtain ⟨y17, h18, z10⟩ := inv_wI z9
  obtain ⟨c19, l20, rfl, z11⟩ := inv_wc z10
  obtain ⟨y21, h22, z12⟩ := inv_wI z11
  obtain ⟨hn, z13⟩ := inv_wn z12
  cases hn
  obtain ⟨a23, l24, rfl, z14⟩ := inv_wc z13
  obtain ⟨l25, rfl, z15⟩ := inv_wagg z14
  obtain ⟨c26, l27, rfl, z16⟩ := inv_wc z15
  obtain ⟨y28, h29, z17⟩ := inv_wI z16
  obtain ⟨c30, l31, rfl, z18⟩ := inv_wc z17
  obtain ⟨y32, h33, z19⟩ := inv_wI z18
  obtain ⟨hn, z20⟩ := inv_wn z19
  cases hn
  obtain ⟨a34, l35, rfl, z21⟩ := inv_wc z20
  obtain ⟨l36, rfl, z22⟩ := inv_wagg z21
  obtain ⟨c37, l38, rfl, z23⟩ := inv_wc z22
  obtain ⟨y39, h40, z24⟩ := inv_wI z23
  obtain ⟨c41, l42, rfl, z25⟩ := inv_wc z24
  obtain ⟨y43, h44, z26⟩ := inv_wI z25
  obtain ⟨hn, z27⟩ := inv_wn z26
  cases hn
  obtain ⟨hn, z28⟩ := inv_wn z27
  cases hn
  exact Den.weaken (.cons (WkA.agg (.cons (Wk.i h7) (.cons (Wk.i h11) .nil))) (.cons (WkA.agg (.cons (Wk.i h18) (.cons (Wk.i h22) .nil))) (.cons (WkA.agg (.cons (Wk.i h29) (.cons (Wk.i h33) .nil))) (.cons (WkA.agg (.cons (Wk.i h40) (.cons (Wk.i h44) .nil))) .nil)))) (evalF_sound hmix hC hF ((e56 fuel y6 y10 y17 y21 y28 y32 y39 y43).trans z28))
def C19 (fuel : Nat) : Oracle := (C18 fuel).add 56 (fun _ => true) (O56 fuel)
def A58v1 : AC := (.region 9 [o1 45 (.binOp .add 3 (tm 20) (ic 1) 3), mv 20 45] 0 none)
def A58v2 : AC := (.seq (.block 3
  (.seq (.region 6 [mv 22 20, o1 23 (.indexAddr 22 34 2 (tm 18) (tm 20)), o1 24 (.load 34 (some 2) (tm 23)), o1 10 (.alloc 0 34 [.c (.i .i64 0), .c (.i .i64 0)]), o1 9 (.assign (tm 22)), o0 (.store 34 2 (tm 10) (tm 24))] 1 none) []
    (.seq (.region 7 [mv 25 2, o1 26 (.load 34 (some 2) (tm 8)), mv 27 0, mv 28 7, o1 29 (.binOp .add 3 (tm 28) (ic 1) 3), mv 30 0, o1 31 (.len 22 false (tm 30)), o1 32 (.binOp .rem 3 (tm 29) (tm 31) 3), o1 33 (.indexAddr 22 34 2 (tm 27) (tm 32)), o1 34 (.load 34 (some 2) (tm 33)), o1 35 (.load 34 (some 2) (tm 10)), mv 36 1, mv 37 9, o1 38 (.binOp .add 3 (tm 37) (ic 1) 3), mv 39 1, o1 40 (.len 22 false (tm 39)), o1 41 (.binOp .rem 3 (tm 38) (tm 40) 3), o1 42 (.indexAddr 22 34 2 (tm 36) (tm 41)), o1 43 (.load 34 (some 2) (tm 42)), o1 44 (.callv (tm 25) [(tm 26), (tm 34), (tm 35), (tm 43)] [34, 34, 34, 34] .snap)] 0 (some [[], [], [], [], [3], [], [5], (rl 3 4 []), (rl 2 6 []), (rl 2 7 []), [], [], [], [12], [], [14], (rl 12 4 []), (rl 11 6 []), (rl 11 7 []), (rl 0 19 [])])) []
    (.cond (tm 44)
    (.seq (.region 8 [o1 6 (.assign (.const (.bool true)))] 0 none) []
      (.ret (rl 0 6 (rl 7 40 []))))
    .skip)))) (6 :: 9 :: 10 :: (rl 22 23 []))
  A58v1)
def A58v3 : AC := (.seq (.region 5 [o1 21 (.binOp .lss 3 (tm 20) (tm 19) 3)] 0 none) []
  (.seq (.cond (tm 21)
  .skip
  (.exit 2 (rl 3 8 (rl 14 33 [])))) []
  A58v2))
def A58v4 : AC := (.region 10 [o1 46 (.binOp .add 3 (tm 13) (ic 1) 3), mv 13 46] 0 none)
def A58v5 : AC := (.seq (.block 1
  (.seq (.region 3 [mv 15 13, o1 16 (.indexAddr 22 34 2 (tm 11) (tm 13)), o1 17 (.load 34 (some 2) (tm 16)), o1 8 (.alloc 0 34 [.c (.i .i64 0), .c (.i .i64 0)]), o1 7 (.assign (tm 15)), o0 (.store 34 2 (tm 8) (tm 17))] 1 none) []
    (.seq (.region 4 [mv 18 1, o1 19 (.len 22 false (tm 18)), o1 20 (.move (ic 0))] 0 none) []
    (.block 2
    (.loop [] (rl 3 4 (9 :: 10 :: (rl 14 4 (rl 21 26 []))))
      A58v3))))) (rl 6 5 (rl 15 31 []))
  A58v4)
def A58v6 : AC := (.seq (.region 2 [o1 14 (.binOp .lss 3 (tm 13) (tm 12) 3)] 0 none) []
  (.seq (.cond (tm 14)
  .skip
  (.exit 0 (rl 0 47 []))) []
  A58v5))
def A58v7 : AC := (.seq (.region 11 [o1 6 (.assign (.const (.bool false)))] 0 none) []
  (.ret (rl 0 6 (rl 7 40 []))))
def A58 : AF := ⟨47, [.tmp 6],
  (.seq (.region 0 [o1 6 (.assign (.const (.bool false)))] 0 none) []
  (.seq (.seq (.region 1 [mv 11 0, o1 12 (.len 22 false (tm 11)), o1 13 (.move (ic 0))] 0 none) []
  (.block 0
  (.loop [] (rl 3 8 (rl 14 33 []))
    A58v6))) (rl 6 41 [])
  A58v7))⟩
def B58v2 (C : Oracle) (fuel : Nat) {ρ : Type} : St → (Ex → St → Option ρ) → Option ρ := fun st k => evalC C fuel A58v3 st k
def N58v2 : St → Option St := fun s => s.norm (rl 3 4 (9 :: 10 :: (rl 14 4 (rl 21 26 [])))) 1
def s58v0 (x49 : Nat) (x50 : Nat → Nat → CV) (x51 : Nat) (x52 : Nat → Nat → CV) (x53 : Int) (x54 : Int) (x55 : Int) (x56 : Int) (x57 : Int) (x58 : Int) : St := ⟨(.x (.c (.ro false (.pr (.int .i64) (.pr (.int .i64) .nil)) x49 x50)) :: .x (.c (.ro false (.pr (.int .i64) (.pr (.int .i64) .nil)) x51 x52)) :: .x (.c (.fn 56 0 (listF []))) :: (us 4 (.x (.c (.i .i64 x53)) :: .x (.ptr 0 0) :: .u :: .u :: .x (.c (.ro false (.pr (.int .i64) (.pr (.int .i64) .nil)) x49 x50)) :: .x (.c (.i .i64 x54)) :: .x (.c (.i .i64 x53)) :: (us 4 (.x (.c (.ro false (.pr (.int .i64) (.pr (.int .i64) .nil)) x51 x52)) :: .x (.c (.i .i64 x55)) :: .x (.c (.i .i64 x56)) :: (us 26 [])))))), [.box [(.c (.i .i64 x57)), (.c (.i .i64 x58))]]⟩
def s58v1 (x57 : Int) (x58 : Int) (x60 : Int) (x61 : Int) : St := ⟨(us 6 (.x (.c (.b true)) :: (us 40 []))), [.box [(.c (.i .i64 x57)), (.c (.i .i64 x58))], .box [(.c (.i .i64 x60)), (.c (.i .i64 x61))]]⟩
def s58v2 (x49 : Nat) (x50 : Nat → Nat → CV) (x51 : Nat) (x52 : Nat → Nat → CV) (x54 : Int) (x53 : Int) (x57 : Int) (x58 : Int) : St := ⟨(.x (.c (.ro false (.pr (.int .i64) (.pr (.int .i64) .nil)) x49 x50)) :: .x (.c (.ro false (.pr (.int .i64) (.pr (.int .i64) .nil)) x51 x52)) :: .x (.c (.fn 56 0 (listF []))) :: (us 8 (.x (.c (.ro false (.pr (.int .i64) (.pr (.int .i64) .nil)) x49 x50)) :: .x (.c (.i .i64 x54)) :: .x (.c (.i .i64 x53)) :: (us 33 [])))), [.box [(.c (.i .i64 x57)), (.c (.i .i64 x58))]]⟩
def L58v2 {ρ : Type} (fuel : Nat) (x49 : Nat) (x50 : Nat → Nat → CV) (x51 : Nat) (x52 : Nat → Nat → CV) (x53 : Int) (x54 : Int) (x55 : Int) (x57 : Int) (x58 : Int) : Nat → Int → (Int → Int → Option ρ) → (Option ρ) → Option ρ
  | 0, _, _, _ => none
  | m + 1, x56, k0, k1 =>
    (bif (decide (x56 < x55)) then (bif (inb x56 x51) then (bif ((Int.ofNat x49) == 0) then none else (bif (inb (Int.tmod (w64 (x53 + 1)) (Int.ofNat x49)) x49) then (bif ((Int.ofNat x51) == 0) then none else (bif (inb (Int.tmod (w64 (x56 + 1)) (Int.ofNat x51)) x51) then (ob (F56 fuel x57 x58 (CV.int (x50 (Int.toNat (Int.tmod (w64 (x53 + 1)) (Int.ofNat x49))) 0)) (CV.int (x50 (Int.toNat (Int.tmod (w64 (x53 + 1)) (Int.ofNat x49))) 1)) (CV.int (x52 (Int.toNat x56) 0)) (CV.int (x52 (Int.toNat x56) 1)) (CV.int (x52 (Int.toNat (Int.tmod (w64 (x56 + 1)) (Int.ofNat x51))) 0)) (CV.int (x52 (Int.toNat (Int.tmod (w64 (x56 + 1)) (Int.ofNat x51))) 1))) fun x59 => (bif x59 then (k0 (CV.int (x52 (Int.toNat x56) 0)) (CV.int (x52 (Int.toNat x56) 1))) else (L58v2 fuel x49 x50 x51 x52 x53 x54 x55 x57 x58 m (w64 (x56 + 1)) k0 k1))) else none)) else none)) else none) else k1)
theorem nl58v2 {ρ σ : Type} (fuel : Nat) (x49 : Nat) (x50 : Nat → Nat → CV) (x51 : Nat) (x52 : Nat → Nat → CV) (x53 : Int) (x54 : Int) (x55 : Int) (x57 : Int) (x58 : Int) (g : ρ → Option σ) : ∀ (m : Nat) (x56 : Int) (k0 : Int → Int → Option ρ) (k1 : Option ρ), ob (L58v2 fuel x49 x50 x51 x52 x53 x54 x55 x57 x58 m x56 k0 k1) g = L58v2 fuel x49 x50 x51 x52 x53 x54 x55 x57 x58 m x56 (fun x60 x61 => ob (k0 x60 x61) g) (ob k1 g)
  | 0, _, _, _ => rfl
  | m + 1, x56, k0, k1 => by
    simp only [L58v2, ob_bif, ob_ob, ob_none, nl58v2 fuel x49 x50 x51 x52 x53 x54 x55 x57 x58 g m]
theorem r58v2 (fuel : Nat) (m : Nat) {ρ : Type} (k : Ex → St → Option ρ) (x49 : Nat) (x50 : Nat → Nat → CV) (x51 : Nat) (x52 : Nat → Nat → CV) (x53 : Int) (x54 : Int) (x55 : Int) (x57 : Int) (x58 : Int) (x56 : Int) :
    loopH (B58v2 (C19 fuel) fuel) N58v2 (m + 1) (s58v0 x49 x50 x51 x52 x53 x54 x55 x56 x57 x58) k =
    (bif (decide (x56 < x55)) then (bif (inb x56 x51) then (bif ((Int.ofNat x49) == 0) then none else (bif (inb (Int.tmod (w64 (x53 + 1)) (Int.ofNat x49)) x49) then (bif ((Int.ofNat x51) == 0) then none else (bif (inb (Int.tmod (w64 (x56 + 1)) (Int.ofNat x51)) x51) then (ob (F56 fuel x57 x58 (CV.int (x50 (Int.toNat (Int.tmod (w64 (x53 + 1)) (Int.ofNat x49))) 0)) (CV.int (x50 (Int.toNat (Int.tmod (w64 (x53 + 1)) (Int.ofNat x49))) 1)) (CV.int (x52 (Int.toNat x56) 0)) (CV.int (x52 (Int.toNat x56) 1)) (CV.int (x52 (Int.toNat (Int.tmod (w64 (x56 + 1)) (Int.ofNat x51))) 0)) (CV.int (x52 (Int.toNat (Int.tmod (w64 (x56 + 1)) (Int.ofNat x51))) 1))) fun x59 => (bif x59 then (k .ret (s58v1 x57 x58 (CV.int (x52 (Int.toNat x56) 0)) (CV.int (x52 (Int.toNat x56) 1)))) else (loopH (B58v2 (C19 fuel) fuel) N58v2 m (s58v0 x49 x50 x51 x52 x53 x54 x55 (w64 (x56 + 1)) x57 x58) k))) else none)) else none)) else none) else (k (.exit 2) (s58v2 x49 x50 x51 x52 x54 x53 x57 x58))) := by kernel_rfl
theorem q58v2 (fuel : Nat) (x49 : Nat) (x50 : Nat → Nat → CV) (x51 : Nat) (x52 : Nat → Nat → CV) (x53 : Int) (x54 : Int) (x55 : Int) (x57 : Int) (x58 : Int) {ρ : Type} (k : Ex → St → Option ρ) : ∀ (m : Nat) (x56 : Int),
    loopH (B58v2 (C19 fuel) fuel) N58v2 m (s58v0 x49 x50 x51 x52 x53 x54 x55 x56 x57 x58) k = L58v2 fuel x49 x50 x51 x52 x53 x54 x55 x57 x58 m x56 (fun x60 x61 => k .ret (s58v1 x57 x58 x60 x61)) (k (.exit 2) (s58v2 x49 x50 x51 x52 x54 x53 x57 x58))
  | 0, _ => rfl
  | m + 1, x56 => by
    rw [r58v2]
    simp only [L58v2, q58v2 fuel x49 x50 x51 x52 x53 x54 x55 x57 x58 k m]
def B58v3 (C : Oracle) (fuel : Nat) {ρ : Type} : St → (Ex → St → Option ρ) → Option ρ := fun st k => evalC C fuel A58v6 st k
def N58v3 : St → Option St := fun s => s.norm (rl 3 8 (rl 14 33 [])) 0
def s58v3 (x33 : Nat) (x34 : Nat → Nat → CV) (x35 : Nat) (x36 : Nat → Nat → CV) (x37 : Int) (x38 : Int) : St := ⟨(.x (.c (.ro false (.pr (.int .i64) (.pr (.int .i64) .nil)) x33 x34)) :: .x (.c (.ro false (.pr (.int .i64) (.pr (.int .i64) .nil)) x35 x36)) :: .x (.c (.fn 56 0 (listF []))) :: (us 8 (.x (.c (.ro false (.pr (.int .i64) (.pr (.int .i64) .nil)) x33 x34)) :: .x (.c (.i .i64 x37)) :: .x (.c (.i .i64 x38)) :: (us 33 [])))), []⟩
def s58v4 (x64 : Int) (x65 : Int) (x66 : Int) (x67 : Int) : St := ⟨(us 6 (.x (.c (.b true)) :: (us 40 []))), [.box [(.c (.i .i64 x64)), (.c (.i .i64 x65))], .box [(.c (.i .i64 x66)), (.c (.i .i64 x67))]]⟩
def s58v5 : St := ⟨(us 47 []), []⟩
def L58v3 {ρ : Type} (fuel : Nat) (x33 : Nat) (x34 : Nat → Nat → CV) (x35 : Nat) (x36 : Nat → Nat → CV) (x37 : Int) : Nat → Int → (Int → Int → Int → Int → Option ρ) → (Option ρ) → Option ρ
  | 0, _, _, _ => none
  | m + 1, x38, k0, k1 =>
    (bif (decide (x38 < x37)) then (bif (inb x38 x33) then (L58v2 fuel x33 x34 x35 x36 x38 x37 (Int.ofNat x35) (CV.int (x34 (Int.toNat x38) 0)) (CV.int (x34 (Int.toNat x38) 1)) fuel 0
    (fun x62 x63 => (k0 (CV.int (x34 (Int.toNat x38) 0)) (CV.int (x34 (Int.toNat x38) 1)) x62 x63))
    (L58v3 fuel x33 x34 x35 x36 x37 m (w64 (x38 + 1)) k0 k1)) else none) else k1)
theorem nl58v3 {ρ σ : Type} (fuel : Nat) (x33 : Nat) (x34 : Nat → Nat → CV) (x35 : Nat) (x36 : Nat → Nat → CV) (x37 : Int) (g : ρ → Option σ) : ∀ (m : Nat) (x38 : Int) (k0 : Int → Int → Int → Int → Option ρ) (k1 : Option ρ), ob (L58v3 fuel x33 x34 x35 x36 x37 m x38 k0 k1) g = L58v3 fuel x33 x34 x35 x36 x37 m x38 (fun x64 x65 x66 x67 => ob (k0 x64 x65 x66 x67) g) (ob k1 g)
  | 0, _, _, _ => rfl
  | m + 1, x38, k0, k1 => by
    simp only [L58v3, ob_bif, ob_ob, ob_none, nl58v3 fuel x33 x34 x35 x36 x37 g m, nl58v2]
def s58v6 (x33 : Nat) (x34 : Nat → Nat → CV) (x35 : Nat) (x36 : Nat → Nat → CV) (x38 : Int) (x37 : Int) : St := ⟨(.x (.c (.ro false (.pr (.int .i64) (.pr (.int .i64) .nil)) x33 x34)) :: .x (.c (.ro false (.pr (.int .i64) (.pr (.int .i64) .nil)) x35 x36)) :: .x (.c (.fn 56 0 (listF []))) :: (us 4 (.x (.c (.i .i64 x38)) :: .x (.ptr 0 0) :: .u :: .u :: .x (.c (.ro false (.pr (.int .i64) (.pr (.int .i64) .nil)) x33 x34)) :: .x (.c (.i .i64 x37)) :: .x (.c (.i .i64 x38)) :: .x (.c (.b true)) :: .x (.c (.i .i64 x38)) :: .x (.c (.rp (.pr (.int .i64) (.pr (.int .i64) .nil)) (x34 (Int.toNat x38)))) :: .agg [(.c (.i .i64 (CV.int (x34 (Int.toNat x38) 0)))), (.c (.i .i64 (CV.int (x34 (Int.toNat x38) 1))))] :: .x (.c (.ro false (.pr (.int .i64) (.pr (.int .i64) .nil)) x35 x36)) :: .x (.c (.i .i64 (Int.ofNat x35))) :: .x (.c (.i .i64 0)) :: (us 26 [])))), [.box [(.c (.i .i64 (CV.int (x34 (Int.toNat x38) 0)))), (.c (.i .i64 (CV.int (x34 (Int.toNat x38) 1))))]]⟩
theorem r58v3 (fuel : Nat) (m : Nat) {ρ : Type} (k : Ex → St → Option ρ) (x33 : Nat) (x34 : Nat → Nat → CV) (x35 : Nat) (x36 : Nat → Nat → CV) (x37 : Int) (x38 : Int) :
    loopH (B58v3 (C19 fuel) fuel) N58v3 (m + 1) (s58v3 x33 x34 x35 x36 x37 x38) k =
    (bif (decide (x38 < x37)) then (bif (inb x38 x33) then (loopN (B58v2 (C19 fuel) fuel) N58v2 fuel (s58v6 x33 x34 x35 x36 x38 x37) (kBlk 2 (kBlk 1 (kSeq (C19 fuel) fuel (rl 6 5 (rl 15 31 [])) A58v4 (kLoop (B58v3 (C19 fuel) fuel) N58v3 m k))))) else none) else (k (.exit 0) s58v5)) := by kernel_rfl
theorem t58v1 (fuel : Nat) {ρ : Type} (k : Ex → St → Option ρ) (x33 : Nat) (x34 : Nat → Nat → CV) (x35 : Nat) (x36 : Nat → Nat → CV) (x38 : Int) (x37 : Int) :
    loopN (B58v2 (C19 fuel) fuel) N58v2 fuel (s58v6 x33 x34 x35 x36 x38 x37) k =
    L58v2 fuel x33 x34 x35 x36 x38 x37 (Int.ofNat x35) (CV.int (x34 (Int.toNat x38) 0)) (CV.int (x34 (Int.toNat x38) 1)) fuel 0 (fun x60 x61 => k .ret (s58v1 (CV.int (x34 (Int.toNat x38) 0)) (CV.int (x34 (Int.toNat x38) 1)) x60 x61)) (k (.exit 2) (s58v2 x33 x34 x35 x36 x37 x38 (CV.int (x34 (Int.toNat x38) 0)) (CV.int (x34 (Int.toNat x38) 1)))) :=
  (loopN_at (st' := (s58v0 x33 x34 x35 x36 x38 x37 (Int.ofNat x35) 0 (CV.int (x34 (Int.toNat x38) 0)) (CV.int (x34 (Int.toNat x38) 1)))) (by kernel_rfl)).trans (q58v2 fuel x33 x34 x35 x36 x38 x37 (Int.ofNat x35) (CV.int (x34 (Int.toNat x38) 0)) (CV.int (x34 (Int.toNat x38) 1)) k fuel 0)
theorem g58v2 (fuel : Nat) (m : Nat) {ρ : Type} (k : Ex → St → Option ρ) (x34 : Nat → Nat → CV) (x38 : Int) (x62 : Int) (x63 : Int) :
    (kBlk 2 (kBlk 1 (kSeq (C19 fuel) fuel (rl 6 5 (rl 15 31 [])) A58v4 (kLoop (B58v3 (C19 fuel) fuel) N58v3 m k)))) .ret (s58v1 (CV.int (x34 (Int.toNat x38) 0)) (CV.int (x34 (Int.toNat x38) 1)) x62 x63) =
    (k .ret (s58v4 (CV.int (x34 (Int.toNat x38) 0)) (CV.int (x34 (Int.toNat x38) 1)) x62 x63)) := by kernel_rfl
theorem g58v3 (fuel : Nat) (m : Nat) {ρ : Type} (k : Ex → St → Option ρ) (x33 : Nat) (x34 : Nat → Nat → CV) (x35 : Nat) (x36 : Nat → Nat → CV) (x37 : Int) (x38 : Int) :
    (kBlk 2 (kBlk 1 (kSeq (C19 fuel) fuel (rl 6 5 (rl 15 31 [])) A58v4 (kLoop (B58v3 (C19 fuel) fuel) N58v3 m k)))) (.exit 2) (s58v2 x33 x34 x35 x36 x37 x38 (CV.int (x34 (Int.toNat x38) 0)) (CV.int (x34 (Int.toNat x38) 1))) =
    (loopH (B58v3 (C19 fuel) fuel) N58v3 m (s58v3 x33 x34 x35 x36 x37 (w64 (x38 + 1))) k) := by kernel_rfl
theorem q58v3 (fuel : Nat) (x33 : Nat) (x34 : Nat → Nat → CV) (x35 : Nat) (x36 : Nat → Nat → CV) (x37 : Int) {ρ : Type} (k : Ex → St → Option ρ) : ∀ (m : Nat) (x38 : Int),
    loopH (B58v3 (C19 fuel) fuel) N58v3 m (s58v3 x33 x34 x35 x36 x37 x38) k = L58v3 fuel x33 x34 x35 x36 x37 m x38 (fun x64 x65 x66 x67 => k .ret (s58v4 x64 x65 x66 x67)) (k (.exit 0) s58v5)
  | 0, _ => rfl
  | m + 1, x38 => by
    rw [r58v3]
    simp only [L58v3, q58v3 fuel x33 x34 x35 x36 x37 k m, t58v1, g58v2, g58v3]
def D58 {ρ : Type} (fuel : Nat) (x1 : Nat) (x2 : Nat → Nat → CV) (x3 : Nat) (x4 : Nat → Nat → CV) (k : Bool → Option ρ) : Option ρ :=
  (L58v3 fuel x1 x2 x3 x4 (Int.ofNat x1) fuel 0
    (fun x68 x69 x70 x71 => (k true))
    (k false))
def F58 (fuel : Nat) (x1 : Nat) (x2 : Nat → Nat → CV) (x3 : Nat) (x4 : Nat → Nat → CV) : Option (Bool) := D58 fuel x1 x2 x3 x4 some
theorem n58 {ρ σ : Type} (fuel : Nat) (x1 : Nat) (x2 : Nat → Nat → CV) (x3 : Nat) (x4 : Nat → Nat → CV) (k : (Bool) → Option ρ) (g : ρ → Option σ) : ob (D58 fuel x1 x2 x3 x4 k) g = D58 fuel x1 x2 x3 x4 fun t => ob (k t) g := by
  simp only [D58, ob_bif, ob_ob, ob_none, nl58v3]
theorem f58 {ρ : Type} (fuel : Nat) (x1 : Nat) (x2 : Nat → Nat → CV) (x3 : Nat) (x4 : Nat → Nat → CV) (k : (Bool) → Option ρ) : D58 fuel x1 x2 x3 x4 k = ob (F58 fuel x1 x2 x3 x4) k := by
  unfold F58
  rw [n58]
  simp only [ob_some]
def s58v7 (x1 : Nat) (x2 : Nat → Nat → CV) (x3 : Nat) (x4 : Nat → Nat → CV) : St := ⟨[.x (.c (.ro false (.pr (.int .i64) (.pr (.int .i64) .nil)) x1 x2)), .x (.c (.ro false (.pr (.int .i64) (.pr (.int .i64) .nil)) x3 x4)), .x (.c (.fn 56 0 (listF []))), .undef, .undef, .undef, .x (.c (.b false)), .undef, .undef, .undef, .undef, .x (.c (.ro false (.pr (.int .i64) (.pr (.int .i64) .nil)) x1 x2)), .x (.c (.i .i64 (Int.ofNat x1))), .x (.c (.i .i64 0)), .undef, .undef, .undef, .undef, .undef, .undef, .undef, .undef, .undef, .undef, .undef, .undef, .undef, .undef, .undef, .undef, .undef, .undef, .undef, .undef, .undef, .undef, .undef, .undef, .undef, .undef, .undef, .undef, .undef, .undef, .undef, .undef, .undef], []⟩
theorem walk58 (fuel : Nat) (x1 : Nat) (x2 : Nat → Nat → CV) (x3 : Nat) (x4 : Nat → Nat → CV) :
    evalF (C19 fuel) fuel A58 [.v (.ro false (.pr (.int .i64) (.pr (.int .i64) .nil)) x1 x2), .v (.ro false (.pr (.int .i64) (.pr (.int .i64) .nil)) x3 x4), .v (.fn 56 0 (listF []))] =
    (loopN (B58v3 (C19 fuel) fuel) N58v3 fuel (s58v7 x1 x2 x3 x4) (kBlk 0 (kSeq (C19 fuel) fuel (rl 6 41 []) A58v7 (finish A58)))) := by kernel_rfl
theorem t58v4 (fuel : Nat) {ρ : Type} (k : Ex → St → Option ρ) (x1 : Nat) (x2 : Nat → Nat → CV) (x3 : Nat) (x4 : Nat → Nat → CV) :
    loopN (B58v3 (C19 fuel) fuel) N58v3 fuel (s58v7 x1 x2 x3 x4) k =
    L58v3 fuel x1 x2 x3 x4 (Int.ofNat x1) fuel 0 (fun x64 x65 x66 x67 => k .ret (s58v4 x64 x65 x66 x67)) (k (.exit 0) s58v5) :=
  (loopN_at (st' := (s58v3 x1 x2 x3 x4 (Int.ofNat x1) 0)) (by kernel_rfl)).trans (q58v3 fuel x1 x2 x3 x4 (Int.ofNat x1) k fuel 0)
theorem g58v5 (fuel : Nat) (x68 : Int) (x69 : Int) (x70 : Int) (x71 : Int) :
    (kBlk 0 (kSeq (C19 fuel) fuel (rl 6 41 []) A58v7 (finish A58))) .ret (s58v4 x68 x69 x70 x71) =
    (some [.v (.b true)]) := by kernel_rfl
theorem g58v6 (fuel : Nat) :
    (kBlk 0 (kSeq (C19 fuel) fuel (rl 6 41 []) A58v7 (finish A58))) (.exit 0) s58v5 =
    (some [.v (.b false)]) := by kernel_rfl
theorem e58 (fuel : Nat) (x1 : Nat) (x2 : Nat → Nat → CV) (x3 : Nat) (x4 : Nat → Nat → CV) : evalF (C19 fuel) fuel A58 [.v (.ro false (.pr (.int .i64) (.pr (.int .i64) .nil)) x1 x2), .v (.ro false (.pr (.int .i64) (.pr (.int .i64) .nil)) x3 x4), .v (.fn 56 0 (listF []))] = ob (F58 fuel x1 x2 x3 x4) fun t => some [.v (.b t)] := by
  rw [walk58, ← f58]
  simp only [D58, t58v4, g58v5, g58v6]
def O58 (fuel : Nat) : Ora where
  o := fun args {ρ} K =>
    wc args fun a1 l2 =>
    wv a1 fun c3 =>
    wL (.pr (.int .i64) (.pr (.int .i64) .nil)) c3 fun y4 y5 =>
    wc l2 fun a7 l8 =>
    wv a7 fun c9 =>
    wL (.pr (.int .i64) (.pr (.int .i64) .nil)) c9 fun y10 y11 =>
    wc l8 fun a13 l14 =>
    wv a13 fun c15 =>
    wFn 56 0 c15 fun y16 =>
    wn l14 <|
    (ob (F58 fuel y4 y5 y10 y11) fun t => K [.v (.b t)])
  nat := fun args {ρ} K => by
    simp only [bind_wc, bind_wn, bind_wv, bind_wagg, bind_wI, bind_wB, bind_wS, bind_wL, bind_wP, bind_wFn, bind_ob, Option.bind_some]
theorem d58 {P : Program} (fuel : Nat) (hmix : P.follows .mixedOrders = true) (hC : Sound P (C19 fuel)) (hF : FFits P 58 A58) (args res : List A) (h : (O58 fuel).o args some = some res) : Den P 58 args res := by
  obtain ⟨a1, l2, rfl, z0⟩ := inv_wc h
  obtain ⟨c3, rfl, z1⟩ := inv_wv z0
  obtain ⟨y4, y5, h6, z2⟩ := inv_wL z1
  obtain ⟨a7, l8, rfl, z3⟩ := inv_wc z2
  obtain ⟨c9, rfl, z4⟩ := inv_wv z3
  obtain ⟨y10, y11, h12, z5⟩ := inv_wL z4
  obtain ⟨a13, l14, rfl, z6⟩ := inv_wc z5
  obtain ⟨c15, rfl, z7⟩ := inv_wv z6
  obtain ⟨y16, h17, z8⟩ := inv_wFn z7
  obtain ⟨hn, z9⟩ := inv_wn z8
  cases hn
  exact Den.weaken (.cons (WkA.v h6) (.cons (WkA.v h12) (.cons (WkA.v (wk_fn0 h17)) .nil))) (evalF_sound hmix hC hF ((e58 fuel y4 y5 y10 y11).trans z9))
def C20 (fuel : Nat) : Oracle := (C19 fuel).add 58 (fun l => isFn 56 l 2) (O58 fuel)
def A65v1 : AC := (.seq (.region 11 [o1 47 (.load 34 (some 2) (tm 7)), o1 48 (.load 34 (some 2) (tm 8)), o1 49 (.load 34 (some 2) (tm 3)), o1 50 (.call 79 [(tm 47), (tm 48), (tm 49)] [34, 34, 34] .snap), o1 51 (.binOp .gtr 3 (tm 50) (ic 0) 3), o1 9 (.assign (tm 51))] 0 none) []
  (.seq (.region 12 [mv 52 9, o1 53 (.fieldAddr 34 (tm 8) 1 1), o1 54 (.load 3 none (tm 53)), o1 55 (.fieldAddr 34 (tm 7) 1 1), o1 56 (.load 3 none (tm 55)), o1 57 (.binOp .gtr 3 (tm 54) (tm 56) 3), o1 58 (.eqB false 4 (tm 52) (tm 57) 4)] 0 none) []
  (.cond (tm 58)
  (.region 13 [mv 59 5, o1 60 (.unOp .not 4 (tm 59)), o1 5 (.assign (tm 60))] 0 none)
  .skip)))
def A65v2 : AC := (.seq (.seq (.region 10 [o1 36 (.fieldAddr 34 (tm 7) 1 1), o1 37 (.load 3 none (tm 36)), o1 38 (.fieldAddr 34 (tm 3) 1 1), o1 39 (.load 3 none (tm 38)), o1 40 (.binOp .gtr 3 (tm 37) (tm 39) 3), o1 41 (.fieldAddr 34 (tm 8) 1 1), o1 42 (.load 3 none (tm 41)), o1 43 (.fieldAddr 34 (tm 3) 1 1), o1 44 (.load 3 none (tm 43)), o1 45 (.binOp .gtr 3 (tm 42) (tm 44) 3), o1 46 (.eqB false 4 (tm 40) (tm 45) 4)] 0 none) []
  (.cond (tm 46)
  (.exit 1 (1 :: 2 :: 4 :: (rl 6 11 (rl 20 43 []))))
  .skip)) (rl 36 11 [])
  A65v1)
def A65v3 : AC := (.region 14 [o1 61 (.binOp .add 3 (tm 19) (ic 1) 3), mv 19 61] 0 none)
def A65v4 : AC := (.seq (.block 1
  (.seq (.region 6 [mv 21 19, o1 22 (.indexAddr 22 34 2 (tm 17) (tm 19)), o1 23 (.load 34 (some 2) (tm 22)), o1 7 (.alloc 0 34 [.c (.i .i64 0), .c (.i .i64 0)]), o1 6 (.assign (tm 21)), o0 (.store 34 2 (tm 7) (tm 23))] 1 none) []
    (.seq (.region 7 [mv 24 0, mv 25 6, o1 26 (.binOp .add 3 (tm 25) (ic 1) 3), mv 27 0, o1 28 (.len 22 false (tm 27)), o1 29 (.binOp .rem 3 (tm 26) (tm 28) 3), o1 30 (.indexAddr 22 34 2 (tm 24) (tm 29)), o1 31 (.load 34 (some 2) (tm 30)), o1 8 (.alloc 0 34 [.c (.i .i64 0), .c (.i .i64 0)]), o0 (.store 34 2 (tm 8) (tm 31))] 1 none) []
    (.seq (.seq (.region 8 [o1 32 (.load 34 (some 2) (tm 7)), o1 33 (.load 34 (some 2) (tm 8)), o1 34 (.load 34 (some 2) (tm 3)), o1 35 (.call 81 [(tm 32), (tm 33), (tm 34)] [34, 34, 34] .snap)] 0 none) []
    (.cond (tm 35)
    (.seq (.region 9 [o1 4 (.assign (ic 0))] 0 none) []
      (.ret (rl 0 4 (rl 5 58 []))))
    .skip)) (4 :: (rl 32 4 []))
    A65v2)))) (4 :: (rl 6 4 (rl 21 40 [])))
  A65v3)
def A65v5 : AC := (.seq (.region 5 [o1 20 (.binOp .lss 3 (tm 19) (tm 18) 3)] 0 none) []
  (.seq (.cond (tm 20)
  .skip
  (.exit 0 (rl 0 5 (rl 6 57 [])))) []
  A65v4))
def A65v6 : AC := (.seq (.region 17 [o1 4 (.assign (ic (-1)))] 0 none) []
  (.ret (rl 0 4 (rl 5 58 []))))
def A65v7 : AC := (.seq (.seq (.region 15 [mv 62 5] 0 none) []
  (.cond (tm 62)
  (.seq (.region 16 [o1 4 (.assign (ic 1))] 0 none) []
    (.ret (rl 0 4 (rl 5 58 []))))
  .skip)) [4, 62]
  A65v6)
def A65v8 : AC := (.seq (.region 3 [o1 5 (.assign (.const (.bool false)))] 0 none) []
  (.seq (.seq (.region 4 [mv 17 0, o1 18 (.len 22 false (tm 17)), o1 19 (.move (ic 0))] 0 none) []
  (.block 0
  (.loop [] (1 :: 2 :: 4 :: (rl 6 11 (rl 20 43 [])))
    A65v5))) (4 :: (rl 6 4 (rl 17 45 [])))
  A65v7))
def A65 : AF := ⟨63, [.tmp 4],
  (.seq (.region 0 [o1 3 (.box 0 34 (tm 1)), o1 4 (.assign (ic 0))] 1 none) []
  (.seq (.seq (.region 1 [o1 10 (.load 34 (some 2) (tm 3)), o1 11 (.call 61 [(tm 10)] [34] .snap), mv 12 11, og 13 (.move (tm 0)) 12 false, og 14 (.call 33 [(tm 13)] [22] .snap) 12 false, og 15 (.binOp .neq 27 (tm 14) (ic 0) 27) 12 false, o1 16 (.pick (tm 12) (.const (.bool true)) (tm 15))] 0 none) []
  (.cond (tm 16)
  (.seq (.region 2 [o1 4 (.assign (ic (-1)))] 0 none) []
    (.ret (rl 0 4 (rl 5 58 []))))
  .skip)) (4 :: (rl 10 7 []))
  A65v8))⟩
def B65v1 (C : Oracle) (fuel : Nat) {ρ : Type} : St → (Ex → St → Option ρ) → Option ρ := fun st k => evalC C fuel A65v5 st k
def N65v1 : St → Option St := fun s => s.norm (1 :: 2 :: 4 :: (rl 6 11 (rl 20 43 []))) 1
def s65v0 (x14 : Nat) (x15 : Nat → Nat → CV) (x16 : Bool) (x17 : Int) (x18 : Int) (x19 : Int) (x20 : Int) : St := ⟨(.x (.c (.ro false (.pr (.int .i64) (.pr (.int .i64) .nil)) x14 x15)) :: .u :: .u :: .x (.ptr 0 0) :: .u :: .x (.c (.b x16)) :: (us 11 (.x (.c (.ro false (.pr (.int .i64) (.pr (.int .i64) .nil)) x14 x15)) :: .x (.c (.i .i64 x17)) :: .x (.c (.i .i64 x18)) :: (us 43 [])))), [.box [(.c (.i .i64 x19)), (.c (.i .i64 x20))]]⟩
def s65v1 (x19 : Int) (x20 : Int) (x23 : Int) (x24 : Int) (x25 : Int) (x26 : Int) : St := ⟨(us 4 (.x (.c (.i .i64 0)) :: (us 58 []))), [.box [(.c (.i .i64 x19)), (.c (.i .i64 x20))], .box [(.c (.i .i64 x23)), (.c (.i .i64 x24))], .box [(.c (.i .i64 x25)), (.c (.i .i64 x26))]]⟩
def s65v2 (x27 : Bool) (x19 : Int) (x20 : Int) : St := ⟨(us 5 (.x (.c (.b x27)) :: (us 57 []))), [.box [(.c (.i .i64 x19)), (.c (.i .i64 x20))]]⟩
def L65v1 {ρ : Type} (fuel : Nat) (x14 : Nat) (x15 : Nat → Nat → CV) (x17 : Int) (x19 : Int) (x20 : Int) : Nat → Bool → Int → (Int → Int → Int → Int → Option ρ) → (Bool → Option ρ) → Option ρ
  | 0, _, _, _, _ => none
  | m + 1, x16, x18, k0, k1 =>
    (bif (decide (x18 < x17)) then (bif (inb x18 x14) then (bif ((Int.ofNat x14) == 0) then none else (bif (inb (Int.tmod (w64 (x18 + 1)) (Int.ofNat x14)) x14) then (ob (F81 fuel (CV.int (x15 (Int.toNat x18) 0)) (CV.int (x15 (Int.toNat x18) 1)) (CV.int (x15 (Int.toNat (Int.tmod (w64 (x18 + 1)) (Int.ofNat x14))) 0)) (CV.int (x15 (Int.toNat (Int.tmod (w64 (x18 + 1)) (Int.ofNat x14))) 1)) x19 x20) fun x21 => (bif x21 then (k0 (CV.int (x15 (Int.toNat x18) 0)) (CV.int (x15 (Int.toNat x18) 1)) (CV.int (x15 (Int.toNat (Int.tmod (w64 (x18 + 1)) (Int.ofNat x14))) 0)) (CV.int (x15 (Int.toNat (Int.tmod (w64 (x18 + 1)) (Int.ofNat x14))) 1))) else (bif ((decide ((CV.int (x15 (Int.toNat x18) 1)) > x20)) == (decide ((CV.int (x15 (Int.toNat (Int.tmod (w64 (x18 + 1)) (Int.ofNat x14))) 1)) > x20))) then (L65v1 fuel x14 x15 x17 x19 x20 m x16 (w64 (x18 + 1)) k0 k1) else (ob (F79 fuel (CV.int (x15 (Int.toNat x18) 0)) (CV.int (x15 (Int.toNat x18) 1)) (CV.int (x15 (Int.toNat (Int.tmod (w64 (x18 + 1)) (Int.ofNat x14))) 0)) (CV.int (x15 (Int.toNat (Int.tmod (w64 (x18 + 1)) (Int.ofNat x14))) 1)) x19 x20) fun x22 => (bif ((decide (x22 > 0)) == (decide ((CV.int (x15 (Int.toNat (Int.tmod (w64 (x18 + 1)) (Int.ofNat x14))) 1)) > (CV.int (x15 (Int.toNat x18) 1))))) then (L65v1 fuel x14 x15 x17 x19 x20 m (!x16) (w64 (x18 + 1)) k0 k1) else (L65v1 fuel x14 x15 x17 x19 x20 m x16 (w64 (x18 + 1)) k0 k1)))))) else none)) else none) else (k1 x16))
theorem nl65v1 {ρ σ : Type} (fuel : Nat) (x14 : Nat) (x15 : Nat → Nat → CV) (x17 : Int) (x19 : Int) (x20 : Int) (g : ρ → Option σ) : ∀ (m : Nat) (x16 : Bool) (x18 : Int) (k0 : Int → Int → Int → Int → Option ρ) (k1 : Bool → Option ρ), ob (L65v1 fuel x14 x15 x17 x19 x20 m x16 x18 k0 k1) g = L65v1 fuel x14 x15 x17 x19 x20 m x16 x18 (fun x23 x24 x25 x26 => ob (k0 x23 x24 x25 x26) g) (fun x27 => ob (k1 x27) g)
  | 0, _, _, _, _ => rfl
  | m + 1, x16, x18, k0, k1 => by
    simp only [L65v1, ob_bif, ob_ob, ob_none, nl65v1 fuel x14 x15 x17 x19 x20 g m]
theorem r65v1 (fuel : Nat) (m : Nat) {ρ : Type} (k : Ex → St → Option ρ) (x14 : Nat) (x15 : Nat → Nat → CV) (x17 : Int) (x19 : Int) (x20 : Int) (x16 : Bool) (x18 : Int) :
    loopH (B65v1 (C20 fuel) fuel) N65v1 (m + 1) (s65v0 x14 x15 x16 x17 x18 x19 x20) k =
    (bif (decide (x18 < x17)) then (bif (inb x18 x14) then (bif ((Int.ofNat x14) == 0) then none else (bif (inb (Int.tmod (w64 (x18 + 1)) (Int.ofNat x14)) x14) then (ob (F81 fuel (CV.int (x15 (Int.toNat x18) 0)) (CV.int (x15 (Int.toNat x18) 1)) (CV.int (x15 (Int.toNat (Int.tmod (w64 (x18 + 1)) (Int.ofNat x14))) 0)) (CV.int (x15 (Int.toNat (Int.tmod (w64 (x18 + 1)) (Int.ofNat x14))) 1)) x19 x20) fun x21 => (bif x21 then (k .ret (s65v1 x19 x20 (CV.int (x15 (Int.toNat x18) 0)) (CV.int (x15 (Int.toNat x18) 1)) (CV.int (x15 (Int.toNat (Int.tmod (w64 (x18 + 1)) (Int.ofNat x14))) 0)) (CV.int (x15 (Int.toNat (Int.tmod (w64 (x18 + 1)) (Int.ofNat x14))) 1)))) else (bif ((decide ((CV.int (x15 (Int.toNat x18) 1)) > x20)) == (decide ((CV.int (x15 (Int.toNat (Int.tmod (w64 (x18 + 1)) (Int.ofNat x14))) 1)) > x20))) then (loopH (B65v1 (C20 fuel) fuel) N65v1 m (s65v0 x14 x15 x16 x17 (w64 (x18 + 1)) x19 x20) k) else (ob (F79 fuel (CV.int (x15 (Int.toNat x18) 0)) (CV.int (x15 (Int.toNat x18) 1)) (CV.int (x15 (Int.toNat (Int.tmod (w64 (x18 + 1)) (Int.ofNat x14))) 0)) (CV.int (x15 (Int.toNat (Int.tmod (w64 (x18 + 1)) (Int.ofNat x14))) 1)) x19 x20) fun x22 => (bif ((decide (x22 > 0)) == (decide ((CV.int (x15 (Int.toNat (Int.tmod (w64 (x18 + 1)) (Int.ofNat x14))) 1)) > (CV.int (x15 (Int.toNat x18) 1))))) then (loopH (B65v1 (C20 fuel) fuel) N65v1 m (s65v0 x14 x15 (!x16) x17 (w64 (x18 + 1)) x19 x20) k) else (loopH (B65v1 (C20 fuel) fuel) N65v1 m (s65v0 x14 x15 x16 x17 (w64 (x18 + 1)) x19 x20) k)))))) else none)) else none) else (k (.exit 0) (s65v2 x16 x19 x20))) := by kernel_rfl
theorem q65v1 (fuel : Nat) (x14 : Nat) (x15 : Nat → Nat → CV) (x17 : Int) (x19 : Int) (x20 : Int) {ρ : Type} (k : Ex → St → Option ρ) : ∀ (m : Nat) (x16 : Bool) (x18 : Int),
    loopH (B65v1 (C20 fuel) fuel) N65v1 m (s65v0 x14 x15 x16 x17 x18 x19 x20) k = L65v1 fuel x14 x15 x17 x19 x20 m x16 x18 (fun x23 x24 x25 x26 => k .ret (s65v1 x19 x20 x23 x24 x25 x26)) (fun x27 => k (.exit 0) (s65v2 x27 x19 x20))
  | 0, _, _ => rfl
  | m + 1, x16, x18 => by
    rw [r65v1]
    simp only [L65v1, q65v1 fuel x14 x15 x17 x19 x20 k m]
def D65 {ρ : Type} (fuel : Nat) (x1 : Nat) (x2 : Nat → Nat → CV) (x3 : Int) (x4 : Int) (k : Int → Option ρ) : Option ρ :=
  (ob (F61 fuel x3 x4) fun x5 => (bif (x5 == false) then (ob (F33 fuel x1 x2) fun x6 => (bif (x6 != 0) then (k (-1)) else (L65v1 fuel x1 x2 (Int.ofNat x1) x3 x4 fuel false 0
    (fun x28 x29 x30 x31 => (k 0))
    (fun x32 => (bif x32 then (k 1) else (k (-1))))))) else (k (-1))))
def F65 (fuel : Nat) (x1 : Nat) (x2 : Nat → Nat → CV) (x3 : Int) (x4 : Int) : Option (Int) := D65 fuel x1 x2 x3 x4 some
theorem n65 {ρ σ : Type} (fuel : Nat) (x1 : Nat) (x2 : Nat → Nat → CV) (x3 : Int) (x4 : Int) (k : (Int) → Option ρ) (g : ρ → Option σ) : ob (D65 fuel x1 x2 x3 x4 k) g = D65 fuel x1 x2 x3 x4 fun t => ob (k t) g := by
  simp only [D65, ob_bif, ob_ob, ob_none, nl65v1]
theorem f65 {ρ : Type} (fuel : Nat) (x1 : Nat) (x2 : Nat → Nat → CV) (x3 : Int) (x4 : Int) (k : (Int) → Option ρ) : D65 fuel x1 x2 x3 x4 k = ob (F65 fuel x1 x2 x3 x4) k := by
  unfold F65
  rw [n65]
  simp only [ob_some]
def s65v3 (x1 : Nat) (x2 : Nat → Nat → CV) (x3 : Int) (x4 : Int) : St := ⟨(.x (.c (.ro false (.pr (.int .i64) (.pr (.int .i64) .nil)) x1 x2)) :: .agg [(.c (.i .i64 x3)), (.c (.i .i64 x4))] :: .undef :: .x (.ptr 0 0) :: .u :: .x (.c (.b false)) :: .undef :: .undef :: .undef :: .undef :: (us 7 [.x (.c (.ro false (.pr (.int .i64) (.pr (.int .i64) .nil)) x1 x2)), .x (.c (.i .i64 (Int.ofNat x1))), .x (.c (.i .i64 0)), .undef, .undef, .undef, .undef, .undef, .undef, .undef, .undef, .undef, .undef, .undef, .undef, .undef, .undef, .undef, .undef, .undef, .undef, .undef, .undef, .undef, .undef, .undef, .undef, .undef, .undef, .undef, .undef, .undef, .undef, .undef, .undef, .undef, .undef, .undef, .undef, .undef, .undef, .undef, .undef, .undef, .undef, .undef])), [.box [(.c (.i .i64 x3)), (.c (.i .i64 x4))]]⟩
theorem walk65 (fuel : Nat) (x1 : Nat) (x2 : Nat → Nat → CV) (x3 : Int) (x4 : Int) :
    evalF (C20 fuel) fuel A65 [.v (.ro false (.pr (.int .i64) (.pr (.int .i64) .nil)) x1 x2), .agg [(.i .i64 x3), (.i .i64 x4)]] =
    (ob (F61 fuel x3 x4) fun x5 => (bif (x5 == false) then (ob (F33 fuel x1 x2) fun x6 => (bif (x6 != 0) then (some [.v (.i .i64 (-1))]) else (loopN (B65v1 (C20 fuel) fuel) N65v1 fuel (s65v3 x1 x2 x3 x4) (kBlk 0 (kSeq (C20 fuel) fuel (4 :: (rl 6 4 (rl 17 45 []))) A65v7 (finish A65)))))) else (some [.v (.i .i64 (-1))]))) := by kernel_rfl
theorem t65v1 (fuel : Nat) {ρ : Type} (k : Ex → St → Option ρ) (x1 : Nat) (x2 : Nat → Nat → CV) (x3 : Int) (x4 : Int) :
    loopN (B65v1 (C20 fuel) fuel) N65v1 fuel (s65v3 x1 x2 x3 x4) k =
    L65v1 fuel x1 x2 (Int.ofNat x1) x3 x4 fuel false 0 (fun x23 x24 x25 x26 => k .ret (s65v1 x3 x4 x23 x24 x25 x26)) (fun x27 => k (.exit 0) (s65v2 x27 x3 x4)) :=
  (loopN_at (st' := (s65v0 x1 x2 false (Int.ofNat x1) 0 x3 x4)) (by kernel_rfl)).trans (q65v1 fuel x1 x2 (Int.ofNat x1) x3 x4 k fuel false 0)
theorem g65v2 (fuel : Nat) (x3 : Int) (x4 : Int) (x28 : Int) (x29 : Int) (x30 : Int) (x31 : Int) :
    (kBlk 0 (kSeq (C20 fuel) fuel (4 :: (rl 6 4 (rl 17 45 []))) A65v7 (finish A65))) .ret (s65v1 x3 x4 x28 x29 x30 x31) =
    (some [.v (.i .i64 0)]) := by kernel_rfl
theorem g65v3 (fuel : Nat) (x32 : Bool) (x3 : Int) (x4 : Int) :
    (kBlk 0 (kSeq (C20 fuel) fuel (4 :: (rl 6 4 (rl 17 45 []))) A65v7 (finish A65))) (.exit 0) (s65v2 x32 x3 x4) =
    (bif x32 then (some [.v (.i .i64 1)]) else (some [.v (.i .i64 (-1))])) := by kernel_rfl
theorem e65 (fuel : Nat) (x1 : Nat) (x2 : Nat → Nat → CV) (x3 : Int) (x4 : Int) : evalF (C20 fuel) fuel A65 [.v (.ro false (.pr (.int .i64) (.pr (.int .i64) .nil)) x1 x2), .agg [(.i .i64 x3), (.i .i64 x4)]] = ob (F65 fuel x1 x2 x3 x4) fun t => some [.v (.i .i64 t)] := by
  rw [walk65, ← f65]
  simp only [D65, t65v1, g65v2, g65v3]
def O65 (fuel : Nat) : Ora where
  o := fun args {ρ} K =>
    wc args fun a1 l2 =>
    wv a1 fun c3 =>
    wL (.pr (.int .i64) (.pr (.int .i64) .nil)) c3 fun y4 y5 =>
    wc l2 fun a7 l8 =>
    wagg a7 fun l9 =>
    wc l9 fun c10 l11 =>
    wI .i64 c10 fun y12 =>
    wc l11 fun c14 l15 =>
    wI .i64 c14 fun y16 =>
    wn l15 <|
    wn l8 <|
    (ob (F65 fuel y4 y5 y12 y16) fun t => K [.v (.i .i64 t)])
  nat := fun args {ρ} K => by
    simp only [bind_wc, bind_wn, bind_wv, bind_wagg, bind_wI, bind_wB, bind_wS, bind_wL, bind_wP, bind_wFn, bind_ob, Option.bind_some]
theorem d65 {P : Program} (fuel : Nat) (hmix : P.follows .mixedOrders = true) (hC : Sound P (C20 fuel)) (hF : FFits P 65 A65) (args res : List A) (h : (O65 fuel).o args some = some res) : Den P 65 args res := by
  obtain ⟨a1, l2, rfl, z0⟩ := inv_wc h
  obtain ⟨c3, rfl, z1⟩ := inv_wv z0
  obtain ⟨y4, y5, h6, z2⟩ := inv_wL z1
  obtain ⟨a7, l8, rfl, z3⟩ := inv_wc z2
  obtain ⟨l9, rfl, z4⟩ := inv_wagg z3
  obtain ⟨c10, l11, rfl, z5⟩ := inv_wc z4
  obtain ⟨y12, h13, z6⟩ := inv_wI z5
  obtain ⟨c14, l15, rfl, z7⟩ := inv_wc z6
  obtain ⟨y16, h17, z8⟩ := inv_wI z7
  obtain ⟨hn, z9⟩ := inv_wn z8
  cases hn
  obtain ⟨hn, z10⟩ := inv_wn z9
  cases hn
  exact Den.weaken (.cons (WkA.v h6) (.cons (WkA.agg (.cons (Wk.i h13) (.cons (Wk.i h17) .nil))) .nil)) (evalF_sound hmix hC hF ((e65 fuel y4 y5 y12 y16).trans z10))
def C21 (fuel : Nat) : Oracle := (C20 fuel).add 65 (fun _ => true) (O65 fuel)
def A64 : AF := ⟨8, [.tmp 3],
  (.seq (.region 0 [o1 2 (.box 0 34 (tm 0)), o1 3 (.assign (.const (.bool false)))] 1 none) []
  (.seq (.region 1 [o1 4 (.load 22 none (tm 1)), o1 5 (.load 34 (some 2) (tm 2)), o1 6 (.call 65 [(tm 4), (tm 5)] [22, 34] .snap), o1 7 (.binOp .neq 3 (tm 6) (ic 1) 3), o1 3 (.assign (tm 7))] 0 none) []
  (.ret (0 :: 1 :: 2 :: (rl 4 4 [])))))⟩
def D64 {ρ : Type} (fuel : Nat) (x1 : Int) (x2 : Int) (x3 : Nat → CV) (k : Bool → Option ρ) : Option ρ :=
  (ob (F65 fuel (CV.len (x3 0)) (CV.el (x3 0)) x1 x2) fun x4 => (k (x4 != 1)))
def F64 (fuel : Nat) (x1 : Int) (x2 : Int) (x3 : Nat → CV) : Option (Bool) := D64 fuel x1 x2 x3 some
theorem n64 {ρ σ : Type} (fuel : Nat) (x1 : Int) (x2 : Int) (x3 : Nat → CV) (k : (Bool) → Option ρ) (g : ρ → Option σ) : ob (D64 fuel x1 x2 x3 k) g = D64 fuel x1 x2 x3 fun t => ob (k t) g := by
  simp only [D64, ob_bif, ob_ob, ob_none]
theorem f64 {ρ : Type} (fuel : Nat) (x1 : Int) (x2 : Int) (x3 : Nat → CV) (k : (Bool) → Option ρ) : D64 fuel x1 x2 x3 k = ob (F64 fuel x1 x2 x3) k := by
  unfold F64
  rw [n64]
  simp only [ob_some]
theorem walk64 (fuel : Nat) (x1 : Int) (x2 : Int) (x3 : Nat → CV) :
    evalF (C21 fuel) fuel A64 [.agg [(.i .i64 x1), (.i .i64 x2)], .v (.rp (.pr (.sl (.pr (.int .i64) (.pr (.int .i64) .nil))) .nil) x3)] =
    (ob (F65 fuel (CV.len (x3 0)) (CV.el (x3 0)) x1 x2) fun x4 => (some [.v (.b (x4 != 1))])) := by kernel_rfl
theorem e64 (fuel : Nat) (x1 : Int) (x2 : Int) (x3 : Nat → CV) : evalF (C21 fuel) fuel A64 [.agg [(.i .i64 x1), (.i .i64 x2)], .v (.rp (.pr (.sl (.pr (.int .i64) (.pr (.int .i64) .nil))) .nil) x3)] = ob (F64 fuel x1 x2 x3) fun t => some [.v (.b t)] := by
  rw [walk64, ← f64]
  simp only [D64]
def O64 (fuel : Nat) : Ora where
  o := fun args {ρ} K =>
    wc args fun a1 l2 =>
    wagg a1 fun l3 =>
    wc l3 fun c4 l5 =>
    wI .i64 c4 fun y6 =>
    wc l5 fun c8 l9 =>
    wI .i64 c8 fun y10 =>
    wn l9 <|
    wc l2 fun a12 l13 =>
    wv a12 fun c14 =>
    wP (.pr (.sl (.pr (.int .i64) (.pr (.int .i64) .nil))) .nil) c14 fun y15 =>
    wn l13 <|
    (ob (F64 fuel y6 y10 y15) fun t => K [.v (.b t)])
  nat := fun args {ρ} K => by
    simp only [bind_wc, bind_wn, bind_wv, bind_wagg, bind_wI, bind_wB, bind_wS, bind_wL, bind_wP, bind_wFn, bind_ob, Option.bind_some]
theorem d64 {P : Program} (fuel : Nat) (hmix : P.follows .mixedOrders = true) (hC : Sound P (C21 fuel)) (hF : FFits P 64 A64) (args res : List A) (h : (O64 fuel).o args some = some res) : Den P 64 args res := by
  obtain ⟨a1, l2, rfl, z0⟩ := inv_wc h
  obtain ⟨l3, rfl, z1⟩ := inv_wagg z0
  obtain ⟨c4, l5, rfl, z2⟩ := inv_wc z1
  obtain ⟨y6, h7, z3⟩ := inv_wI z2
  obtain ⟨c8, l9, rfl, z4⟩ := inv_wc z3
  obtain ⟨y10, h11, z5⟩ := inv_wI z4
  obtain ⟨hn, z6⟩ := inv_wn z5
  cases hn
  obtain ⟨a12, l13, rfl, z7⟩ := inv_wc z6
  obtain ⟨c14, rfl, z8⟩ := inv_wv z7
  obtain ⟨y15, h16, z9⟩ := inv_wP z8
  obtain ⟨hn, z10⟩ := inv_wn z9
  cases hn
  exact Den.weaken (.cons (WkA.agg (.cons (Wk.i h7) (.cons (Wk.i h11) .nil))) (.cons (WkA.v (wk_rp h16)) .nil)) (evalF_sound hmix hC hF ((e64 fuel y6 y10 y15).trans z10))
def C22 (fuel : Nat) : Oracle := (C21 fuel).add 64 (fun _ => true) (O64 fuel)
def B73bv1 (C : Oracle) (fuel : Nat) {ρ : Type} : St → (Ex → St → Option ρ) → Option ρ := fun st k => evalC C fuel A73v3 st k
def N73bv1 : St → Option St := fun s => s.norm (rl 2 5 (rl 9 10 [])) 0
def s73bv0 (x9 : Nat) (x10 : Nat → Nat → CV) (x11 : Nat → CV) (x12 : Int) (x13 : Int) : St := ⟨(.x (.c (.ro false (.pr (.int .i64) (.pr (.int .i64) .nil)) x9 x10)) :: .x (.c (.fn 64 1 (listF [(.rp (.pr (.sl (.pr (.int .i64) (.pr (.int .i64) .nil))) .nil) x11)]))) :: (us 5 (.x (.c (.i .i64 x12)) :: .x (.c (.i .i64 x13)) :: (us 10 [])))), []⟩
def s73bv1 (x15 : Int) : St := ⟨(us 4 (.x (.c (.i .i64 x15)) :: (us 14 []))), []⟩
def s73bv2 : St := ⟨(us 19 []), []⟩
def L73bv1 {ρ : Type} (fuel : Nat) (x9 : Nat) (x10 : Nat → Nat → CV) (x11 : Nat → CV) (x12 : Int) : Nat → Int → (Int → Option ρ) → (Option ρ) → Option ρ
  | 0, _, _, _ => none
  | m + 1, x13, k0, k1 =>
    (bif (decide (x13 < x12)) then (bif (inb x13 x9) then (ob (F64 fuel (CV.int (x10 (Int.toNat x13) 0)) (CV.int (x10 (Int.toNat x13) 1)) x11) fun x14 => (bif x14 then (k0 x13) else (L73bv1 fuel x9 x10 x11 x12 m (w64 (x13 + 1)) k0 k1))) else none) else k1)
theorem nl73bv1 {ρ σ : Type} (fuel : Nat) (x9 : Nat) (x10 : Nat → Nat → CV) (x11 : Nat → CV) (x12 : Int) (g : ρ → Option σ) : ∀ (m : Nat) (x13 : Int) (k0 : Int → Option ρ) (k1 : Option ρ), ob (L73bv1 fuel x9 x10 x11 x12 m x13 k0 k1) g = L73bv1 fuel x9 x10 x11 x12 m x13 (fun x15 => ob (k0 x15) g) (ob k1 g)
  | 0, _, _, _ => rfl
  | m + 1, x13, k0, k1 => by
    simp only [L73bv1, ob_bif, ob_ob, ob_none, nl73bv1 fuel x9 x10 x11 x12 g m]
theorem r73bv1 (fuel : Nat) (m : Nat) {ρ : Type} (k : Ex → St → Option ρ) (x9 : Nat) (x10 : Nat → Nat → CV) (x11 : Nat → CV) (x12 : Int) (x13 : Int) :
    loopH (B73bv1 (C22 fuel) fuel) N73bv1 (m + 1) (s73bv0 x9 x10 x11 x12 x13) k =
    (bif (decide (x13 < x12)) then (bif (inb x13 x9) then (ob (F64 fuel (CV.int (x10 (Int.toNat x13) 0)) (CV.int (x10 (Int.toNat x13) 1)) x11) fun x14 => (bif x14 then (k .ret (s73bv1 x13)) else (loopH (B73bv1 (C22 fuel) fuel) N73bv1 m (s73bv0 x9 x10 x11 x12 (w64 (x13 + 1))) k))) else none) else (k (.exit 0) s73bv2)) := by kernel_rfl
theorem q73bv1 (fuel : Nat) (x9 : Nat) (x10 : Nat → Nat → CV) (x11 : Nat → CV) (x12 : Int) {ρ : Type} (k : Ex → St → Option ρ) : ∀ (m : Nat) (x13 : Int),
    loopH (B73bv1 (C22 fuel) fuel) N73bv1 m (s73bv0 x9 x10 x11 x12 x13) k = L73bv1 fuel x9 x10 x11 x12 m x13 (fun x15 => k .ret (s73bv1 x15)) (k (.exit 0) s73bv2)
  | 0, _ => rfl
  | m + 1, x13 => by
    rw [r73bv1]
    simp only [L73bv1, q73bv1 fuel x9 x10 x11 x12 k m]
def D73b {ρ : Type} (fuel : Nat) (x1 : Nat) (x2 : Nat → Nat → CV) (x3 : Nat → CV) (k : Int → Option ρ) : Option ρ :=
  (L73bv1 fuel x1 x2 x3 (Int.ofNat x1) fuel 0
    (fun x16 => (k x16))
    (k (-1)))
def F73b (fuel : Nat) (x1 : Nat) (x2 : Nat → Nat → CV) (x3 : Nat → CV) : Option (Int) := D73b fuel x1 x2 x3 some
theorem n73b {ρ σ : Type} (fuel : Nat) (x1 : Nat) (x2 : Nat → Nat → CV) (x3 : Nat → CV) (k : (Int) → Option ρ) (g : ρ → Option σ) : ob (D73b fuel x1 x2 x3 k) g = D73b fuel x1 x2 x3 fun t => ob (k t) g := by
  simp only [D73b, ob_bif, ob_ob, ob_none, nl73bv1]
theorem f73b {ρ : Type} (fuel : Nat) (x1 : Nat) (x2 : Nat → Nat → CV) (x3 : Nat → CV) (k : (Int) → Option ρ) : D73b fuel x1 x2 x3 k = ob (F73b fuel x1 x2 x3) k := by
  unfold F73b
  rw [n73b]
  simp only [ob_some]
def s73bv3 (x1 : Nat) (x2 : Nat → Nat → CV) (x3 : Nat → CV) : St := ⟨[.x (.c (.ro false (.pr (.int .i64) (.pr (.int .i64) .nil)) x1 x2)), .x (.c (.fn 64 1 (listF [(.rp (.pr (.sl (.pr (.int .i64) (.pr (.int .i64) .nil))) .nil) x3)]))), .undef, .undef, .x (.c (.i .i64 0)), .undef, .x (.c (.ro false (.pr (.int .i64) (.pr (.int .i64) .nil)) x1 x2)), .x (.c (.i .i64 (Int.ofNat x1))), .x (.c (.i .i64 0)), .undef, .undef, .undef, .undef, .undef, .undef, .undef, .undef, .undef, .undef], []⟩
theorem walk73b (fuel : Nat) (x1 : Nat) (x2 : Nat → Nat → CV) (x3 : Nat → CV) :
    evalF (C22 fuel) fuel A73 [.v (.ro false (.pr (.int .i64) (.pr (.int .i64) .nil)) x1 x2), .v (.fn 64 1 (listF [(.rp (.pr (.sl (.pr (.int .i64) (.pr (.int .i64) .nil))) .nil) x3)]))] =
    (loopN (B73bv1 (C22 fuel) fuel) N73bv1 fuel (s73bv3 x1 x2 x3) (kBlk 0 (kSeq (C22 fuel) fuel (rl 4 15 []) A73v4 (finish A73)))) := by kernel_rfl
theorem t73bv1 (fuel : Nat) {ρ : Type} (k : Ex → St → Option ρ) (x1 : Nat) (x2 : Nat → Nat → CV) (x3 : Nat → CV) :
    loopN (B73bv1 (C22 fuel) fuel) N73bv1 fuel (s73bv3 x1 x2 x3) k =
    L73bv1 fuel x1 x2 x3 (Int.ofNat x1) fuel 0 (fun x15 => k .ret (s73bv1 x15)) (k (.exit 0) s73bv2) :=
  (loopN_at (st' := (s73bv0 x1 x2 x3 (Int.ofNat x1) 0)) (by kernel_rfl)).trans (q73bv1 fuel x1 x2 x3 (Int.ofNat x1) k fuel 0)
theorem g73bv2 (fuel : Nat) (x16 : Int) :
    (kBlk 0 (kSeq (C22 fuel) fuel (rl 4 15 []) A73v4 (finish A73))) .ret (s73bv1 x16) =
    (some [.v (.i .i64 x16)]) := by kernel_rfl
theorem g73bv3 (fuel : Nat) :
    (kBlk 0 (kSeq (C22 fuel) fuel (rl 4 15 []) A73v4 (finish A73))) (.exit 0) s73bv2 =
    (some [.v (.i .i64 (-1))]) := by kernel_rfl
theorem e73b (fuel : Nat) (x1 : Nat) (x2 : Nat → Nat → CV) (x3 : Nat → CV) : evalF (C22 fuel) fuel A73 [.v (.ro false (.pr (.int .i64) (.pr (.int .i64) .nil)) x1 x2), .v (.fn 64 1 (listF [(.rp (.pr (.sl (.pr (.int .i64) (.pr (.int .i64) .nil))) .nil) x3)]))] = ob (F73b fuel x1 x2 x3) fun t => some [.v (.i .i64 t)] := by
  rw [walk73b, ← f73b]
  simp only [D73b, t73bv1, g73bv2, g73bv3]
def O73b (fuel : Nat) : Ora where
  o := fun args {ρ} K =>
    wc args fun a1 l2 =>
    wv a1 fun c3 =>
    wL (.pr (.int .i64) (.pr (.int .i64) .nil)) c3 fun y4 y5 =>
    wc l2 fun a7 l8 =>
    wv a7 fun c9 =>
    wFn 64 1 c9 fun y10 =>
    wP (.pr (.sl (.pr (.int .i64) (.pr (.int .i64) .nil))) .nil) (y10 0) fun y12 =>
    wn l8 <|
    (ob (F73b fuel y4 y5 y12) fun t => K [.v (.i .i64 t)])
  nat := fun args {ρ} K => by
    simp only [bind_wc, bind_wn, bind_wv, bind_wagg, bind_wI, bind_wB, bind_wS, bind_wL, bind_wP, bind_wFn, bind_ob, Option.bind_some]
theorem d73b {P : Program} (fuel : Nat) (hmix : P.follows .mixedOrders = true) (hC : Sound P (C22 fuel)) (hF : FFits P 73 A73) (args res : List A) (h : (O73b fuel).o args some = some res) : Den P 73 args res := by
  obtain ⟨a1, l2, rfl, z0⟩ := inv_wc h
  obtain ⟨c3, rfl, z1⟩ := inv_wv z0
  obtain ⟨y4, y5, h6, z2⟩ := inv_wL z1
  obtain ⟨a7, l8, rfl, z3⟩ := inv_wc z2
  obtain ⟨c9, rfl, z4⟩ := inv_wv z3
  obtain ⟨y10, h11, z5⟩ := inv_wFn z4
  obtain ⟨y12, h13, z6⟩ := inv_wP z5
  obtain ⟨hn, z7⟩ := inv_wn z6
  cases hn
  exact Den.weaken (.cons (WkA.v h6) (.cons (WkA.v (wk_fn1 h11 (wk_rp h13))) .nil)) (evalF_sound hmix hC hF ((e73b fuel y4 y5 y12).trans z7))
def C23 (fuel : Nat) : Oracle := (C22 fuel).add 73 (fun l => isFn 64 l 1) (O73b fuel)
def D50b {ρ : Type} (fuel : Nat) (x1 : Nat) (x2 : Nat → Nat → CV) (x3 : Nat → CV) (k : Bool → Option ρ) : Option ρ :=
  (ob (F73b fuel x1 x2 x3) fun x4 => (k (decide (x4 ≥ 0))))
def F50b (fuel : Nat) (x1 : Nat) (x2 : Nat → Nat → CV) (x3 : Nat → CV) : Option (Bool) := D50b fuel x1 x2 x3 some
theorem n50b {ρ σ : Type} (fuel : Nat) (x1 : Nat) (x2 : Nat → Nat → CV) (x3 : Nat → CV) (k : (Bool) → Option ρ) (g : ρ → Option σ) : ob (D50b fuel x1 x2 x3 k) g = D50b fuel x1 x2 x3 fun t => ob (k t) g := by
  simp only [D50b, ob_bif, ob_ob, ob_none]
theorem f50b {ρ : Type} (fuel : Nat) (x1 : Nat) (x2 : Nat → Nat → CV) (x3 : Nat → CV) (k : (Bool) → Option ρ) : D50b fuel x1 x2 x3 k = ob (F50b fuel x1 x2 x3) k := by
  unfold F50b
  rw [n50b]
  simp only [ob_some]
theorem walk50b (fuel : Nat) (x1 : Nat) (x2 : Nat → Nat → CV) (x3 : Nat → CV) :
    evalF (C23 fuel) fuel A50 [.v (.ro false (.pr (.int .i64) (.pr (.int .i64) .nil)) x1 x2), .v (.fn 64 1 (listF [(.rp (.pr (.sl (.pr (.int .i64) (.pr (.int .i64) .nil))) .nil) x3)]))] =
    (ob (F73b fuel x1 x2 x3) fun x4 => (some [.v (.b (decide (x4 ≥ 0)))])) := by kernel_rfl
theorem e50b (fuel : Nat) (x1 : Nat) (x2 : Nat → Nat → CV) (x3 : Nat → CV) : evalF (C23 fuel) fuel A50 [.v (.ro false (.pr (.int .i64) (.pr (.int .i64) .nil)) x1 x2), .v (.fn 64 1 (listF [(.rp (.pr (.sl (.pr (.int .i64) (.pr (.int .i64) .nil))) .nil) x3)]))] = ob (F50b fuel x1 x2 x3) fun t => some [.v (.b t)] := by
  rw [walk50b, ← f50b]
  simp only [D50b]
def O50b (fuel : Nat) : Ora where
  o := fun args {ρ} K =>
    wc args fun a1 l2 =>
    wv a1 fun c3 =>
    wL (.pr (.int .i64) (.pr (.int .i64) .nil)) c3 fun y4 y5 =>
    wc l2 fun a7 l8 =>
    wv a7 fun c9 =>
    wFn 64 1 c9 fun y10 =>
    wP (.pr (.sl (.pr (.int .i64) (.pr (.int .i64) .nil))) .nil) (y10 0) fun y12 =>
    wn l8 <|
    (ob (F50b fuel y4 y5 y12) fun t => K [.v (.b t)])
  nat := fun args {ρ} K => by
    simp only [bind_wc, bind_wn, bind_wv, bind_wagg, bind_wI, bind_wB, bind_wS, bind_wL, bind_wP, bind_wFn, bind_ob, Option.bind_some]
theorem d50b {P : Program} (fuel : Nat) (hmix : P.follows .mixedOrders = true) (hC : Sound P (C23 fuel)) (hF : FFits P 50 A50) (args res : List A) (h : (O50b fuel).o args some = some res) : Den P 50 args res := by
  obtain ⟨a1, l2, rfl, z0⟩ := inv_wc h
  obtain ⟨c3, rfl, z1⟩ := inv_wv z0
  obtain ⟨y4, y5, h6, z2⟩ := inv_wL z1
  obtain ⟨a7, l8, rfl, z3⟩ := inv_wc z2
  obtain ⟨c9, rfl, z4⟩ := inv_wv z3
  obtain ⟨y10, h11, z5⟩ := inv_wFn z4
  obtain ⟨y12, h13, z6⟩ := inv_wP z5
  obtain ⟨hn, z7⟩ := inv_wn z6
  cases hn
  exact Den.weaken (.cons (WkA.v h6) (.cons (WkA.v (wk_fn1 h11 (wk_rp h13))) .nil)) (evalF_sound hmix hC hF ((e50b fuel y4 y5 y12).trans z7))
def C24 (fuel : Nat) : Oracle := (C23 fuel).add 50 (fun l => isFn 64 l 1) (O50b fuel)
def A35 : AF := ⟨15, [.tmp 4],
  (.seq (.region 0 [o1 3 (.box 0 22 (tm 1)), o1 4 (.assign (.const (.bool false)))] 1 none) []
  (.seq (.region 1 [mv 5 0, o1 6 (.load 22 none (tm 3)), o1 7 (.call 58 [(tm 5), (tm 6), (.func 56)] [22, 22, 67] .snap), o1 8 (.unOp .not 4 (tm 7)), mv 9 8, og 10 (.move (tm 0)) 9 true, og 11 (.mkfn 64 [(tm 3)]) 9 true, og 12 (.call 50 [(tm 10), (tm 11)] [22, 62] .snap) 9 true, og 13 (.unOp .not 4 (tm 12)) 9 true, o1 14 (.pick (tm 9) (tm 13) (.const (.bool false))), o1 4 (.assign (tm 14))] 0 none) []
  (.ret (rl 0 4 (rl 5 10 [])))))⟩
def D35 {ρ : Type} (fuel : Nat) (x1 : Nat) (x2 : Nat → Nat → CV) (x3 : Nat) (x4 : Nat → Nat → CV) (k : Bool → Option ρ) : Option ρ :=
  (ob (F58 fuel x1 x2 x3 x4) fun x5 => (bif ((!x5) == true) then (ob (F50b fuel x1 x2 (listF [(.ro false (.pr (.int .i64) (.pr (.int .i64) .nil)) x3 x4)])) fun x6 => (k (!x6))) else (k false)))
def F35 (fuel : Nat) (x1 : Nat) (x2 : Nat → Nat → CV) (x3 : Nat) (x4 : Nat → Nat → CV) : Option (Bool) := D35 fuel x1 x2 x3 x4 some
theorem n35 {ρ σ : Type} (fuel : Nat) (x1 : Nat) (x2 : Nat → Nat → CV) (x3 : Nat) (x4 : Nat → Nat → CV) (k : (Bool) → Option ρ) (g : ρ → Option σ) : ob (D35 fuel x1 x2 x3 x4 k) g = D35 fuel x1 x2 x3 x4 fun t => ob (k t) g := by
  simp only [D35, ob_bif, ob_ob, ob_none]
theorem f35 {ρ : Type} (fuel : Nat) (x1 : Nat) (x2 : Nat → Nat → CV) (x3 : Nat) (x4 : Nat → Nat → CV) (k : (Bool) → Option ρ) : D35 fuel x1 x2 x3 x4 k = ob (F35 fuel x1 x2 x3 x4) k := by
  unfold F35
  rw [n35]
  simp only [ob_some]
theorem walk35 (fuel : Nat) (x1 : Nat) (x2 : Nat → Nat → CV) (x3 : Nat) (x4 : Nat → Nat → CV) :
    evalF (C24 fuel) fuel A35 [.v (.ro false (.pr (.int .i64) (.pr (.int .i64) .nil)) x1 x2), .v (.ro false (.pr (.int .i64) (.pr (.int .i64) .nil)) x3 x4)] =
    (ob (F58 fuel x1 x2 x3 x4) fun x5 => (bif ((!x5) == true) then (ob (F50b fuel x1 x2 (listF [(.ro false (.pr (.int .i64) (.pr (.int .i64) .nil)) x3 x4)])) fun x6 => (some [.v (.b (!x6))])) else (some [.v (.b false)]))) := by kernel_rfl
theorem e35 (fuel : Nat) (x1 : Nat) (x2 : Nat → Nat → CV) (x3 : Nat) (x4 : Nat → Nat → CV) : evalF (C24 fuel) fuel A35 [.v (.ro false (.pr (.int .i64) (.pr (.int .i64) .nil)) x1 x2), .v (.ro false (.pr (.int .i64) (.pr (.int .i64) .nil)) x3 x4)] = ob (F35 fuel x1 x2 x3 x4) fun t => some [.v (.b t)] := by
  rw [walk35, ← f35]
  simp only [D35]
def O35 (fuel : Nat) : Ora where
  o := fun args {ρ} K =>
    wc args fun a1 l2 =>
    wv a1 fun c3 =>
    wL (.pr (.int .i64) (.pr (.int .i64) .nil)) c3 fun y4 y5 =>
    wc l2 fun a7 l8 =>
    wv a7 fun c9 =>
    wL (.pr (.int .i64) (.pr (.int .i64) .nil)) c9 fun y10 y11 =>
    wn l8 <|
    (ob (F35 fuel y4 y5 y10 y11) fun t => K [.v (.b t)])
  nat := fun args {ρ} K => by
    simp only [bind_wc, bind_wn, bind_wv, bind_wagg, bind_wI, bind_wB, bind_wS, bind_wL, bind_wP, bind_wFn, bind_ob, Option.bind_some]
theorem d35 {P : Program} (fuel : Nat) (hmix : P.follows .mixedOrders = true) (hC : Sound P (C24 fuel)) (hF : FFits P 35 A35) (args res : List A) (h : (O35 fuel).o args some = some res) : Den P 35 args res := by
  obtain ⟨a1, l2, rfl, z0⟩ := inv_wc h
  obtain ⟨c3, rfl, z1⟩ := inv_wv z0
  obtain ⟨y4, y5, h6, z2⟩ := inv_wL z1
  obtain ⟨a7, l8, rfl, z3⟩ := inv_wc z2
  obtain ⟨c9, rfl, z4⟩ := inv_wv z3
  obtain ⟨y10, y11, h12, z5⟩ := inv_wL z4
  obtain ⟨hn, z6⟩ := inv_wn z5
  cases hn
  exact Den.weaken (.cons (WkA.v h6) (.cons (WkA.v h12) .nil)) (evalF_sound hmix hC hF ((e35 fuel y4 y5 y10 y11).trans z6))
def C25 (fuel : Nat) : Oracle := (C24 fuel).add 35 (fun _ => true) (O35 fuel)
def A36 : AF := ⟨25, [.tmp 4],
  (.seq (.region 0 [o1 4 (.assign (.const (.bool false)))] 0 none) []
  (.seq (.region 1 [mv 5 0, mv 6 1, o1 7 (.call 58 [(tm 5), (tm 6), (.func 56)] [22, 22, 67] .snap), o1 8 (.unOp .not 4 (tm 7)), mv 9 8, og 10 (.move (tm 0)) 9 true, og 11 (.move (tm 1)) 9 true, og 12 (.indexAddr 22 34 2 (tm 11) (ic 0)) 9 true, og 13 (.load 34 (some 2) (tm 12)) 9 true, og 14 (.call 65 [(tm 10), (tm 13)] [22, 34] .snap) 9 true, og 15 (.binOp .lss 3 (tm 14) (ic 0) 3) 9 true, o1 16 (.pick (tm 9) (tm 15) (.const (.bool false))), mv 17 16, og 18 (.move (tm 1)) 17 true, og 19 (.move (tm 0)) 17 true, og 20 (.indexAddr 22 34 2 (tm 19) (ic 0)) 17 true, og 21 (.load 34 (some 2) (tm 20)) 17 true, og 22 (.call 65 [(tm 18), (tm 21)] [22, 34] .snap) 17 true, og 23 (.binOp .lss 3 (tm 22) (ic 0) 3) 17 true, o1 24 (.pick (tm 17) (tm 23) (.const (.bool false))), o1 4 (.assign (tm 24))] 0 none) []
  (.ret (rl 0 4 (rl 5 20 [])))))⟩
def D36 {ρ : Type} (fuel : Nat) (x1 : Nat) (x2 : Nat → Nat → CV) (x3 : Nat) (x4 : Nat → Nat → CV) (k : Bool → Option ρ) : Option ρ :=
  (ob (F58 fuel x1 x2 x3 x4) fun x5 => (bif ((!x5) == true) then (bif (inb 0 x3) then (ob (F65 fuel x1 x2 (CV.int (x4 0 0)) (CV.int (x4 0 1))) fun x6 => (bif ((decide (x6 < 0)) == true) then (bif (inb 0 x1) then (ob (F65 fuel x3 x4 (CV.int (x2 0 0)) (CV.int (x2 0 1))) fun x7 => (k (decide (x7 < 0)))) else none) else (k false))) else none) else (k false)))
def F36 (fuel : Nat) (x1 : Nat) (x2 : Nat → Nat → CV) (x3 : Nat) (x4 : Nat → Nat → CV) : Option (Bool) := D36 fuel x1 x2 x3 x4 some
theorem n36 {ρ σ : Type} (fuel : Nat) (x1 : Nat) (x2 : Nat → Nat → CV) (x3 : Nat) (x4 : Nat → Nat → CV) (k : (Bool) → Option ρ) (g : ρ → Option σ) : ob (D36 fuel x1 x2 x3 x4 k) g = D36 fuel x1 x2 x3 x4 fun t => ob (k t) g := by
  simp only [D36, ob_bif, ob_ob, ob_none]
theorem f36 {ρ : Type} (fuel : Nat) (x1 : Nat) (x2 : Nat → Nat → CV) (x3 : Nat) (x4 : Nat → Nat → CV) (k : (Bool) → Option ρ) : D36 fuel x1 x2 x3 x4 k = ob (F36 fuel x1 x2 x3 x4) k := by
  unfold F36
  rw [n36]
  simp only [ob_some]
theorem walk36 (fuel : Nat) (x1 : Nat) (x2 : Nat → Nat → CV) (x3 : Nat) (x4 : Nat → Nat → CV) :
    evalF (C25 fuel) fuel A36 [.v (.ro false (.pr (.int .i64) (.pr (.int .i64) .nil)) x1 x2), .v (.ro false (.pr (.int .i64) (.pr (.int .i64) .nil)) x3 x4)] =
    (ob (F58 fuel x1 x2 x3 x4) fun x5 => (bif ((!x5) == true) then (bif (inb 0 x3) then (ob (F65 fuel x1 x2 (CV.int (x4 0 0)) (CV.int (x4 0 1))) fun x6 => (bif ((decide (x6 < 0)) == true) then (bif (inb 0 x1) then (ob (F65 fuel x3 x4 (CV.int (x2 0 0)) (CV.int (x2 0 1))) fun x7 => (some [.v (.b (decide (x7 < 0)))])) else none) else (some [.v (.b false)]))) else none) else (some [.v (.b false)]))) := by kernel_rfl
theorem e36 (fuel : Nat) (x1 : Nat) (x2 : Nat → Nat → CV) (x3 : Nat) (x4 : Nat → Nat → CV) : evalF (C25 fuel) fuel A36 [.v (.ro false (.pr (.int .i64) (.pr (.int .i64) .nil)) x1 x2), .v (.ro false (.pr (.int .i64) (.pr (.int .i64) .nil)) x3 x4)] = ob (F36 fuel x1 x2 x3 x4) fun t => some [.v (.b t)] := by
  rw [walk36, ← f36]
  simp only [D36]
def O36 (fuel : Nat) : Ora where
  o := fun args {ρ} K =>
    wc args fun a1 l2 =>
    wv a1 fun c3 =>
    wL (.pr (.int .i64) (.pr (.int .i64) .nil)) c3 fun y4 y5 =>
    wc l2 fun a7 l8 =>
    wv a7 fun c9 =>
    wL (.pr (.int .i64) (.pr (.int .i64) .nil)) c9 fun y10 y11 =>
    wn l8 <|
    (ob (F36 fuel y4 y5 y10 y11) fun t => K [.v (.b t)])
  nat := fun args {ρ} K => by
    simp only [bind_wc, bind_wn, bind_wv, bind_wagg, bind_wI, bind_wB, bind_wS, bind_wL, bind_wP, bind_wFn, bind_ob, Option.bind_some]
theorem d36 {P : Program} (fuel : Nat) (hmix : P.follows .mixedOrders = true) (hC : Sound P (C25 fuel)) (hF : FFits P 36 A36) (args res : List A) (h : (O36 fuel).o args some = some res) : Den P 36 args res := by
  obtain ⟨a1, l2, rfl, z0⟩ := inv_wc h
  obtain ⟨c3, rfl, z1⟩ := inv_wv z0
  obtain ⟨y4, y5, h6, z2⟩ := inv_wL z1
  obtain ⟨a7, l8, rfl, z3⟩ := inv_wc z2
  obtain ⟨c9, rfl, z4⟩ := inv_wv z3
  obtain ⟨y10, y11, h12, z5⟩ := inv_wL z4
  obtain ⟨hn, z6⟩ := inv_wn z5
  cases hn
  exact Den.weaken (.cons (WkA.v h6) (.cons (WkA.v h12) .nil)) (evalF_sound hmix hC hF ((e36 fuel y4 y5 y10 y11).trans z6))
def C26 (fuel : Nat) : Oracle := (C25 fuel).add 36 (fun _ => true) (O36 fuel)
def A13v1 : AC := (.region 21 [o1 59 (.binOp .add 3 (tm 51) (ic 1) 3), mv 51 59] 0 none)
def A13v2 : AC := (.seq (.block 3
  (.seq (.region 18 [o1 53 (.indexAddr 23 22 1 (tm 49) (tm 51)), o1 54 (.load 22 none (tm 53)), o1 8 (.assign (tm 54))] 0 none) []
    (.seq (.region 19 [mv 55 5, mv 56 8, o1 57 (.call 36 [(tm 55), (tm 56)] [22, 22] .snap), o1 58 (.unOp .not 4 (tm 57))] 0 none) []
    (.cond (tm 58)
    (.seq (.region 20 [o1 2 (.assign (ic 17))] 0 none) []
      (.ret (0 :: 1 :: (rl 3 58 []))))
    .skip)))) (2 :: 8 :: (rl 53 6 []))
  A13v1)
def A13v3 : AC := (.seq (.region 17 [o1 52 (.binOp .lss 3 (tm 51) (tm 50) 3)] 0 none) []
  (.seq (.cond (tm 52)
  .skip
  (.exit 2 (0 :: (rl 2 22 (rl 27 34 []))))) []
  A13v2))
def A13v4 : AC := (.seq (.region 16 [o1 46 (.fieldAddr 25 (tm 1) 1 1), o1 47 (.load 23 none (tm 46)), mv 48 4, o1 49 (.slice 23 22 1 (tm 47) none (some (tm 48)) none), o1 50 (.len 23 false (tm 49)), o1 51 (.move (ic 0))] 0 none) []
  (.block 2
  (.loop [] (0 :: 2 :: 3 :: 4 :: (rl 6 18 (rl 27 22 (rl 52 9 []))))
    A13v3)))
def A13v5 : AC := (.seq (.seq (.region 14 [mv 36 5, o1 37 (.call 34 [(tm 36)] [22] .snap), o1 38 (.binOp .geq 3 (tm 37) (ic 0) 3), mv 39 38, og 40 (.move (tm 5)) 39 false, og 41 (.fieldAddr 25 (tm 1) 0 0) 39 false, og 42 (.load 22 none (tm 41)) 39 false, og 43 (.call 35 [(tm 40), (tm 42)] [22, 22] .snap) 39 false, og 44 (.unOp .not 4 (tm 43)) 39 false, o1 45 (.pick (tm 39) (.const (.bool true)) (tm 44))] 0 none) []
  (.cond (tm 45)
  (.seq (.region 15 [o1 2 (.assign (ic 17))] 0 none) []
    (.ret (0 :: 1 :: (rl 3 58 []))))
  .skip)) (2 :: (rl 36 10 []))
  A13v4)
def A13v6 : AC := (.region 22 [o1 60 (.binOp .add 3 (tm 26) (ic 1) 3), mv 26 60] 0 none)
def A13v7 : AC := (.seq (.block 1
  (.seq (.region 10 [mv 28 26, o1 29 (.indexAddr 23 22 1 (tm 24) (tm 26)), o1 30 (.load 22 none (tm 29)), o1 4 (.assign (tm 28)), o1 5 (.assign (tm 30))] 0 none) []
    (.seq (.seq (.region 11 [mv 31 5, o1 32 (.call 33 [(tm 31)] [22] .snap), o1 6 (.assign (tm 32))] 0 none) []
    (.seq (.region 12 [mv 33 6, o1 34 (.binOp .neq 27 (tm 33) (ic 0) 27)] 0 none) []
    (.cond (tm 34)
    (.seq (.region 13 [mv 35 6, o1 2 (.assign (tm 35))] 0 none) []
      (.ret (0 :: 1 :: (rl 3 58 []))))
    .skip))) (2 :: 6 :: (rl 31 5 []))
    A13v5))) (2 :: 4 :: 5 :: 6 :: 8 :: (rl 28 32 []))
  A13v6)
def A13v8 : AC := (.seq (.region 9 [o1 27 (.binOp .lss 3 (tm 26) (tm 25) 3)] 0 none) []
  (.seq (.cond (tm 27)
  .skip
  (.exit 0 (rl 0 61 []))) []
  A13v7))
def A13v9 : AC := (.seq (.region 23 [o1 2 (.assign (ic 0))] 0 none) []
  (.ret (0 :: 1 :: (rl 3 58 []))))
def A13v10 : AC := (.seq (.seq (.region 8 [o1 23 (.fieldAddr 25 (tm 1) 1 1), o1 24 (.load 23 none (tm 23)), o1 25 (.len 23 false (tm 24)), o1 26 (.move (ic 0))] 0 none) []
  (.block 0
  (.loop [] (0 :: (rl 2 22 (rl 27 34 [])))
    A13v8))) (2 :: 4 :: 5 :: 6 :: 8 :: (rl 23 38 []))
  A13v9)
def A13v11 : AC := (.seq (.seq (.region 6 [o1 19 (.fieldAddr 25 (tm 1) 0 0), o1 20 (.load 22 none (tm 19)), o1 21 (.call 34 [(tm 20)] [22] .snap), o1 22 (.binOp .leq 3 (tm 21) (ic 0) 3)] 0 none) []
  (.cond (tm 22)
  (.seq (.region 7 [o1 2 (.assign (ic 17))] 0 none) []
    (.ret (0 :: 1 :: (rl 3 58 []))))
  .skip)) (2 :: (rl 19 4 []))
  A13v10)
def A13v12 : AC := (.seq (.seq (.region 3 [o1 13 (.fieldAddr 25 (tm 1) 0 0), o1 14 (.load 22 none (tm 13)), o1 15 (.call 33 [(tm 14)] [22] .snap), o1 3 (.assign (tm 15))] 0 none) []
  (.seq (.region 4 [mv 16 3, o1 17 (.binOp .neq 27 (tm 16) (ic 0) 27)] 0 none) []
  (.cond (tm 17)
  (.seq (.region 5 [mv 18 3, o1 2 (.assign (tm 18))] 0 none) []
    (.ret (0 :: 1 :: (rl 3 58 []))))
  .skip))) (2 :: 3 :: (rl 13 6 []))
  A13v11)
def A13 : AF := ⟨61, [.tmp 2],
  (.seq (.region 0 [o1 1 (.box 0 25 (tm 0)), o1 2 (.assign (ic 0))] 1 none) []
  (.seq (.seq (.region 1 [o1 9 (.fieldAddr 25 (tm 1) 1 1), o1 10 (.load 23 none (tm 9)), o1 11 (.len 23 false (tm 10)), o1 12 (.binOp .gtr 3 (tm 11) (ic 8) 3)] 0 none) []
  (.cond (tm 12)
  (.seq (.region 2 [o1 2 (.assign (ic 12))] 0 none) []
    (.ret (0 :: 1 :: (rl 3 58 []))))
  .skip)) (2 :: (rl 9 4 []))
  A13v12))⟩
def B13v2 (C : Oracle) (fuel : Nat) {ρ : Type} : St → (Ex → St → Option ρ) → Option ρ := fun st k => evalC C fuel A13v3 st k
def N13v2 : St → Option St := fun s => s.norm (0 :: 2 :: 3 :: 4 :: (rl 6 18 (rl 27 22 (rl 52 9 [])))) 1
def s13v0 (x42 : Nat) (x43 : Nat → Nat → CV) (x44 : Nat) (x45 : Nat → Nat → CV) (x46 : Int) (x47 : Int) (x48 : Nat) (x49 : Int) (x50 : Int) (x51 : Nat) (x52 : Nat → Nat → CV) : St := ⟨(.u :: .x (.ptr 0 0) :: (us 3 (.x (.c (.ro false (.pr (.int .i64) (.pr (.int .i64) .nil)) x42 x43)) :: (us 18 (.x (.c (.ro false (.pr (.sl (.pr (.int .i64) (.pr (.int .i64) .nil))) .nil) x44 x45)) :: .x (.c (.i .i64 x46)) :: .x (.c (.i .i64 x47)) :: (us 22 (.x (.c (.ro false (.pr (.sl (.pr (.int .i64) (.pr (.int .i64) .nil))) .nil) x48 x45)) :: .x (.c (.i .i64 x49)) :: .x (.c (.i .i64 x50)) :: (us 9 [])))))))), [.box [(.c (.ro false (.pr (.int .i64) (.pr (.int .i64) .nil)) x51 x52)), (.c (.ro false (.pr (.sl (.pr (.int .i64) (.pr (.int .i64) .nil))) .nil) x44 x45))]]⟩
def s13v1 (x51 : Nat) (x52 : Nat → Nat → CV) (x44 : Nat) (x45 : Nat → Nat → CV) : St := ⟨(.u :: .u :: .x (.c (.i .i64 17)) :: (us 58 [])), [.box [(.c (.ro false (.pr (.int .i64) (.pr (.int .i64) .nil)) x51 x52)), (.c (.ro false (.pr (.sl (.pr (.int .i64) (.pr (.int .i64) .nil))) .nil) x44 x45))]]⟩
def s13v2 (x44 : Nat) (x45 : Nat → Nat → CV) (x46 : Int) (x47 : Int) (x51 : Nat) (x52 : Nat → Nat → CV) : St := ⟨(.u :: .x (.ptr 0 0) :: (us 22 (.x (.c (.ro false (.pr (.sl (.pr (.int .i64) (.pr (.int .i64) .nil))) .nil) x44 x45)) :: .x (.c (.i .i64 x46)) :: .x (.c (.i .i64 x47)) :: (us 34 [])))), [.box [(.c (.ro false (.pr (.int .i64) (.pr (.int .i64) .nil)) x51 x52)), (.c (.ro false (.pr (.sl (.pr (.int .i64) (.pr (.int .i64) .nil))) .nil) x44 x45))]]⟩
def L13v2 {ρ : Type} (fuel : Nat) (x42 : Nat) (x43 : Nat → Nat → CV) (x44 : Nat) (x45 : Nat → Nat → CV) (x46 : Int) (x47 : Int) (x48 : Nat) (x49 : Int) (x51 : Nat) (x52 : Nat → Nat → CV) : Nat → Int → (Option ρ) → (Option ρ) → Option ρ
  | 0, _, _, _ => none
  | m + 1, x50, k0, k1 =>
    (bif (decide (x50 < x49)) then (bif (inb x50 x48) then (ob (F36 fuel x42 x43 (CV.len (x45 (Int.toNat x50) 0)) (CV.el (x45 (Int.toNat x50) 0))) fun x53 => (bif (!x53) then k0 else (L13v2 fuel x42 x43 x44 x45 x46 x47 x48 x49 x51 x52 m (w64 (x50 + 1)) k0 k1))) else none) else k1)
theorem nl13v2 {ρ σ : Type} (fuel : Nat) (x42 : Nat) (x43 : Nat → Nat → CV) (x44 : Nat) (x45 : Nat → Nat → CV) (x46 : Int) (x47 : Int) (x48 : Nat) (x49 : Int) (x51 : Nat) (x52 : Nat → Nat → CV) (g : ρ → Option σ) : ∀ (m : Nat) (x50 : Int) (k0 : Option ρ) (k1 : Option ρ), ob (L13v2 fuel x42 x43 x44 x45 x46 x47 x48 x49 x51 x52 m x50 k0 k1) g = L13v2 fuel x42 x43 x44 x45 x46 x47 x48 x49 x51 x52 m x50 (ob k0 g) (ob k1 g)
  | 0, _, _, _ => rfl
  | m + 1, x50, k0, k1 => by
    simp only [L13v2, ob_bif, ob_ob, ob_none, nl13v2 fuel x42 x43 x44 x45 x46 x47 x48 x49 x51 x52 g m]
theorem r13v2 (fuel : Nat) (m : Nat) {ρ : Type} (k : Ex → St → Option ρ) (x42 : Nat) (x43 : Nat → Nat → CV) (x44 : Nat) (x45 : Nat → Nat → CV) (x46 : Int) (x47 : Int) (x48 : Nat) (x49 : Int) (x51 : Nat) (x52 : Nat → Nat → CV) (x50 : Int) :
    loopH (B13v2 (C26 fuel) fuel) N13v2 (m + 1) (s13v0 x42 x43 x44 x45 x46 x47 x48 x49 x50 x51 x52) k =
    (bif (decide (x50 < x49)) then (bif (inb x50 x48) then (ob (F36 fuel x42 x43 (CV.len (x45 (Int.toNat x50) 0)) (CV.el (x45 (Int.toNat x50) 0))) fun x53 => (bif (!x53) then (k .ret (s13v1 x51 x52 x44 x45)) else (loopH (B13v2 (C26 fuel) fuel) N13v2 m (s13v0 x42 x43 x44 x45 x46 x47 x48 x49 (w64 (x50 + 1)) x51 x52) k))) else none) else (k (.exit 2) (s13v2 x44 x45 x46 x47 x51 x52))) := by kernel_rfl
theorem q13v2 (fuel : Nat) (x42 : Nat) (x43 : Nat → Nat → CV) (x44 : Nat) (x45 : Nat → Nat → CV) (x46 : Int) (x47 : Int) (x48 : Nat) (x49 : Int) (x51 : Nat) (x52 : Nat → Nat → CV) {ρ : Type} (k : Ex → St → Option ρ) : ∀ (m : Nat) (x50 : Int),
    loopH (B13v2 (C26 fuel) fuel) N13v2 m (s13v0 x42 x43 x44 x45 x46 x47 x48 x49 x50 x51 x52) k = L13v2 fuel x42 x43 x44 x45 x46 x47 x48 x49 x51 x52 m x50 (k .ret (s13v1 x51 x52 x44 x45)) (k (.exit 2) (s13v2 x44 x45 x46 x47 x51 x52))
  | 0, _ => rfl
  | m + 1, x50 => by
    rw [r13v2]
    simp only [L13v2, q13v2 fuel x42 x43 x44 x45 x46 x47 x48 x49 x51 x52 k m]
def B13v3 (C : Oracle) (fuel : Nat) {ρ : Type} : St → (Ex → St → Option ρ) → Option ρ := fun st k => evalC C fuel A13v8 st k
def N13v3 : St → Option St := fun s => s.norm (0 :: (rl 2 22 (rl 27 34 []))) 1
def s13v3 (x22 : Nat) (x23 : Nat → Nat → CV) (x24 : Int) (x25 : Int) (x26 : Nat) (x27 : Nat → Nat → CV) : St := ⟨(.u :: .x (.ptr 0 0) :: (us 22 (.x (.c (.ro false (.pr (.sl (.pr (.int .i64) (.pr (.int .i64) .nil))) .nil) x22 x23)) :: .x (.c (.i .i64 x24)) :: .x (.c (.i .i64 x25)) :: (us 34 [])))), [.box [(.c (.ro false (.pr (.int .i64) (.pr (.int .i64) .nil)) x26 x27)), (.c (.ro false (.pr (.sl (.pr (.int .i64) (.pr (.int .i64) .nil))) .nil) x22 x23))]]⟩
def s13v4 (x54 : Int) (x26 : Nat) (x27 : Nat → Nat → CV) (x22 : Nat) (x23 : Nat → Nat → CV) : St := ⟨(.u :: .u :: .x (.c (.i .i64 x54)) :: (us 58 [])), [.box [(.c (.ro false (.pr (.int .i64) (.pr (.int .i64) .nil)) x26 x27)), (.c (.ro false (.pr (.sl (.pr (.int .i64) (.pr (.int .i64) .nil))) .nil) x22 x23))]]⟩
def s13v5 (x26 : Nat) (x27 : Nat → Nat → CV) (x22 : Nat) (x23 : Nat → Nat → CV) : St := ⟨(us 61 []), [.box [(.c (.ro false (.pr (.int .i64) (.pr (.int .i64) .nil)) x26 x27)), (.c (.ro false (.pr (.sl (.pr (.int .i64) (.pr (.int .i64) .nil))) .nil) x22 x23))]]⟩
def L13v3 {ρ : Type} (fuel : Nat) (x22 : Nat) (x23 : Nat → Nat → CV) (x24 : Int) (x26 : Nat) (x27 : Nat → Nat → CV) : Nat → Int → (Int → Option ρ) → (Option ρ) → Option ρ
  | 0, _, _, _ => none
  | m + 1, x25, k0, k1 =>
    (bif (decide (x25 < x24)) then (bif (inb x25 x22) then (ob (F33 fuel (CV.len (x23 (Int.toNat x25) 0)) (CV.el (x23 (Int.toNat x25) 0))) fun x28 => (bif (x28 != 0) then (k0 x28) else (ob (F34 fuel (CV.len (x23 (Int.toNat x25) 0)) (CV.el (x23 (Int.toNat x25) 0))) fun x29 => (bif ((decide (x29 ≥ 0)) == false) then (ob (F35 fuel (CV.len (x23 (Int.toNat x25) 0)) (CV.el (x23 (Int.toNat x25) 0)) x26 x27) fun x30 => (bif (!x30) then (k0 17) else (bif (inbe x25 x22) then (L13v2 fuel (CV.len (x23 (Int.toNat x25) 0)) (CV.el (x23 (Int.toNat x25) 0)) x22 x23 x24 x25 ((Int.toNat x25) - 0) (Int.ofNat ((Int.toNat x25) - 0)) x26 x27 fuel 0
    (k0 17)
    (L13v3 fuel x22 x23 x24 x26 x27 m (w64 (x25 + 1)) k0 k1)) else none))) else (k0 17))))) else none) else k1)
theorem nl13v3 {ρ σ : Type} (fuel : Nat) (x22 : Nat) (x23 : Nat → Nat → CV) (x24 : Int) (x26 : Nat) (x27 : Nat → Nat → CV) (g : ρ → Option σ) : ∀ (m : Nat) (x25 : Int) (k0 : Int → Option ρ) (k1 : Option ρ), ob (L13v3 fuel x22 x23 x24 x26 x27 m x25 k0 k1) g = L13v3 fuel x22 x23 x24 x26 x27 m x25 (fun x54 => ob (k0 x54) g) (ob k1 g)
  | 0, _, _, _ => rfl
  | m + 1, x25, k0, k1 => by
    simp only [L13v3, ob_bif, ob_ob, ob_none, nl13v3 fuel x22 x23 x24 x26 x27 g m, nl13v2]
def s13v6 (x25 : Int) (x23 : Nat → Nat → CV) (x22 : Nat) (x24 : Int) (x26 : Nat) (x27 : Nat → Nat → CV) : St := ⟨(.u :: .x (.ptr 0 0) :: .u :: .u :: .x (.c (.i .i64 x25)) :: .x (.c (.ro false (.pr (.int .i64) (.pr (.int .i64) .nil)) (CV.len (x23 (Int.toNat x25) 0)) (CV.el (x23 (Int.toNat x25) 0)))) :: (us 18 (.x (.c (.ro false (.pr (.sl (.pr (.int .i64) (.pr (.int .i64) .nil))) .nil) x22 x23)) :: .x (.c (.i .i64 x24)) :: .x (.c (.i .i64 x25)) :: .x (.c (.b true)) :: .x (.c (.i .i64 x25)) :: .x (.c (.rp (.pr (.sl (.pr (.int .i64) (.pr (.int .i64) .nil))) .nil) (x23 (Int.toNat x25)))) :: .x (.c (.ro false (.pr (.int .i64) (.pr (.int .i64) .nil)) (CV.len (x23 (Int.toNat x25) 0)) (CV.el (x23 (Int.toNat x25) 0)))) :: (us 15 (.x (.ptr 0 1) :: .x (.c (.ro false (.pr (.sl (.pr (.int .i64) (.pr (.int .i64) .nil))) .nil) x22 x23)) :: .x (.c (.i .i64 x25)) :: .x (.c (.ro false (.pr (.sl (.pr (.int .i64) (.pr (.int .i64) .nil))) .nil) ((Int.toNat x25) - 0) x23)) :: .x (.c (.i .i64 (Int.ofNat ((Int.toNat x25) - 0)))) :: .x (.c (.i .i64 0)) :: (us 9 [])))))), [.box [(.c (.ro false (.pr (.int .i64) (.pr (.int .i64) .nil)) x26 x27)), (.c (.ro false (.pr (.sl (.pr (.int .i64) (.pr (.int .i64) .nil))) .nil) x22 x23))]]⟩
theorem r13v3 (fuel : Nat) (m : Nat) {ρ : Type} (k : Ex → St → Option ρ) (x22 : Nat) (x23 : Nat → Nat → CV) (x24 : Int) (x26 : Nat) (x27 : Nat → Nat → CV) (x25 : Int) :
    loopH (B13v3 (C26 fuel) fuel) N13v3 (m + 1) (s13v3 x22 x23 x24 x25 x26 x27) k =
    (bif (decide (x25 < x24)) then (bif (inb x25 x22) then (ob (F33 fuel (CV.len (x23 (Int.toNat x25) 0)) (CV.el (x23 (Int.toNat x25) 0))) fun x28 => (bif (x28 != 0) then (k .ret (s13v4 x28 x26 x27 x22 x23)) else (ob (F34 fuel (CV.len (x23 (Int.toNat x25) 0)) (CV.el (x23 (Int.toNat x25) 0))) fun x29 => (bif ((decide (x29 ≥ 0)) == false) then (ob (F35 fuel (CV.len (x23 (Int.toNat x25) 0)) (CV.el (x23 (Int.toNat x25) 0)) x26 x27) fun x30 => (bif (!x30) then (k .ret (s13v4 17 x26 x27 x22 x23)) else (bif (inbe x25 x22) then (loopN (B13v2 (C26 fuel) fuel) N13v2 fuel (s13v6 x25 x23 x22 x24 x26 x27) (kBlk 2 (kBlk 1 (kSeq (C26 fuel) fuel (2 :: 4 :: 5 :: 6 :: 8 :: (rl 28 32 [])) A13v6 (kLoop (B13v3 (C26 fuel) fuel) N13v3 m k))))) else none))) else (k .ret (s13v4 17 x26 x27 x22 x23)))))) else none) else (k (.exit 0) (s13v5 x26 x27 x22 x23))) := by kernel_rfl
theorem t13v1 (fuel : Nat) {ρ : Type} (k : Ex → St → Option ρ) (x25 : Int) (x23 : Nat → Nat → CV) (x22 : Nat) (x24 : Int) (x26 : Nat) (x27 : Nat → Nat → CV) :
    loopN (B13v2 (C26 fuel) fuel) N13v2 fuel (s13v6 x25 x23 x22 x24 x26 x27) k =
    L13v2 fuel (CV.len (x23 (Int.toNat x25) 0)) (CV.el (x23 (Int.toNat x25) 0)) x22 x23 x24 x25 ((Int.toNat x25) - 0) (Int.ofNat ((Int.toNat x25) - 0)) x26 x27 fuel 0 (k .ret (s13v1 x26 x27 x22 x23)) (k (.exit 2) (s13v2 x22 x23 x24 x25 x26 x27)) :=
  (loopN_at (st' := (s13v0 (CV.len (x23 (Int.toNat x25) 0)) (CV.el (x23 (Int.toNat x25) 0)) x22 x23 x24 x25 ((Int.toNat x25) - 0) (Int.ofNat ((Int.toNat x25) - 0)) 0 x26 x27)) (by kernel_rfl)).trans (q13v2 fuel (CV.len (x23 (Int.toNat x25) 0)) (CV.el (x23 (Int.toNat x25) 0)) x22 x23 x24 x25 ((Int.toNat x25) - 0) (Int.ofNat ((Int.toNat x25) - 0)) x26 x27 k fuel 0)
theorem g13v2 (fuel : Nat) (m : Nat) {ρ : Type} (k : Ex → St → Option ρ) (x26 : Nat) (x27 : Nat → Nat → CV) (x22 : Nat) (x23 : Nat → Nat → CV) :
    (kBlk 2 (kBlk 1 (kSeq (C26 fuel) fuel (2 :: 4 :: 5 :: 6 :: 8 :: (rl 28 32 [])) A13v6 (kLoop (B13v3 (C26 fuel) fuel) N13v3 m k)))) .ret (s13v1 x26 x27 x22 x23) =
    (k .ret (s13v4 17 x26 x27 x22 x23)) := by kernel_rfl
theorem g13v3 (fuel : Nat) (m : Nat) {ρ : Type} (k : Ex → St → Option ρ) (x22 : Nat) (x23 : Nat → Nat → CV) (x24 : Int) (x25 : Int) (x26 : Nat) (x27 : Nat → Nat → CV) :
    (kBlk 2 (kBlk 1 (kSeq (C26 fuel) fuel (2 :: 4 :: 5 :: 6 :: 8 :: (rl 28 32 [])) A13v6 (kLoop (B13v3 (C26 fuel) fuel) N13v3 m k)))) (.exit 2) (s13v2 x22 x23 x24 x25 x26 x27) =
    (loopH (B13v3 (C26 fuel) fuel) N13v3 m (s13v3 x22 x23 x24 (w64 (x25 + 1)) x26 x27) k) := by kernel_rfl
theorem q13v3 (fuel : Nat) (x22 : Nat) (x23 : Nat → Nat → CV) (x24 : Int) (x26 : Nat) (x27 : Nat → Nat → CV) {ρ : Type} (k : Ex → St → Option ρ) : ∀ (m : Nat) (x25 : Int),
    loopH (B13v3 (C26 fuel) fuel) N13v3 m (s13v3 x22 x23 x24 x25 x26 x27) k = L13v3 fuel x22 x23 x24 x26 x27 m x25 (fun x54 => k .ret (s13v4 x54 x26 x27 x22 x23)) (k (.exit 0) (s13v5 x26 x27 x22 x23))
  | 0, _ => rfl
  | m + 1, x25 => by
    rw [r13v3]
    simp only [L13v3, q13v3 fuel x22 x23 x24 x26 x27 k m, t13v1, g13v2, g13v3]
def D13 {ρ : Type} (fuel : Nat) (x1 : Nat) (x2 : Nat → Nat → CV) (x3 : Nat) (x4 : Nat → Nat → CV) (k : Int → Option ρ) : Option ρ :=
  (bif (decide ((Int.ofNat x3) > 8)) then (k 12) else (ob (F33 fuel x1 x2) fun x5 => (bif (x5 != 0) then (k x5) else (ob (F34 fuel x1 x2) fun x6 => (bif (decide (x6 ≤ 0)) then (k 17) else (L13v3 fuel x3 x4 (Int.ofNat x3) x1 x2 fuel 0
    (fun x55 => (k x55))
    (k 0)))))))
def F13 (fuel : Nat) (x1 : Nat) (x2 : Nat → Nat → CV) (x3 : Nat) (x4 : Nat → Nat → CV) : Option (Int) := D13 fuel x1 x2 x3 x4 some
theorem n13 {ρ σ : Type} (fuel : Nat) (x1 : Nat) (x2 : Nat → Nat → CV) (x3 : Nat) (x4 : Nat → Nat → CV) (k : (Int) → Option ρ) (g : ρ → Option σ) : ob (D13 fuel x1 x2 x3 x4 k) g = D13 fuel x1 x2 x3 x4 fun t => ob (k t) g := by
  simp only [D13, ob_bif, ob_ob, ob_none, nl13v3]
theorem f13 {ρ : Type} (fuel : Nat) (x1 : Nat) (x2 : Nat → Nat → CV) (x3 : Nat) (x4 : Nat → Nat → CV) (k : (Int) → Option ρ) : D13 fuel x1 x2 x3 x4 k = ob (F13 fuel x1 x2 x3 x4) k := by
  unfold F13
  rw [n13]
  simp only [ob_some]
def s13v7 (x1 : Nat) (x2 : Nat → Nat → CV) (x3 : Nat) (x4 : Nat → Nat → CV) : St := ⟨(.agg [(.c (.ro false (.pr (.int .i64) (.pr (.int .i64) .nil)) x1 x2)), (.c (.ro false (.pr (.sl (.pr (.int .i64) (.pr (.int .i64) .nil))) .nil) x3 x4))] :: .x (.ptr 0 0) :: .u :: .u :: .undef :: .undef :: .undef :: .undef :: .undef :: (us 14 [.x (.ptr 0 1), .x (.c (.ro false (.pr (.sl (.pr (.int .i64) (.pr (.int .i64) .nil))) .nil) x3 x4)), .x (.c (.i .i64 (Int.ofNat x3))), .x (.c (.i .i64 0)), .undef, .undef, .undef, .undef, .undef, .undef, .undef, .undef, .undef, .undef, .undef, .undef, .undef, .undef, .undef, .undef, .undef, .undef, .undef, .undef, .undef, .undef, .undef, .undef, .undef, .undef, .undef, .undef, .undef, .undef, .undef, .undef, .undef, .undef])), [.box [(.c (.ro false (.pr (.int .i64) (.pr (.int .i64) .nil)) x1 x2)), (.c (.ro false (.pr (.sl (.pr (.int .i64) (.pr (.int .i64) .nil))) .nil) x3 x4))]]⟩
theorem walk13 (fuel : Nat) (x1 : Nat) (x2 : Nat → Nat → CV) (x3 : Nat) (x4 : Nat → Nat → CV) :
    evalF (C26 fuel) fuel A13 [.agg [(.ro false (.pr (.int .i64) (.pr (.int .i64) .nil)) x1 x2), (.ro false (.pr (.sl (.pr (.int .i64) (.pr (.int .i64) .nil))) .nil) x3 x4)]] =
    (bif (decide ((Int.ofNat x3) > 8)) then (some [.v (.i .i64 12)]) else (ob (F33 fuel x1 x2) fun x5 => (bif (x5 != 0) then (some [.v (.i .i64 x5)]) else (ob (F34 fuel x1 x2) fun x6 => (bif (decide (x6 ≤ 0)) then (some [.v (.i .i64 17)]) else (loopN (B13v3 (C26 fuel) fuel) N13v3 fuel (s13v7 x1 x2 x3 x4) (kBlk 0 (kSeq (C26 fuel) fuel (2 :: 4 :: 5 :: 6 :: 8 :: (rl 23 38 [])) A13v9 (finish A13))))))))) := by kernel_rfl
theorem t13v4 (fuel : Nat) {ρ : Type} (k : Ex → St → Option ρ) (x1 : Nat) (x2 : Nat → Nat → CV) (x3 : Nat) (x4 : Nat → Nat → CV) :
    loopN (B13v3 (C26 fuel) fuel) N13v3 fuel (s13v7 x1 x2 x3 x4) k =
    L13v3 fuel x3 x4 (Int.ofNat x3) x1 x2 fuel 0 (fun x54 => k .ret (s13v4 x54 x1 x2 x3 x4)) (k (.exit 0) (s13v5 x1 x2 x3 x4)) :=
  (loopN_at (st' := (s13v3 x3 x4 (Int.ofNat x3) 0 x1 x2)) (by kernel_rfl)).trans (q13v3 fuel x3 x4 (Int.ofNat x3) x1 x2 k fuel 0)
theorem g13v5 (fuel : Nat) (x55 : Int) (x1 : Nat) (x2 : Nat → Nat → CV) (x3 : Nat) (x4 : Nat → Nat → CV) :
    (kBlk 0 (kSeq (C26 fuel) fuel (2 :: 4 :: 5 :: 6 :: 8 :: (rl 23 38 [])) A13v9 (finish A13))) .ret (s13v4 x55 x1 x2 x3 x4) =
    (some [.v (.i .i64 x55)]) := by kernel_rfl
theorem g13v6 (fuel : Nat) (x1 : Nat) (x2 : Nat → Nat → CV) (x3 : Nat) (x4 : Nat → Nat → CV) :
    (kBlk 0 (kSeq (C26 fuel) fuel (2 :: 4 :: 5 :: 6 :: 8 :: (rl 23 38 [])) A13v9 (finish A13))) (.exit 0) (s13v5 x1 x2 x3 x4) =
    (some [.v (.i .i64 0)]) := by kernel_rfl
theorem e13 (fuel : Nat) (x1 : Nat) (x2 : Nat → Nat → CV) (x3 : Nat) (x4 : Nat → Nat → CV) : evalF (C26 fuel) fuel A13 [.agg [(.ro false (.pr (.int .i64) (.pr (.int .i64) .nil)) x1 x2), (.ro false (.pr (.sl (.pr (.int .i64) (.pr (.int .i64) .nil))) .nil) x3 x4)]] = ob (F13 fuel x1 x2 x3 x4) fun t => some [.v (.i .i64 t)] := by
  rw [walk13, ← f13]
  simp only [D13, t13v4, g13v5, g13v6]
def O13 (fuel : Nat) : Ora where
  o := fun args {ρ} K =>
    wc args fun a1 l2 =>
    wagg a1 fun l3 =>
    wc l3 fun c4 l5 =>
    wL (.pr (.int .i64) (.pr (.int .i64) .nil)) c4 fun y6 y7 =>
    wc l5 fun c9 l10 =>
    wL (.pr (.sl (.pr (.int .i64) (.pr (.int .i64) .nil))) .nil) c9 fun y11 y12 =>
    wn l10 <|
    wn l2 <|
    (ob (F13 fuel y6 y7 y11 y12) fun t => K [.v (.i .i64 t)])
  nat := fun args {ρ} K => by
    simp only [bind_wc, bind_wn, bind_wv, bind_wagg, bind_wI, bind_wB, bind_wS, bind_wL, bind_wP, bind_wFn, bind_ob, Option.bind_some]
theorem d13 {P : Program} (fuel : Nat) (hmix : P.follows .mixedOrders = true) (hC : Sound P (C26 fuel)) (hF : FFits P 13 A13) (args res : List A) (h : (O13 fuel).o args some = some res) : Den P 13 args res := by
  obtain ⟨a1, l2, rfl, z0⟩ := inv_wc h
  obtain ⟨l3, rfl, z1⟩ := inv_wagg z0
  obtain ⟨c4, l5, rfl, z2⟩ := inv_wc z1
  obtain ⟨y6, y7, h8, z3⟩ := inv_wL z2
  obtain ⟨c9, l10, rfl, z4⟩ := inv_wc z3
  obtain ⟨y11, y12, h13, z5⟩ := inv_wL z4
  obtain ⟨hn, z6⟩ := inv_wn z5
  cases hn
  obtain ⟨hn, z7⟩ := inv_wn z6
  cases hn
  exact Den.weaken (.cons (WkA.agg (.cons h8 (.cons h13 .nil))) .nil) (evalF_sound hmix hC hF ((e13 fuel y6 y7 y11 y12).trans z7))
def C27 (fuel : Nat) : Oracle := (C26 fuel).add 13 (fun _ => true) (O13 fuel)
def A69 : AF := ⟨21, [.tmp 2],
  (.seq (.region 0 [o1 1 (.box 0 34 (tm 0)), o1 2 (.assign (.const (.bool false)))] 1 none) []
  (.seq (.region 1 [o1 3 (.fieldAddr 34 (tm 1) 0 0), o1 4 (.load 3 none (tm 3)), o1 5 (.binOp .geq 3 (tm 4) (ic (-32768)) 3), mv 6 5, og 7 (.fieldAddr 34 (tm 1) 0 0) 6 true, og 8 (.load 3 none (tm 7)) 6 true, og 9 (.binOp .leq 3 (tm 8) (ic 32768) 3) 6 true, o1 10 (.pick (tm 6) (tm 9) (.const (.bool false))), mv 11 10, og 12 (.fieldAddr 34 (tm 1) 1 1) 11 true, og 13 (.load 3 none (tm 12)) 11 true, og 14 (.binOp .geq 3 (tm 13) (ic (-32768)) 3) 11 true, o1 15 (.pick (tm 11) (tm 14) (.const (.bool false))), mv 16 15, og 17 (.fieldAddr 34 (tm 1) 1 1) 16 true, og 18 (.load 3 none (tm 17)) 16 true, og 19 (.binOp .leq 3 (tm 18) (ic 32768) 3) 16 true, o1 20 (.pick (tm 16) (tm 19) (.const (.bool false))), o1 2 (.assign (tm 20))] 0 none) []
  (.ret (0 :: 1 :: (rl 3 18 [])))))⟩
def D69 {ρ : Type} (fuel : Nat) (x1 : Int) (x2 : Int) (k : Bool → Option ρ) : Option ρ :=
  (bif ((decide (x1 ≥ (-32768))) == true) then (bif ((decide (x1 ≤ 32768)) == true) then (bif ((decide (x2 ≥ (-32768))) == true) then (k (decide (x2 ≤ 32768))) else (k false)) else (k false)) else (k false))
def F69 (fuel : Nat) (x1 : Int) (x2 : Int) : Option (Bool) := D69 fuel x1 x2 some
theorem n69 {ρ σ : Type} (fuel : Nat) (x1 : Int) (x2 : Int) (k : (Bool) → Option ρ) (g : ρ → Option σ) : ob (D69 fuel x1 x2 k) g = D69 fuel x1 x2 fun t => ob (k t) g := by
  simp only [D69, ob_bif, ob_ob, ob_none]
theorem f69 {ρ : Type} (fuel : Nat) (x1 : Int) (x2 : Int) (k : (Bool) → Option ρ) : D69 fuel x1 x2 k = ob (F69 fuel x1 x2) k := by
  unfold F69
  rw [n69]
  simp only [ob_some]
theorem walk69 (fuel : Nat) (x1 : Int) (x2 : Int) :
    evalF (C27 fuel) fuel A69 [.agg [(.i .i64 x1), (.i .i64 x2)]] =
    (bif ((decide (x1 ≥ (-32768))) == true) then (bif ((decide (x1 ≤ 32768)) == true) then (bif ((decide (x2 ≥ (-32768))) == true) then (some [.v (.b (decide (x2 ≤ 32768)))]) else (some [.v (.b false)])) else (some [.v (.b false)])) else (some [.v (.b false)])) := by kernel_rfl
theorem e69 (fuel : Nat) (x1 : Int) (x2 : Int) : evalF (C27 fuel) fuel A69 [.agg [(.i .i64 x1), (.i .i64 x2)]] = ob (F69 fuel x1 x2) fun t => some [.v (.b t)] := by
  rw [walk69, ← f69]
  simp only [D69]
def O69 (fuel : Nat) : Ora where
  o := fun args {ρ} K =>
    wc args fun a1 l2 =>
    wagg a1 fun l3 =>
    wc l3 fun c4 l5 =>
    wI .i64 c4 fun y6 =>
    wc l5 fun c8 l9 =>
    wI .i64 c8 fun y10 =>
    wn l9 <|
    wn l2 <|
    (ob (F69 fuel y6 y10) fun t => K [.v (.b t)])
  nat := fun args {ρ} K => by
    simp only [bind_wc, bind_wn, bind_wv, bind_wagg, bind_wI, bind_wB, bind_wS, bind_wL, bind_wP, bind_wFn, bind_ob, Option.bind_some]
theorem d69 {P : Program} (fuel : Nat) (hmix : P.follows .mixedOrders = true) (hC : Sound P (C27 fuel)) (hF : FFits P 69 A69) (args res : List A) (h : (O69 fuel).o args some = some res) : Den P 69 args res := by
  obtain ⟨a1, l2, rfl, z0⟩ := inv_wc h
  obtain ⟨l3, rfl, z1⟩ := inv_wagg z0
  obtain ⟨c4, l5, rfl, z2⟩ := inv_wc z1
  obtain ⟨y6, h7, z3⟩ := inv_wI z2
  obtain ⟨c8, l9, rfl, z4⟩ := inv_wc z3
  obtain ⟨y10, h11, z5⟩ := inv_wI z4
  obtain ⟨hn, z6⟩ := inv_wn z5
  cases hn
  obtain ⟨hn, z7⟩ := inv_wn z6
  cases hn
  exact Den.weaken (.cons (WkA.agg (.cons (Wk.i h7) (.cons (Wk.i h11) .nil))) .nil) (evalF_sound hmix hC hF ((e69 fuel y6 y10).trans z7))
def C28 (fuel : Nat) : Oracle := (C27 fuel).add 69 (fun _ => true) (O69 fuel)
end Go.Eng.R13
