/-
  The functions of the program, run on symbols; printed by decomp.py.
-/
import Derived.Test.YtbjfmobjdipehaaDoorEngS
set_option linter.all false
set_option maxRecDepth 1000000
set_option maxHeartbeats 4000000
namespace Go.Eng.R13
open Go Go.RowKit Go.Eng
abbrev kR0 : Kd := (.pr .str (.pr (.int .i64) (.pr (.int .i64) (.pr .str (.pr .str (.pr (.int .i64) (.pr (.sl (.pr (.int .i64) (.pr (.int .i64) .nil))) (.pr (.sl (.pr (.sl (.pr (.int .i64) (.pr (.int .i64) .nil))) .nil)) (.pr .str (.pr (.int .i64) (.pr (.int .i64) (.pr (.int .i64) (.pr (.int .i64) (.pr (.int .i64) (.pr (.int .i64) (.pr (.int .i64) (.pr (.int .i64) (.pr (.int .i64) .nil))))))))))))))))))
def C0 (fuel : Nat) : Oracle := ⟨fun _ _ {_} _ => none, fun _ _ {_} _ => rfl, fun f r n g rest => bif ((Nat.beq f 65 && r.beq kP)) && rest.isEmpty then some (revF n g) else none, fun f r args => match args with | [.v (.ro _ r1 n g)] => bif ((Nat.beq f 64 && r.beq kP)) && r.beq r1 then some (n, g) else none | _ => none⟩
def CE (fuel : Nat) : Oracle := ⟨fun _ _ {_} _ => none, fun _ _ {_} _ => rfl, fun _ _ _ _ _ => none, fun _ _ _ => none⟩
theorem soundE {P : Program} (fuel : Nat) : Sound P (CE fuel) := ⟨fun _ _ _ h => (by cases h), fun _ _ _ _ _ _ h => (by cases h), fun _ _ _ _ _ h => (by cases h)⟩
def A65v1 : AC := (.seq (.block 1
  (.region 3 [mv 14 0, mv 15 2, mv 16 0, mv 17 3, mv 18 0, mv 19 3, o1 20 (.indexAddr 22 40 2 (tm 18) (tm 19)), o1 21 (ln 40 2 20), mv 22 0, mv 23 2, o1 24 (.indexAddr 22 40 2 (tm 22) (tm 23)), o1 25 (ln 40 2 24), o1 26 (.indexAddr 22 40 2 (tm 14) (tm 15)), o0 (.store 40 2 (tm 26) (tm 21)), o1 27 (.indexAddr 22 40 2 (tm 16) (tm 17)), o0 (.store 40 2 (tm 27) (tm 25))] 0 (some [[], [], [], [], [], [], [4, 5], [4, 5, 6], [], [], [8, 9], [8, 9, 10], (0 :: 1 :: (rl 4 8 [])), (0 :: 1 :: (rl 4 9 [])), (rl 0 14 []), (rl 0 15 [])]))) []
  (.region 2 [mv 10 2, o1 11 (bk .add 3 10 1), mv 12 3, o1 13 (bk .sub 3 12 1), o1 2 (sg 11), o1 3 (sg 13)] 0 none))
def A65v2 : AC := (.seq (.seq (.region 1 [mv 7 2, mv 8 3, o1 9 (bt .lss 3 7 8)] 0 none) []
  (.cond (tm 9)
  .skip
  (.exit 0 (rl 0 28 [])))) [7, 8, 9]
  A65v1)
def A65 : AF := ⟨28, [],
  (.seq (.region 0 [mv 4 0, o1 5 (.len 22 false (tm 4)), o1 6 (bk .sub 3 5 1), o1 2 (sk 0), o1 3 (sg 6)] 0 none) []
  (.block 0
  (.loop [] (1 :: (rl 4 24 []))
    A65v2)))⟩
def B52v1 (C : Oracle) (fuel : Nat) {ρ : Type} : St → (Ex → St → Option ρ) → Option ρ := fun st k => evalC C fuel A65v2 st k
def N52v1 : St → Option St := fun s => s.norm (1 :: (rl 4 24 [])) 1
def s52v0 (x6 : Nat) (x7 x8 : Int) (x9 : FF) : St := ⟨(.x (.own 0 0 x6) :: .u :: vxi x7 :: vxi x8 :: (us 24 [])), [.arr (.pr (.int .i64) (.pr (.int .i64) .bool)) x6 x9]⟩
def s52v1 (x6 : Nat) (x10 : FF) : St := ⟨(us 28 []), [.arr (.pr (.int .i64) (.pr (.int .i64) .bool)) x6 x10]⟩
def L52v1 {ρ : Type} (fuel : Nat) (x6 : Nat) : Nat → Int → Int → FF → (FF → Option ρ) → Option ρ
  | 0, _, _, _, _ => none
  | m + 1, x7, x8, x9, k0 =>
    (bif (decide (x7 < x8)) then (bif (inb x8 x6) then (bif (inb x7 x6) then (bif (inb x7 x6) then (bif (inb x8 x6) then (L52v1 fuel x6 m (w64 (x7 + 1)) (w64 (x8 - 1)) (setF (setF x9 (0 + (Int.toNat x7)) 0 2 (listF [(.i .i64 (CV.int (x9 (0 + (Int.toNat x8)) 0))), (.i .i64 (CV.int (x9 (0 + (Int.toNat x8)) 1)))])) (0 + (Int.toNat x8)) 0 2 (listF [(.i .i64 (CV.int (x9 (0 + (Int.toNat x7)) 0))), (.i .i64 (CV.int (x9 (0 + (Int.toNat x7)) 1)))])) k0) else none) else none) else none) else none) else (k0 x9))
theorem r52v1 (fuel : Nat) (m : Nat) {ρ : Type} (k : Ex → St → Option ρ) (x6 : Nat) (x7 x8 : Int) (x9 : FF) :
    loopH (B52v1 (CE fuel) fuel) N52v1 (m + 1) (s52v0 x6 x7 x8 x9) k =
    (bif (decide (x7 < x8)) then (bif (inb x8 x6) then (bif (inb x7 x6) then (bif (inb x7 x6) then (bif (inb x8 x6) then (loopH (B52v1 (CE fuel) fuel) N52v1 m (s52v0 x6 (w64 (x7 + 1)) (w64 (x8 - 1)) (setF (setF x9 (0 + (Int.toNat x7)) 0 2 (listF [(vi (CV.int (x9 (0 + (Int.toNat x8)) 0))), (vi (CV.int (x9 (0 + (Int.toNat x8)) 1)))])) (0 + (Int.toNat x8)) 0 2 (listF [(vi (CV.int (x9 (0 + (Int.toNat x7)) 0))), (vi (CV.int (x9 (0 + (Int.toNat x7)) 1)))]))) k) else none) else none) else none) else none) else (k (.exit 0) (s52v1 x6 x9))) := by kernel_rfl
theorem q52v1 (fuel : Nat) (x6 : Nat) {ρ : Type} (k : Ex → St → Option ρ) : ∀ (m : Nat) (x7 x8 : Int) (x9 : FF),
    loopH (B52v1 (CE fuel) fuel) N52v1 m (s52v0 x6 x7 x8 x9) k = L52v1 fuel x6 m x7 x8 x9 (fun x10 => k (.exit 0) (s52v1 x6 x10))
  | 0, _, _, _ => rfl
  | m + 1, x7, x8, x9 => by
    rw [r52v1]
    simp only [L52v1, q52v1 fuel x6 k m]
def D52 {ρ : Type} (fuel : Nat) (x1 : Nat) (x2 : FF) (k : (Nat × FF) → Option ρ) : Option ρ :=
  (L52v1 fuel x1 fuel 0 (w64 ((Int.ofNat x1) - 1)) x2
    (fun x11 => (k (x1, x11))))
def F52 (fuel : Nat) (x1 : Nat) (x2 : FF) : Option (Nat × FF) := D52 fuel x1 x2 some
def s52v2 (x1 : Nat) (x2 : FF) : St := ⟨[.x (.own 0 0 x1), .undef, vxi 0, vxi (w64 ((Int.ofNat x1) - 1)), .x (.own 0 0 x1), vxi (Int.ofNat x1), vxi (w64 ((Int.ofNat x1) - 1)), .undef, .undef, .undef, .undef, .undef, .undef, .undef, .undef, .undef, .undef, .undef, .undef, .undef, .undef, .undef, .undef, .undef, .undef, .undef, .undef, .undef], [.arr (.pr (.int .i64) (.pr (.int .i64) .bool)) x1 x2]⟩
theorem walk52 (fuel : Nat) (x1 : Nat) (x2 : FF) :
    evalT (CE fuel) fuel A65 kP x1 x2 [] =
    (loopN (B52v1 (CE fuel) fuel) N52v1 fuel (s52v2 x1 x2) (kBlk 0 (finishT (Kd.mark kP)))) := by kernel_rfl
theorem t52v1 (fuel : Nat) {ρ : Type} (k : Ex → St → Option ρ) (x1 : Nat) (x2 : FF) :
    loopN (B52v1 (CE fuel) fuel) N52v1 fuel (s52v2 x1 x2) k =
    L52v1 fuel x1 fuel 0 (w64 ((Int.ofNat x1) - 1)) x2 (fun x10 => k (.exit 0) (s52v1 x1 x10)) :=
  (loopN_at (st' := (s52v0 x1 0 (w64 ((Int.ofNat x1) - 1)) x2)) (by kernel_rfl)).trans (q52v1 fuel x1 k fuel 0 (w64 ((Int.ofNat x1) - 1)) x2)
theorem g52v2 (x1 : Nat) (x11 : FF) :
    (kBlk 0 (finishT (Kd.mark kP))) (.exit 0) (s52v1 x1 x11) =
    (some (x1, x11)) := by kernel_rfl
theorem e52 (fuel : Nat) (x1 : Nat) (x2 : FF) : evalT (CE fuel) fuel A65 kP x1 x2 [] = F52 fuel x1 x2 := by
  rw [walk52]
  simp only [F52, D52, t52v1, g52v2]
def A9v1 : AC := (.region 3 [mv 14 3, o1 15 (bk .add 3 14 1), o1 3 (sg 15)] 0 none)
def A9v2 : AC := (.seq (.block 1
  (.seq (.region 4 [o1 16 (fa 31 1 6 6), o1 17 (fa 25 16 1 1), o1 18 (lo 23 17), mv 19 3, o1 20 (.indexAddr 23 22 1 (tm 18) (tm 19)), o1 21 (lo 22 20), o1 22 (.len 22 false (tm 21)), o1 23 (bk .gtr 3 22 40)] 0 none) []
    (.cond (tm 23)
    (.seq (.region 5 [o1 2 (sb false)] 0 none) []
      (.ret (0 :: 1 :: (rl 3 33 []))))
    .skip))) (2 :: (rl 16 8 []))
  A9v1)
def A9v3 : AC := (.seq (.seq (.region 2 [mv 4 3, o1 5 (fa 31 1 6 6), o1 6 (fa 25 5 1 1), o1 7 (lo 23 6), o1 8 (.len 23 false (tm 7)), o1 9 (bt .lss 3 4 8), mv 10 9, og 11 (.move (tm 3)) 10 true, og 12 (bk .lss 3 11 20) 10 true, o1 13 (po 10 12)] 0 none) []
  (.cond (tm 13)
  .skip
  (.exit 0 (0 :: (rl 2 34 []))))) (rl 4 10 [])
  A9v2)
def A9v4 : AC := (.seq (.region 6 [o1 24 (fa 31 1 6 6), o1 25 (fa 25 24 0 0), o1 26 (lo 22 25), o1 27 (.len 22 false (tm 26)), o1 28 (bk .leq 3 27 40), mv 29 28, og 30 (fa 31 1 6 6) 29 true, og 31 (fa 25 30 1 1) 29 true, og 32 (lo 23 31) 29 true, og 33 (.len 23 false (tm 32)) 29 true, og 34 (bk .leq 3 33 12) 29 true, o1 35 (po 29 34), o1 2 (sg 35)] 0 none) []
  (.ret (0 :: 1 :: (rl 3 33 []))))
def A9 : AF := ⟨36, [.tmp 2],
  (.seq (.region 0 [o1 1 (bx 0 31 0), o1 2 (sb false)] 1 none) []
  (.seq (.seq (.region 1 [o1 3 (sk 0)] 0 none) []
  (.block 0
  (.loop [] (0 :: 2 :: (rl 4 32 []))
    A9v3))) (rl 2 22 [])
  A9v4))⟩
def B100v1 (C : Oracle) (fuel : Nat) {ρ : Type} : St → (Ex → St → Option ρ) → Option ρ := fun st k => evalC C fuel A9v3 st k
def N100v1 : St → Option St := fun s => s.norm (0 :: 2 :: (rl 4 32 [])) 1
def s100v0 (x3 : Int) (x4 : Nat → CV) : St := ⟨(.u :: .x (.ptr 0 0) :: .u :: vxi x3 :: (us 32 [])), [.box (pjc kR0 x4)]⟩
def s100v1 (x4 : Nat → CV) : St := ⟨(.u :: .u :: vxb false :: (us 33 [])), [.box (pjc kR0 x4)]⟩
def s100v2 (x4 : Nat → CV) : St := ⟨(.u :: .x (.ptr 0 0) :: (us 34 [])), [.box (pjc kR0 x4)]⟩
def L100v1 {ρ : Type} (fuel : Nat) (x4 : Nat → CV) : Nat → Int → (Option ρ) → (Option ρ) → Option ρ
  | 0, _, _, _ => none
  | m + 1, x3, k0, k1 =>
    (bif ((decide (x3 < (Int.ofNat (CV.len (x4 7))))) == true) then (bif (decide (x3 < 20)) then (bif (inb x3 (CV.len (x4 7))) then (bif (decide ((Int.ofNat (CV.len ((CV.el (x4 7)) (Int.toNat x3) 0))) > 40)) then k0 else (L100v1 fuel x4 m (w64 (x3 + 1)) k0 k1)) else none) else k1) else k1)
theorem nl100v1 {ρ σ : Type} (fuel : Nat) (x4 : Nat → CV) (g : ρ → Option σ) : ∀ (m : Nat) (x3 : Int) (k0 : Option ρ) (k1 : Option ρ), ob (L100v1 fuel x4 m x3 k0 k1) g = L100v1 fuel x4 m x3 (ob k0 g) (ob k1 g)
  | 0, _, _, _ => rfl
  | m + 1, x3, k0, k1 => by
    simp only [L100v1, ob_bif, ob_ob, ob_none, nl100v1 fuel x4 g m]
theorem r100v1 (fuel : Nat) (m : Nat) {ρ : Type} (k : Ex → St → Option ρ) (x4 : Nat → CV) (x3 : Int) :
    loopH (B100v1 (C0 fuel) fuel) N100v1 (m + 1) (s100v0 x3 x4) k =
    (bif ((decide (x3 < (Int.ofNat (CV.len (x4 7))))) == true) then (bif (decide (x3 < 20)) then (bif (inb x3 (CV.len (x4 7))) then (bif (decide ((Int.ofNat (CV.len ((CV.el (x4 7)) (Int.toNat x3) 0))) > 40)) then (k .ret (s100v1 x4)) else (loopH (B100v1 (C0 fuel) fuel) N100v1 m (s100v0 (w64 (x3 + 1)) x4) k)) else none) else (k (.exit 0) (s100v2 x4))) else (k (.exit 0) (s100v2 x4))) := by kernel_rfl
theorem q100v1 (fuel : Nat) (x4 : Nat → CV) {ρ : Type} (k : Ex → St → Option ρ) : ∀ (m : Nat) (x3 : Int),
    loopH (B100v1 (C0 fuel) fuel) N100v1 m (s100v0 x3 x4) k = L100v1 fuel x4 m x3 (k .ret (s100v1 x4)) (k (.exit 0) (s100v2 x4))
  | 0, _ => rfl
  | m + 1, x3 => by
    rw [r100v1]
    simp only [L100v1, q100v1 fuel x4 k m]
def D100 {ρ : Type} (fuel : Nat) (x1 : Nat → CV) (k : Bool → Option ρ) : Option ρ :=
  (L100v1 fuel x1 fuel 0
    (k false)
    (bif ((decide ((Int.ofNat (CV.len (x1 6))) ≤ 40)) == true) then (k (decide ((Int.ofNat (CV.len (x1 7))) ≤ 12))) else (k false)))
def F100 (fuel : Nat) (x1 : Nat → CV) : Option (Bool) := D100 fuel x1 some
theorem f100 {ρ : Type} (fuel : Nat) (x1 : Nat → CV) (k : (Bool) → Option ρ) : D100 fuel x1 k = ob (F100 fuel x1) k := by
  simp only [F100, D100, ob_bif, ob_ob, ob_none, ob_some, nl100v1]
def s100v3 (x1 : Nat → CV) : St := ⟨[.agg (pjc kR0 x1), .x (.ptr 0 0), vxb false, vxi 0, .undef, .undef, .undef, .undef, .undef, .undef, .undef, .undef, .undef, .undef, .undef, .undef, .undef, .undef, .undef, .undef, .undef, .undef, .undef, .undef, .undef, .undef, .undef, .undef, .undef, .undef, .undef, .undef, .undef, .undef, .undef, .undef], [.box (pjc kR0 x1)]⟩
theorem walk100 (fuel : Nat) (x1 : Nat → CV) :
    evalF (C0 fuel) fuel A9 [.agg (pj kR0 x1)] =
    (loopN (B100v1 (C0 fuel) fuel) N100v1 fuel (s100v3 x1) (kBlk 0 (kSeq (C0 fuel) fuel (rl 2 22 []) A9v4 (finish A9)))) := by kernel_rfl
theorem t100v1 (fuel : Nat) {ρ : Type} (k : Ex → St → Option ρ) (x1 : Nat → CV) :
    loopN (B100v1 (C0 fuel) fuel) N100v1 fuel (s100v3 x1) k =
    L100v1 fuel x1 fuel 0 (k .ret (s100v1 x1)) (k (.exit 0) (s100v2 x1)) :=
  (loopN_at (st' := (s100v0 0 x1)) (by kernel_rfl)).trans (q100v1 fuel x1 k fuel 0)
theorem g100v2 (fuel : Nat) (x1 : Nat → CV) :
    (kBlk 0 (kSeq (C0 fuel) fuel (rl 2 22 []) A9v4 (finish A9))) .ret (s100v1 x1) =
    (some [.v (.b false)]) := by kernel_rfl
theorem g100v3 (fuel : Nat) (x1 : Nat → CV) :
    (kBlk 0 (kSeq (C0 fuel) fuel (rl 2 22 []) A9v4 (finish A9))) (.exit 0) (s100v2 x1) =
    (bif ((decide ((Int.ofNat (CV.len (x1 6))) ≤ 40)) == true) then (some [.v (.b (decide ((Int.ofNat (CV.len (x1 7))) ≤ 12)))]) else (some [.v (.b false)])) := by kernel_rfl
theorem e100 (fuel : Nat) (x1 : Nat → CV) : evalF (C0 fuel) fuel A9 [.agg (pj kR0 x1)] = ob (F100 fuel x1) fun t => some [.v (.b t)] := by
  rw [walk100, ← f100]
  simp only [D100, t100v1, g100v2, g100v3]
def O100 (fuel : Nat) : Ora where
  o := fun args {ρ} K =>
    wc args fun a1 l2 =>
    wrow kR0 a1 fun y3 =>
    wn l2 <|
    (ob (F100 fuel y3) fun t => K [.v (.b t)])
  nat := fun args {ρ} K => by
    simp only [bind_wc, bind_wn, bind_wrow, bind_ob, Option.bind_some]
theorem d100 {P : Program} (fuel : Nat) (hmix : P.follows .mixedOrders = true) (hC : Sound P (C0 fuel)) (hF : FFits P 9 A9) (args res : List A) (h : (O100 fuel).o args some = some res) : Den P 9 args res := by
  obtain ⟨a1, l2, rfl, z0⟩ := inv_wc h
  obtain ⟨y3, h4, z1⟩ := inv_wrow z0
  obtain ⟨hn, z2⟩ := inv_wn z1
  cases hn
  exact Den.weaken (.cons h4 .nil) (evalF_sound hmix hC hF ((e100 fuel y3).trans z2))
def C1 (fuel : Nat) : Oracle := (C0 fuel).add 9 (fun _ => true) (O100 fuel)
def A20 : AF := ⟨10, [.cell 0 31 (some 18)],
  (.seq (.region 0 [o1 0 (.alloc 0 31 [vcs ByteArray.empty, vci 0, vci 0, vcs ByteArray.empty, vcs ByteArray.empty, vci 0, vcn, vcn, vcs ByteArray.empty, vci 0, vci 0, vci 0, vci 0, vci 0, vci 0, vci 0, vci 0, vci 0])] 1 none) []
  (.seq (.region 1 [o1 1 (.build 40 [vci 0, vci 0] [(0, 1), (1, 1)] 0 []), o1 2 (.build 40 [vci 0, vci 0] [(0, 1), (1, 1)] 0 [(0, (ic 1000))]), o1 3 (.build 40 [vci 0, vci 0] [(0, 1), (1, 1)] 0 [(0, (ic 1000)), (1, (ic 500))]), o1 4 (.build 40 [vci 0, vci 0] [(0, 1), (1, 1)] 0 [(1, (ic 500))]), o1 5 (.buildSlice 0 22 40 kP 4 [vci 0, vci 0] [(0, (tm 1)), (1, (tm 2)), (2, (tm 3)), (3, (tm 4))]), o1 6 (.build 25 [vcn, vcn] [(0, 1), (1, 1)] 0 [(0, (tm 5))]), o1 7 (.build 27 [vci 0, vci 0, vci 0] [(0, 1), (1, 1), (2, 1)] 0 [(2, (ic 2000))]), o1 8 (.build 29 [vci 0, vci 0, vci 0, vci 0] [(0, 3), (3, 1)] 0 [(0, (tm 7))]), o1 9 (.build 31 [vcs ByteArray.empty, vci 0, vci 0, vcs ByteArray.empty, vcs ByteArray.empty, vci 0, vcn, vcn, vcs ByteArray.empty, vci 0, vci 0, vci 0, vci 0, vci 0, vci 0, vci 0, vci 0, vci 0] [(0, 1), (1, 1), (2, 1), (3, 1), (4, 1), (5, 1), (6, 2), (8, 1), (9, 1), (10, 1), (11, 3), (14, 4)] 0 [(0, (.const (.string (ByteArray.mk #[80, 49])))), (2, (ic 1)), (6, (tm 6)), (11, (tm 8))]), o0 (.store 31 18 (tm 0) (tm 9))] 1 none) []
  (.ret (rl 1 9 []))))⟩
def D101 {ρ : Type} (fuel : Nat) (k : (ByteArray × Int × Int × ByteArray × ByteArray × Int × Nat × FF × Nat × FF × ByteArray × Int × Int × Int × Int × Int × Int × Int × Int × Int) → Option ρ) : Option ρ :=
  (k ((ByteArray.mk #[80, 49]), 0, 1, ByteArray.empty, ByteArray.empty, 0, 4, (rowsF 2 [(.i .i64 0), (.i .i64 0), (.i .i64 1000), (.i .i64 0), (.i .i64 1000), (.i .i64 500), (.i .i64 0), (.i .i64 500)]), 0, (fun _ _ => .any), ByteArray.empty, 0, 0, 0, 0, 0, 0, 0, 2000, 0))
def FT101 (fuel : Nat) : Option (ByteArray × Int × Int × ByteArray × ByteArray × Int × Nat × FF × Nat × FF × ByteArray × Int × Int × Int × Int × Int × Int × Int × Int × Int) := D101 fuel some
theorem f101 {ρ : Type} (fuel : Nat) (k : (ByteArray × Int × Int × ByteArray × ByteArray × Int × Nat × FF × Nat × FF × ByteArray × Int × Int × Int × Int × Int × Int × Int × Int × Int) → Option ρ) : D101 fuel k = ob (FT101 fuel) k := by
  simp only [FT101, D101, ob_bif, ob_ob, ob_none, ob_some]
theorem walk101 (fuel : Nat) :
    evalF (C1 fuel) fuel A20 [] =
    (some [.agg [(.s (ByteArray.mk #[80, 49])), (vi 0), (vi 1), (.s ByteArray.empty), (.s ByteArray.empty), (vi 0), (.ro false kP 4 (rowsF 2 [(vi 0), (vi 0), (vi 1000), (vi 0), (vi 1000), (vi 500), (vi 0), (vi 500)])), (.ro true .nil 0 nilF), (.s ByteArray.empty), (vi 0), (vi 0), (vi 0), (vi 0), (vi 0), (vi 0), (vi 0), (vi 2000), (vi 0)]]) := by kernel_rfl
theorem e101 (fuel : Nat) : evalF (C1 fuel) fuel A20 [] = ob (FT101 fuel) fun t => some [.agg [(.s (ByteArray.mk #[80, 49])), (vi 0), (vi 1), (.s ByteArray.empty), (.s ByteArray.empty), (vi 0), (.ro false kP 4 t.2.2.2.2.2.2.2.1), (.ro true .nil 0 nilF), (.s ByteArray.empty), (vi 0), (vi 0), (vi 0), (vi 0), (vi 0), (vi 0), (vi 0), (vi 2000), (vi 0)]] := by
  rw [walk101, ← f101]
  simp only [D101]
def F101 (fuel : Nat) : Option (ByteArray × Int × Int × ByteArray × ByteArray × Int × Nat × FF × Nat × FF × ByteArray × Int × Int × Int × Int × Int × Int × Int × Int × Int) := ob (FT101 fuel) fun t => some ((ByteArray.mk #[80, 49]), 0, 1, ByteArray.empty, ByteArray.empty, 0, 4, t.2.2.2.2.2.2.2.1, 0, (fun _ _ => .any), ByteArray.empty, 0, 0, 0, 0, 0, 0, 0, 2000, 0)
def O101 (fuel : Nat) : Ora where
  o := fun args {ρ} K =>
    wn args <|
    (ob (F101 fuel) fun t => K [.agg [(.s t.1), (vi t.2.1), (vi t.2.2.1), (.s t.2.2.2.1), (.s t.2.2.2.2.1), (vi t.2.2.2.2.2.1), (.ro false kP t.2.2.2.2.2.2.1 t.2.2.2.2.2.2.2.1), (.ro false (.pr (.sl kP) .nil) t.2.2.2.2.2.2.2.2.1 t.2.2.2.2.2.2.2.2.2.1), (.s t.2.2.2.2.2.2.2.2.2.2.1), (vi t.2.2.2.2.2.2.2.2.2.2.2.1), (vi t.2.2.2.2.2.2.2.2.2.2.2.2.1), (vi t.2.2.2.2.2.2.2.2.2.2.2.2.2.1), (vi t.2.2.2.2.2.2.2.2.2.2.2.2.2.2.1), (vi t.2.2.2.2.2.2.2.2.2.2.2.2.2.2.2.1), (vi t.2.2.2.2.2.2.2.2.2.2.2.2.2.2.2.2.1), (vi t.2.2.2.2.2.2.2.2.2.2.2.2.2.2.2.2.2.1), (vi t.2.2.2.2.2.2.2.2.2.2.2.2.2.2.2.2.2.2.1), (vi t.2.2.2.2.2.2.2.2.2.2.2.2.2.2.2.2.2.2.2)]])
  nat := fun args {ρ} K => by
    simp only [bind_wn, bind_ob, Option.bind_some]
theorem d101 {P : Program} (fuel : Nat) (hmix : P.follows .mixedOrders = true) (hC : Sound P (C1 fuel)) (hF : FFits P 20 A20) (args res : List A) (h : (O101 fuel).o args some = some res) : Den P 20 args res := by
  obtain ⟨hn, z0⟩ := inv_wn h
  cases hn
  obtain ⟨u, hu, hr⟩ := ob_inv z0
  cases hr
  obtain ⟨t, ht, hv⟩ := ob_inv (show ob (FT101 fuel) _ = some u from hu)
  cases hv
  refine Den.results ?_ (Den.weaken .nil (evalF_sound hmix hC hF ((e101 fuel).trans (by rw [ht]; rfl))))
  exact (.cons (WkA.agg (.cons (Wk.refl _) (.cons (Wk.refl _) (.cons (Wk.refl _) (.cons (Wk.refl _) (.cons (Wk.refl _) (.cons (Wk.refl _) (.cons (Wk.refl _) (.cons (Wk.ro (by rfl)) (.cons (Wk.refl _) (.cons (Wk.refl _) (.cons (Wk.refl _) (.cons (Wk.refl _) (.cons (Wk.refl _) (.cons (Wk.refl _) (.cons (Wk.refl _) (.cons (Wk.refl _) (.cons (Wk.refl _) (.cons (Wk.refl _) .nil))))))))))))))))))) .nil)
def C2 (fuel : Nat) : Oracle := (C1 fuel).add 20 (fun _ => true) (O101 fuel)
def A45 : AF := ⟨21, [.tmp 2],
  (.seq (.region 0 [o1 1 (bx 0 27 0), o1 2 (sb false)] 1 none) []
  (.seq (.region 1 [o1 3 (fa 27 1 0 0), o1 4 (lo 3 3), o1 5 (fa 27 1 1 1), o1 6 (lo 3 5), o1 7 (fa 27 1 2 2), o1 8 (lo 3 7), o1 9 (.mm true [(tm 4), (tm 6), (tm 8)] [3, 3, 3]), o1 10 (bk .gtr 3 9 524288), mv 11 10, og 12 (fa 27 1 0 0) 11 false, og 13 (lo 3 12) 11 false, og 14 (fa 27 1 1 1) 11 false, og 15 (lo 3 14) 11 false, og 16 (fa 27 1 2 2) 11 false, og 17 (lo 3 16) 11 false, og 18 (.mm false [(tm 13), (tm 15), (tm 17)] [3, 3, 3]) 11 false, og 19 (bk .lss 3 18 (-524288)) 11 false, o1 20 (pa 11 19), o1 2 (sg 20)] 0 none) []
  (.ret (0 :: 1 :: (rl 3 18 [])))))⟩
def D102 {ρ : Type} (fuel : Nat) (x1 x2 x3 : Int) (k : Bool → Option ρ) : Option ρ :=
  (bif ((decide ((if x3 > (if x2 > x1 then x2 else x1) then x3 else (if x2 > x1 then x2 else x1)) > 524288)) == false) then (k (decide ((if x3 < (if x2 < x1 then x2 else x1) then x3 else (if x2 < x1 then x2 else x1)) < (-524288)))) else (k true))
def F102 (fuel : Nat) (x1 x2 x3 : Int) : Option (Bool) := D102 fuel x1 x2 x3 some
theorem f102 {ρ : Type} (fuel : Nat) (x1 x2 x3 : Int) (k : (Bool) → Option ρ) : D102 fuel x1 x2 x3 k = ob (F102 fuel x1 x2 x3) k := by
  simp only [F102, D102, ob_bif, ob_ob, ob_none, ob_some]
theorem walk102 (fuel : Nat) (x1 x2 x3 : Int) :
    evalF (C2 fuel) fuel A45 [.agg [(vi x1), (vi x2), (vi x3)]] =
    (bif ((decide ((if x3 > (if x2 > x1 then x2 else x1) then x3 else (if x2 > x1 then x2 else x1)) > 524288)) == false) then (some [.v (.b (decide ((if x3 < (if x2 < x1 then x2 else x1) then x3 else (if x2 < x1 then x2 else x1)) < (-524288))))]) else (some [.v (.b true)])) := by kernel_rfl
theorem e102 (fuel : Nat) (x1 x2 x3 : Int) : evalF (C2 fuel) fuel A45 [.agg [(vi x1), (vi x2), (vi x3)]] = ob (F102 fuel x1 x2 x3) fun t => some [.v (.b t)] := by
  rw [walk102, ← f102]
  simp only [D102]
def O102 (fuel : Nat) : Ora where
  o := fun args {ρ} K =>
    wc args fun a1 l2 =>
    wagg a1 fun l3 =>
    wdI .i64 l3 fun y7 l5 =>
    wdI .i64 l5 fun y11 l9 =>
    wdI .i64 l9 fun y15 l13 =>
    wn l13 <|
    wn l2 <|
    (ob (F102 fuel y7 y11 y15) fun t => K [.v (.b t)])
  nat := fun args {ρ} K => by
    simp only [bind_wagg, bind_wc, bind_wdI, bind_wn, bind_ob, Option.bind_some]
theorem d102 {P : Program} (fuel : Nat) (hmix : P.follows .mixedOrders = true) (hC : Sound P (C2 fuel)) (hF : FFits P 45 A45) (args res : List A) (h : (O102 fuel).o args some = some res) : Den P 45 args res := by
  obtain ⟨a1, l2, rfl, z0⟩ := inv_wc h
  obtain ⟨l3, rfl, z1⟩ := inv_wagg z0
  obtain ⟨a4, y7, l5, rfl, h6, z2⟩ := inv_wdI z1
  obtain ⟨a8, y11, l9, rfl, h10, z3⟩ := inv_wdI z2
  obtain ⟨a12, y15, l13, rfl, h14, z4⟩ := inv_wdI z3
  obtain ⟨hn, z5⟩ := inv_wn z4
  cases hn
  obtain ⟨hn, z6⟩ := inv_wn z5
  cases hn
  exact Den.weaken (.cons (WkA.agg (.cons h6 (.cons h10 (.cons h14 .nil)))) .nil) (evalF_sound hmix hC hF ((e102 fuel y7 y11 y15).trans z6))
def C3 (fuel : Nat) : Oracle := (C2 fuel).add 45 (fun _ => true) (O102 fuel)
def A69v1 : AC := (.region 6 [o1 18 (bk .add 3 8 1), mv 8 18] 0 none)
def A69v2 : AC := (.seq (.block 1
  (.seq (.region 3 [mv 10 8, o1 5 (sg 10)] 0 none) []
    (.seq (.region 4 [mv 11 1, mv 12 0, mv 13 5, o1 14 (.indexAddr 32 27 3 (tm 12) (tm 13)), o1 15 (ln 27 3 14), o1 16 (.callv (tm 11) [(tm 15)] [27] .snap)] 0 none) []
    (.cond (tm 16)
    (.seq (.region 5 [mv 17 5, o1 4 (sg 17)] 0 none) []
      (.ret (rl 0 4 (rl 5 14 []))))
    .skip)))) (4 :: 5 :: (rl 10 8 []))
  A69v1)
def A69v3 : AC := (.seq (.region 2 [o1 9 (bt .lss 3 8 7)] 0 none) []
  (.seq (.cond (tm 9)
  .skip
  (.exit 0 (rl 0 19 []))) []
  A69v2))
def A69v4 : AC := (.seq (.region 7 [o1 4 (sk (-1))] 0 none) []
  (.ret (rl 0 4 (rl 5 14 []))))
def A69 : AF := ⟨19, [.tmp 4],
  (.seq (.region 0 [o1 4 (sk 0)] 0 none) []
  (.seq (.seq (.region 1 [mv 6 0, o1 7 (.len 32 false (tm 6)), o1 8 (.move (ic 0))] 0 none) []
  (.block 0
  (.loop [] (rl 2 5 (rl 9 10 []))
    A69v3))) (rl 4 15 [])
  A69v4))⟩
def B103v1 (C : Oracle) (fuel : Nat) {ρ : Type} : St → (Ex → St → Option ρ) → Option ρ := fun st k => evalC C fuel A69v3 st k
def N103v1 : St → Option St := fun s => s.norm (rl 2 5 (rl 9 10 [])) 0
def s103v0 (x7 : Nat) (x8 : FF) (x9 x10 : Int) : St := ⟨(.x (.c (.ro false kV x7 x8)) :: .x (.c (.fn 45 0 (listF []))) :: (us 5 (vxi x9 :: vxi x10 :: (us 10 [])))), []⟩
def s103v1 (x12 : Int) : St := ⟨(us 4 (vxi x12 :: (us 14 []))), []⟩
def s103v2 : St := ⟨(us 19 []), []⟩
def L103v1 {ρ : Type} (fuel : Nat) (x7 : Nat) (x8 : FF) (x9 : Int) : Nat → Int → (Int → Option ρ) → (Option ρ) → Option ρ
  | 0, _, _, _ => none
  | m + 1, x10, k0, k1 =>
    (bif (decide (x10 < x9)) then (bif (inb x10 x7) then (ob (F102 fuel (CV.int (x8 (Int.toNat x10) 0)) (CV.int (x8 (Int.toNat x10) 1)) (CV.int (x8 (Int.toNat x10) 2))) fun x11 => (bif x11 then (k0 x10) else (L103v1 fuel x7 x8 x9 m (w64 (x10 + 1)) k0 k1))) else none) else k1)
theorem nl103v1 {ρ σ : Type} (fuel : Nat) (x7 : Nat) (x8 : FF) (x9 : Int) (g : ρ → Option σ) : ∀ (m : Nat) (x10 : Int) (k0 : Int → Option ρ) (k1 : Option ρ), ob (L103v1 fuel x7 x8 x9 m x10 k0 k1) g = L103v1 fuel x7 x8 x9 m x10 (fun x12 => ob (k0 x12) g) (ob k1 g)
  | 0, _, _, _ => rfl
  | m + 1, x10, k0, k1 => by
    simp only [L103v1, ob_bif, ob_ob, ob_none, nl103v1 fuel x7 x8 x9 g m]
theorem r103v1 (fuel : Nat) (m : Nat) {ρ : Type} (k : Ex → St → Option ρ) (x7 : Nat) (x8 : FF) (x9 x10 : Int) :
    loopH (B103v1 (C3 fuel) fuel) N103v1 (m + 1) (s103v0 x7 x8 x9 x10) k =
    (bif (decide (x10 < x9)) then (bif (inb x10 x7) then (ob (F102 fuel (CV.int (x8 (Int.toNat x10) 0)) (CV.int (x8 (Int.toNat x10) 1)) (CV.int (x8 (Int.toNat x10) 2))) fun x11 => (bif x11 then (k .ret (s103v1 x10)) else (loopH (B103v1 (C3 fuel) fuel) N103v1 m (s103v0 x7 x8 x9 (w64 (x10 + 1))) k))) else none) else (k (.exit 0) s103v2)) := by kernel_rfl
theorem q103v1 (fuel : Nat) (x7 : Nat) (x8 : FF) (x9 : Int) {ρ : Type} (k : Ex → St → Option ρ) : ∀ (m : Nat) (x10 : Int),
    loopH (B103v1 (C3 fuel) fuel) N103v1 m (s103v0 x7 x8 x9 x10) k = L103v1 fuel x7 x8 x9 m x10 (fun x12 => k .ret (s103v1 x12)) (k (.exit 0) s103v2)
  | 0, _ => rfl
  | m + 1, x10 => by
    rw [r103v1]
    simp only [L103v1, q103v1 fuel x7 x8 x9 k m]
def D103 {ρ : Type} (fuel : Nat) (x1 : Nat) (x2 : FF) (k : Int → Option ρ) : Option ρ :=
  (L103v1 fuel x1 x2 (Int.ofNat x1) fuel 0
    (fun x13 => (k x13))
    (k (-1)))
def F103 (fuel : Nat) (x1 : Nat) (x2 : FF) : Option (Int) := D103 fuel x1 x2 some
theorem f103 {ρ : Type} (fuel : Nat) (x1 : Nat) (x2 : FF) (k : (Int) → Option ρ) : D103 fuel x1 x2 k = ob (F103 fuel x1 x2) k := by
  simp only [F103, D103, ob_bif, ob_ob, ob_none, ob_some, nl103v1]
def s103v3 (x1 : Nat) (x2 : FF) : St := ⟨[.x (.c (.ro false kV x1 x2)), .x (.c (.fn 45 0 (listF []))), .undef, .undef, vxi 0, .undef, .x (.c (.ro false kV x1 x2)), vxi (Int.ofNat x1), vxi 0, .undef, .undef, .undef, .undef, .undef, .undef, .undef, .undef, .undef, .undef], []⟩
theorem walk103 (fuel : Nat) (x1 : Nat) (x2 : FF) :
    evalF (C3 fuel) fuel A69 [.v (.ro false kV x1 x2), .v (.fn 45 0 (listF []))] =
    (loopN (B103v1 (C3 fuel) fuel) N103v1 fuel (s103v3 x1 x2) (kBlk 0 (kSeq (C3 fuel) fuel (rl 4 15 []) A69v4 (finish A69)))) := by kernel_rfl
theorem t103v1 (fuel : Nat) {ρ : Type} (k : Ex → St → Option ρ) (x1 : Nat) (x2 : FF) :
    loopN (B103v1 (C3 fuel) fuel) N103v1 fuel (s103v3 x1 x2) k =
    L103v1 fuel x1 x2 (Int.ofNat x1) fuel 0 (fun x12 => k .ret (s103v1 x12)) (k (.exit 0) s103v2) :=
  (loopN_at (st' := (s103v0 x1 x2 (Int.ofNat x1) 0)) (by kernel_rfl)).trans (q103v1 fuel x1 x2 (Int.ofNat x1) k fuel 0)
theorem g103v2 (fuel : Nat) (x13 : Int) :
    (kBlk 0 (kSeq (C3 fuel) fuel (rl 4 15 []) A69v4 (finish A69))) .ret (s103v1 x13) =
    (some [.v (vi x13)]) := by kernel_rfl
theorem g103v3 (fuel : Nat) :
    (kBlk 0 (kSeq (C3 fuel) fuel (rl 4 15 []) A69v4 (finish A69))) (.exit 0) s103v2 =
    (some [.v (vi (-1))]) := by kernel_rfl
theorem e103 (fuel : Nat) (x1 : Nat) (x2 : FF) : evalF (C3 fuel) fuel A69 [.v (.ro false kV x1 x2), .v (.fn 45 0 (listF []))] = ob (F103 fuel x1 x2) fun t => some [.v (vi t)] := by
  rw [walk103, ← f103]
  simp only [D103, t103v1, g103v2, g103v3]
def O103 (fuel : Nat) : Ora where
  o := fun args {ρ} K =>
    wcL kV args fun y4 y5 l2 =>
    wc l2 fun a6 l7 =>
    wv a6 fun c8 =>
    wFn 45 0 c8 fun y9 =>
    wn l7 <|
    (ob (F103 fuel y4 y5) fun t => K [.v (vi t)])
  nat := fun args {ρ} K => by
    simp only [bind_wFn, bind_wc, bind_wcL, bind_wn, bind_wv, bind_ob, Option.bind_some]
theorem d103 {P : Program} (fuel : Nat) (hmix : P.follows .mixedOrders = true) (hC : Sound P (C3 fuel)) (hF : FFits P 69 A69) (args res : List A) (h : (O103 fuel).o args some = some res) : Den P 69 args res := by
  obtain ⟨a1, y4, y5, l2, rfl, h3, z0⟩ := inv_wcL h
  obtain ⟨a6, l7, rfl, z1⟩ := inv_wc z0
  obtain ⟨c8, rfl, z2⟩ := inv_wv z1
  obtain ⟨y9, h10, z3⟩ := inv_wFn z2
  obtain ⟨hn, z4⟩ := inv_wn z3
  cases hn
  exact Den.weaken (.cons h3 (.cons (WkA.v (wk_fn0 h10)) .nil)) (evalF_sound hmix hC hF ((e103 fuel y4 y5).trans z4))
def C4 (fuel : Nat) : Oracle := (C3 fuel).add 69 (fun l => isFn 45 l 1) (O103 fuel)
def A44 : AF := ⟨9, [.tmp 4],
  (.seq (.region 0 [o1 4 (sb false)] 0 none) []
  (.seq (.region 1 [mv 5 0, mv 6 1, o1 7 (cs 69 [5, 6] [32, 77]), o1 8 (bk .geq 3 7 0), o1 4 (sg 8)] 0 none) []
  (.ret (rl 0 4 (rl 5 4 [])))))⟩
def D104 {ρ : Type} (fuel : Nat) (x1 : Nat) (x2 : FF) (k : Bool → Option ρ) : Option ρ :=
  (ob (F103 fuel x1 x2) fun x3 => (k (decide (x3 ≥ 0))))
def F104 (fuel : Nat) (x1 : Nat) (x2 : FF) : Option (Bool) := D104 fuel x1 x2 some
theorem f104 {ρ : Type} (fuel : Nat) (x1 : Nat) (x2 : FF) (k : (Bool) → Option ρ) : D104 fuel x1 x2 k = ob (F104 fuel x1 x2) k := by
  simp only [F104, D104, ob_bif, ob_ob, ob_none, ob_some]
theorem walk104 (fuel : Nat) (x1 : Nat) (x2 : FF) :
    evalF (C4 fuel) fuel A44 [.v (.ro false kV x1 x2), .v (.fn 45 0 (listF []))] =
    (ob (F103 fuel x1 x2) fun x3 => (some [.v (.b (decide (x3 ≥ 0)))])) := by kernel_rfl
theorem e104 (fuel : Nat) (x1 : Nat) (x2 : FF) : evalF (C4 fuel) fuel A44 [.v (.ro false kV x1 x2), .v (.fn 45 0 (listF []))] = ob (F104 fuel x1 x2) fun t => some [.v (.b t)] := by
  rw [walk104, ← f104]
  simp only [D104]
def O104 (fuel : Nat) : Ora where
  o := fun args {ρ} K =>
    wcL kV args fun y4 y5 l2 =>
    wc l2 fun a6 l7 =>
    wv a6 fun c8 =>
    wFn 45 0 c8 fun y9 =>
    wn l7 <|
    (ob (F104 fuel y4 y5) fun t => K [.v (.b t)])
  nat := fun args {ρ} K => by
    simp only [bind_wFn, bind_wc, bind_wcL, bind_wn, bind_wv, bind_ob, Option.bind_some]
theorem d104 {P : Program} (fuel : Nat) (hmix : P.follows .mixedOrders = true) (hC : Sound P (C4 fuel)) (hF : FFits P 44 A44) (args res : List A) (h : (O104 fuel).o args some = some res) : Den P 44 args res := by
  obtain ⟨a1, y4, y5, l2, rfl, h3, z0⟩ := inv_wcL h
  obtain ⟨a6, l7, rfl, z1⟩ := inv_wc z0
  obtain ⟨c8, rfl, z2⟩ := inv_wv z1
  obtain ⟨y9, h10, z3⟩ := inv_wFn z2
  obtain ⟨hn, z4⟩ := inv_wn z3
  cases hn
  exact Den.weaken (.cons h3 (.cons (WkA.v (wk_fn0 h10)) .nil)) (evalF_sound hmix hC hF ((e104 fuel y4 y5).trans z4))
def C5 (fuel : Nat) : Oracle := (C4 fuel).add 44 (fun l => isFn 45 l 1) (O104 fuel)
def A41v1 : AC := (.region 6 [o1 26 (bk .add 3 14 1), mv 14 26] 0 none)
def A41v2 : AC := (.seq (.block 1
  (.seq (.region 3 [o1 16 (.index 78 3 3 1 none (tm 13) (tm 14)), o1 6 (sg 16)] 0 none) []
    (.seq (.region 4 [mv 17 6, mv 18 1, o1 19 (.unOp .neg 3 (tm 18)), o1 20 (bt .lss 3 17 19), mv 21 20, og 22 (.move (tm 6)) 21 false, og 23 (.move (tm 1)) 21 false, og 24 (bt .gtr 3 22 23) 21 false, o1 25 (pa 21 24)] 0 none) []
    (.cond (tm 25)
    (.seq (.region 5 [o1 4 (sb false)] 0 none) []
      (.ret (rl 0 4 (rl 5 22 []))))
    .skip)))) (4 :: 6 :: (rl 16 10 []))
  A41v1)
def A41v3 : AC := (.seq (.region 2 [o1 15 (bk .lss 3 14 3)] 0 none) []
  (.seq (.cond (tm 15)
  .skip
  (.exit 0 (rl 0 27 []))) []
  A41v2))
def A41v4 : AC := (.seq (.region 7 [o1 4 (sb true)] 0 none) []
  (.ret (rl 0 4 (rl 5 22 []))))
def A41 : AF := ⟨27, [.tmp 4],
  (.seq (.region 0 [o1 2 (bx 0 27 0), o1 4 (sb false)] 1 none) []
  (.seq (.seq (.region 1 [o1 7 (fa 27 2 0 0), o1 8 (lo 3 7), o1 9 (fa 27 2 1 1), o1 10 (lo 3 9), o1 11 (fa 27 2 2 2), o1 12 (lo 3 11), o1 13 (.build 78 [vci 0, vci 0, vci 0] [] 1 [(0, (tm 8)), (1, (tm 10)), (2, (tm 12))]), o1 14 (.move (ic 0))] 0 none) []
  (.block 0
  (.loop [] (0 :: (rl 2 11 (rl 15 12 [])))
    A41v3))) (4 :: (rl 6 21 []))
  A41v4))⟩
def B105v1 (C : Oracle) (fuel : Nat) {ρ : Type} : St → (Ex → St → Option ρ) → Option ρ := fun st k => evalC C fuel A41v3 st k
def N105v1 : St → Option St := fun s => s.norm (0 :: (rl 2 11 (rl 15 12 []))) 1
def s105v0 (x9 x10 x11 x12 x13 : Int) : St := ⟨(.u :: vxi x9 :: (us 11 (.agg [(vci x10), (vci x11), (vci x12)] :: vxi x13 :: (us 12 [])))), [.box [(vci x10), (vci x11), (vci x12)]]⟩
def s105v1 (x10 x11 x12 : Int) : St := ⟨(us 4 (vxb false :: (us 22 []))), [.box [(vci x10), (vci x11), (vci x12)]]⟩
def s105v2 (x10 x11 x12 : Int) : St := ⟨(us 27 []), [.box [(vci x10), (vci x11), (vci x12)]]⟩
def L105v1 {ρ : Type} (fuel : Nat) (x9 x10 x11 x12 : Int) : Nat → Int → (Option ρ) → (Option ρ) → Option ρ
  | 0, _, _, _ => none
  | m + 1, x13, k0, k1 =>
    (bif (decide (x13 < 3)) then (bif (x13 == 0) then (bif ((decide (x10 < (w64 (0 - x9)))) == false) then (bif (decide (x10 > x9)) then k0 else (L105v1 fuel x9 x10 x11 x12 m (w64 (x13 + 1)) k0 k1)) else k0) else (bif (x13 == 1) then (bif ((decide (x11 < (w64 (0 - x9)))) == false) then (bif (decide (x11 > x9)) then k0 else (L105v1 fuel x9 x10 x11 x12 m (w64 (x13 + 1)) k0 k1)) else k0) else (bif (x13 == 2) then (bif ((decide (x12 < (w64 (0 - x9)))) == false) then (bif (decide (x12 > x9)) then k0 else (L105v1 fuel x9 x10 x11 x12 m (w64 (x13 + 1)) k0 k1)) else k0) else none))) else k1)
theorem nl105v1 {ρ σ : Type} (fuel : Nat) (x9 x10 x11 x12 : Int) (g : ρ → Option σ) : ∀ (m : Nat) (x13 : Int) (k0 : Option ρ) (k1 : Option ρ), ob (L105v1 fuel x9 x10 x11 x12 m x13 k0 k1) g = L105v1 fuel x9 x10 x11 x12 m x13 (ob k0 g) (ob k1 g)
  | 0, _, _, _ => rfl
  | m + 1, x13, k0, k1 => by
    simp only [L105v1, ob_bif, ob_ob, ob_none, nl105v1 fuel x9 x10 x11 x12 g m]
theorem r105v1 (fuel : Nat) (m : Nat) {ρ : Type} (k : Ex → St → Option ρ) (x9 x10 x11 x12 x13 : Int) :
    loopH (B105v1 (C5 fuel) fuel) N105v1 (m + 1) (s105v0 x9 x10 x11 x12 x13) k =
    (bif (decide (x13 < 3)) then (bif (x13 == 0) then (bif ((decide (x10 < (w64 (0 - x9)))) == false) then (bif (decide (x10 > x9)) then (k .ret (s105v1 x10 x11 x12)) else (loopH (B105v1 (C5 fuel) fuel) N105v1 m (s105v0 x9 x10 x11 x12 (w64 (x13 + 1))) k)) else (k .ret (s105v1 x10 x11 x12))) else (bif (x13 == 1) then (bif ((decide (x11 < (w64 (0 - x9)))) == false) then (bif (decide (x11 > x9)) then (k .ret (s105v1 x10 x11 x12)) else (loopH (B105v1 (C5 fuel) fuel) N105v1 m (s105v0 x9 x10 x11 x12 (w64 (x13 + 1))) k)) else (k .ret (s105v1 x10 x11 x12))) else (bif (x13 == 2) then (bif ((decide (x12 < (w64 (0 - x9)))) == false) then (bif (decide (x12 > x9)) then (k .ret (s105v1 x10 x11 x12)) else (loopH (B105v1 (C5 fuel) fuel) N105v1 m (s105v0 x9 x10 x11 x12 (w64 (x13 + 1))) k)) else (k .ret (s105v1 x10 x11 x12))) else none))) else (k (.exit 0) (s105v2 x10 x11 x12))) := by kernel_rfl
theorem q105v1 (fuel : Nat) (x9 x10 x11 x12 : Int) {ρ : Type} (k : Ex → St → Option ρ) : ∀ (m : Nat) (x13 : Int),
    loopH (B105v1 (C5 fuel) fuel) N105v1 m (s105v0 x9 x10 x11 x12 x13) k = L105v1 fuel x9 x10 x11 x12 m x13 (k .ret (s105v1 x10 x11 x12)) (k (.exit 0) (s105v2 x10 x11 x12))
  | 0, _ => rfl
  | m + 1, x13 => by
    rw [r105v1]
    simp only [L105v1, q105v1 fuel x9 x10 x11 x12 k m]
def D105 {ρ : Type} (fuel : Nat) (x1 x2 x3 x4 : Int) (k : Bool → Option ρ) : Option ρ :=
  (L105v1 fuel x4 x1 x2 x3 fuel 0
    (k false)
    (k true))
def F105 (fuel : Nat) (x1 x2 x3 x4 : Int) : Option (Bool) := D105 fuel x1 x2 x3 x4 some
theorem f105 {ρ : Type} (fuel : Nat) (x1 x2 x3 x4 : Int) (k : (Bool) → Option ρ) : D105 fuel x1 x2 x3 x4 k = ob (F105 fuel x1 x2 x3 x4) k := by
  simp only [F105, D105, ob_bif, ob_ob, ob_none, ob_some, nl105v1]
def s105v3 (x1 x2 x3 x4 : Int) : St := ⟨[.agg [(vci x1), (vci x2), (vci x3)], vxi x4, .x (.ptr 0 0), .undef, vxb false, .undef, .undef, .x (.ptr 0 0), vxi x1, .x (.ptr 0 1), vxi x2, .x (.ptr 0 2), vxi x3, .agg [(vci x1), (vci x2), (vci x3)], vxi 0, .undef, .undef, .undef, .undef, .undef, .undef, .undef, .undef, .undef, .undef, .undef, .undef], [.box [(vci x1), (vci x2), (vci x3)]]⟩
theorem walk105 (fuel : Nat) (x1 x2 x3 x4 : Int) :
    evalF (C5 fuel) fuel A41 [.agg [(vi x1), (vi x2), (vi x3)], .v (vi x4)] =
    (loopN (B105v1 (C5 fuel) fuel) N105v1 fuel (s105v3 x1 x2 x3 x4) (kBlk 0 (kSeq (C5 fuel) fuel (4 :: (rl 6 21 [])) A41v4 (finish A41)))) := by kernel_rfl
theorem t105v1 (fuel : Nat) {ρ : Type} (k : Ex → St → Option ρ) (x1 x2 x3 x4 : Int) :
    loopN (B105v1 (C5 fuel) fuel) N105v1 fuel (s105v3 x1 x2 x3 x4) k =
    L105v1 fuel x4 x1 x2 x3 fuel 0 (k .ret (s105v1 x1 x2 x3)) (k (.exit 0) (s105v2 x1 x2 x3)) :=
  (loopN_at (st' := (s105v0 x4 x1 x2 x3 0)) (by kernel_rfl)).trans (q105v1 fuel x4 x1 x2 x3 k fuel 0)
theorem g105v2 (fuel : Nat) (x1 x2 x3 : Int) :
    (kBlk 0 (kSeq (C5 fuel) fuel (4 :: (rl 6 21 [])) A41v4 (finish A41))) .ret (s105v1 x1 x2 x3) =
    (some [.v (.b false)]) := by kernel_rfl
theorem g105v3 (fuel : Nat) (x1 x2 x3 : Int) :
    (kBlk 0 (kSeq (C5 fuel) fuel (4 :: (rl 6 21 [])) A41v4 (finish A41))) (.exit 0) (s105v2 x1 x2 x3) =
    (some [.v (.b true)]) := by kernel_rfl
theorem e105 (fuel : Nat) (x1 x2 x3 x4 : Int) : evalF (C5 fuel) fuel A41 [.agg [(vi x1), (vi x2), (vi x3)], .v (vi x4)] = ob (F105 fuel x1 x2 x3 x4) fun t => some [.v (.b t)] := by
  rw [walk105, ← f105]
  simp only [D105, t105v1, g105v2, g105v3]
def O105 (fuel : Nat) : Ora where
  o := fun args {ρ} K =>
    wc args fun a1 l2 =>
    wagg a1 fun l3 =>
    wdI .i64 l3 fun y7 l5 =>
    wdI .i64 l5 fun y11 l9 =>
    wdI .i64 l9 fun y15 l13 =>
    wn l13 <|
    wcI .i64 l2 fun y19 l17 =>
    wn l17 <|
    (ob (F105 fuel y7 y11 y15 y19) fun t => K [.v (.b t)])
  nat := fun args {ρ} K => by
    simp only [bind_wagg, bind_wc, bind_wcI, bind_wdI, bind_wn, bind_ob, Option.bind_some]
theorem d105 {P : Program} (fuel : Nat) (hmix : P.follows .mixedOrders = true) (hC : Sound P (C5 fuel)) (hF : FFits P 41 A41) (args res : List A) (h : (O105 fuel).o args some = some res) : Den P 41 args res := by
  obtain ⟨a1, l2, rfl, z0⟩ := inv_wc h
  obtain ⟨l3, rfl, z1⟩ := inv_wagg z0
  obtain ⟨a4, y7, l5, rfl, h6, z2⟩ := inv_wdI z1
  obtain ⟨a8, y11, l9, rfl, h10, z3⟩ := inv_wdI z2
  obtain ⟨a12, y15, l13, rfl, h14, z4⟩ := inv_wdI z3
  obtain ⟨hn, z5⟩ := inv_wn z4
  cases hn
  obtain ⟨a16, y19, l17, rfl, h18, z6⟩ := inv_wcI z5
  obtain ⟨hn, z7⟩ := inv_wn z6
  cases hn
  exact Den.weaken (.cons (WkA.agg (.cons h6 (.cons h10 (.cons h14 .nil)))) (.cons h18 .nil)) (evalF_sound hmix hC hF ((e105 fuel y7 y11 y15 y19).trans z7))
def C6 (fuel : Nat) : Oracle := (C5 fuel).add 41 (fun _ => true) (O105 fuel)
def A50 : AF := ⟨13, [.cell 2 27 (some 3)],
  (.seq (.region 0 [o1 1 (bx 0 27 0), o1 2 (.alloc 1 27 [vci 0, vci 0, vci 0])] 2 none) []
  (.seq (.region 1 [o1 3 (fa 27 1 0 0), o1 4 (lo 3 3), o1 5 (.unOp .neg 3 (tm 4)), o1 6 (fa 27 1 1 1), o1 7 (lo 3 6), o1 8 (.unOp .neg 3 (tm 7)), o1 9 (fa 27 1 2 2), o1 10 (lo 3 9), o1 11 (.unOp .neg 3 (tm 10)), o1 12 (.build 27 [vci 0, vci 0, vci 0] [(0, 1), (1, 1), (2, 1)] 0 [(0, (tm 5)), (1, (tm 8)), (2, (tm 11))]), o0 (.store 27 3 (tm 2) (tm 12))] 0 none) []
  (.ret (0 :: 1 :: (rl 3 10 [])))))⟩
def D106 {ρ : Type} (fuel : Nat) (x1 x2 x3 : Int) (k : (Int × Int × Int) → Option ρ) : Option ρ :=
  (k ((w64 (0 - x1)), (w64 (0 - x2)), (w64 (0 - x3))))
def F106 (fuel : Nat) (x1 x2 x3 : Int) : Option (Int × Int × Int) := D106 fuel x1 x2 x3 some
theorem f106 {ρ : Type} (fuel : Nat) (x1 x2 x3 : Int) (k : (Int × Int × Int) → Option ρ) : D106 fuel x1 x2 x3 k = ob (F106 fuel x1 x2 x3) k := by
  simp only [F106, D106, ob_bif, ob_ob, ob_none, ob_some]
theorem walk106 (fuel : Nat) (x1 x2 x3 : Int) :
    evalF (C6 fuel) fuel A50 [.agg [(vi x1), (vi x2), (vi x3)]] =
    (some [.agg [(vi (w64 (0 - x1))), (vi (w64 (0 - x2))), (vi (w64 (0 - x3)))]]) := by kernel_rfl
theorem e106 (fuel : Nat) (x1 x2 x3 : Int) : evalF (C6 fuel) fuel A50 [.agg [(vi x1), (vi x2), (vi x3)]] = ob (F106 fuel x1 x2 x3) fun t => some [.agg [(vi t.1), (vi t.2.1), (vi t.2.2)]] := by
  rw [walk106, ← f106]
  simp only [D106]
def O106 (fuel : Nat) : Ora where
  o := fun args {ρ} K =>
    wc args fun a1 l2 =>
    wagg a1 fun l3 =>
    wdI .i64 l3 fun y7 l5 =>
    wdI .i64 l5 fun y11 l9 =>
    wdI .i64 l9 fun y15 l13 =>
    wn l13 <|
    wn l2 <|
    (ob (F106 fuel y7 y11 y15) fun t => K [.agg [(vi t.1), (vi t.2.1), (vi t.2.2)]])
  nat := fun args {ρ} K => by
    simp only [bind_wagg, bind_wc, bind_wdI, bind_wn, bind_ob, Option.bind_some]
theorem d106 {P : Program} (fuel : Nat) (hmix : P.follows .mixedOrders = true) (hC : Sound P (C6 fuel)) (hF : FFits P 50 A50) (args res : List A) (h : (O106 fuel).o args some = some res) : Den P 50 args res := by
  obtain ⟨a1, l2, rfl, z0⟩ := inv_wc h
  obtain ⟨l3, rfl, z1⟩ := inv_wagg z0
  obtain ⟨a4, y7, l5, rfl, h6, z2⟩ := inv_wdI z1
  obtain ⟨a8, y11, l9, rfl, h10, z3⟩ := inv_wdI z2
  obtain ⟨a12, y15, l13, rfl, h14, z4⟩ := inv_wdI z3
  obtain ⟨hn, z5⟩ := inv_wn z4
  cases hn
  obtain ⟨hn, z6⟩ := inv_wn z5
  cases hn
  exact Den.weaken (.cons (WkA.agg (.cons h6 (.cons h10 (.cons h14 .nil)))) .nil) (evalF_sound hmix hC hF ((e106 fuel y7 y11 y15).trans z6))
def C7 (fuel : Nat) : Oracle := (C6 fuel).add 50 (fun _ => true) (O106 fuel)
def A43 : AF := ⟨21, [.cell 4 27 (some 3)],
  (.seq (.region 0 [o1 2 (bx 0 27 0), o1 3 (bx 1 27 1), o1 4 (.alloc 2 27 [vci 0, vci 0, vci 0])] 3 none) []
  (.seq (.region 1 [o1 5 (fa 27 2 0 0), o1 6 (lo 3 5), o1 7 (fa 27 3 0 0), o1 8 (lo 3 7), o1 9 (bt .add 3 6 8), o1 10 (fa 27 2 1 1), o1 11 (lo 3 10), o1 12 (fa 27 3 1 1), o1 13 (lo 3 12), o1 14 (bt .add 3 11 13), o1 15 (fa 27 2 2 2), o1 16 (lo 3 15), o1 17 (fa 27 3 2 2), o1 18 (lo 3 17), o1 19 (bt .add 3 16 18), o1 20 (.build 27 [vci 0, vci 0, vci 0] [(0, 1), (1, 1), (2, 1)] 0 [(0, (tm 9)), (1, (tm 14)), (2, (tm 19))]), o0 (.store 27 3 (tm 4) (tm 20))] 0 none) []
  (.ret (rl 0 4 (rl 5 16 [])))))⟩
def D107 {ρ : Type} (fuel : Nat) (x1 x2 x3 x4 x5 x6 : Int) (k : (Int × Int × Int) → Option ρ) : Option ρ :=
  (k ((w64 (x1 + x4)), (w64 (x2 + x5)), (w64 (x3 + x6))))
def F107 (fuel : Nat) (x1 x2 x3 x4 x5 x6 : Int) : Option (Int × Int × Int) := D107 fuel x1 x2 x3 x4 x5 x6 some
theorem f107 {ρ : Type} (fuel : Nat) (x1 x2 x3 x4 x5 x6 : Int) (k : (Int × Int × Int) → Option ρ) : D107 fuel x1 x2 x3 x4 x5 x6 k = ob (F107 fuel x1 x2 x3 x4 x5 x6) k := by
  simp only [F107, D107, ob_bif, ob_ob, ob_none, ob_some]
theorem walk107 (fuel : Nat) (x1 x2 x3 x4 x5 x6 : Int) :
    evalF (C7 fuel) fuel A43 [.agg [(vi x1), (vi x2), (vi x3)], .agg [(vi x4), (vi x5), (vi x6)]] =
    (some [.agg [(vi (w64 (x1 + x4))), (vi (w64 (x2 + x5))), (vi (w64 (x3 + x6)))]]) := by kernel_rfl
theorem e107 (fuel : Nat) (x1 x2 x3 x4 x5 x6 : Int) : evalF (C7 fuel) fuel A43 [.agg [(vi x1), (vi x2), (vi x3)], .agg [(vi x4), (vi x5), (vi x6)]] = ob (F107 fuel x1 x2 x3 x4 x5 x6) fun t => some [.agg [(vi t.1), (vi t.2.1), (vi t.2.2)]] := by
  rw [walk107, ← f107]
  simp only [D107]
def O107 (fuel : Nat) : Ora where
  o := fun args {ρ} K =>
    wc args fun a1 l2 =>
    wagg a1 fun l3 =>
    wdI .i64 l3 fun y7 l5 =>
    wdI .i64 l5 fun y11 l9 =>
    wdI .i64 l9 fun y15 l13 =>
    wn l13 <|
    wc l2 fun a16 l17 =>
    wagg a16 fun l18 =>
    wdI .i64 l18 fun y22 l20 =>
    wdI .i64 l20 fun y26 l24 =>
    wdI .i64 l24 fun y30 l28 =>
    wn l28 <|
    wn l17 <|
    (ob (F107 fuel y7 y11 y15 y22 y26 y30) fun t => K [.agg [(vi t.1), (vi t.2.1), (vi t.2.2)]])
  nat := fun args {ρ} K => by
    simp only [bind_wagg, bind_wc, bind_wdI, bind_wn, bind_ob, Option.bind_some]
theorem d107 {P : Program} (fuel : Nat) (hmix : P.follows .mixedOrders = true) (hC : Sound P (C7 fuel)) (hF : FFits P 43 A43) (args res : List A) (h : (O107 fuel).o args some = some res) : Den P 43 args res := by
  obtain ⟨a1, l2, rfl, z0⟩ := inv_wc h
  obtain ⟨l3, rfl, z1⟩ := inv_wagg z0
  obtain ⟨a4, y7, l5, rfl, h6, z2⟩ := inv_wdI z1
  obtain ⟨a8, y11, l9, rfl, h10, z3⟩ := inv_wdI z2
  obtain ⟨a12, y15, l13, rfl, h14, z4⟩ := inv_wdI z3
  obtain ⟨hn, z5⟩ := inv_wn z4
  cases hn
  obtain ⟨a16, l17, rfl, z6⟩ := inv_wc z5
  obtain ⟨l18, rfl, z7⟩ := inv_wagg z6
  obtain ⟨a19, y22, l20, rfl, h21, z8⟩ := inv_wdI z7
  obtain ⟨a23, y26, l24, rfl, h25, z9⟩ := inv_wdI z8
  obtain ⟨a27, y30, l28, rfl, h29, z10⟩ := inv_wdI z9
  obtain ⟨hn, z11⟩ := inv_wn z10
  cases hn
  obtain ⟨hn, z12⟩ := inv_wn z11
  cases hn
  exact Den.weaken (.cons (WkA.agg (.cons h6 (.cons h10 (.cons h14 .nil)))) (.cons (WkA.agg (.cons h21 (.cons h25 (.cons h29 .nil)))) .nil)) (evalF_sound hmix hC hF ((e107 fuel y7 y11 y15 y22 y26 y30).trans z12))
def C8 (fuel : Nat) : Oracle := (C7 fuel).add 43 (fun _ => true) (O107 fuel)
def A46v1 : AC := (.seq (.region 3 [o1 14 (ln 27 3 2), o1 15 (ln 27 3 3), o1 16 (cs 50 [15] [27]), o1 17 (cs 43 [14, 16] [27, 27]), o0 (.store 27 3 (tm 4) (tm 17))] 0 (some [[], [], [1], [0, 1, 2], (rl 0 4 [])])) []
  (.ret (rl 0 4 (rl 5 13 []))))
def A46 : AF := ⟨18, [.cell 4 27 (some 3)],
  (.seq (.region 0 [o1 2 (bx 0 27 0), o1 3 (bx 1 27 1), o1 4 (.alloc 2 27 [vci 0, vci 0, vci 0])] 3 none) []
  (.seq (.seq (.region 1 [o1 5 (ln 27 3 2), o1 6 (.call 41 [(tm 5), (ic 1099511627776)] [27, 3] .snap), o1 7 (.unOp .not 4 (tm 6)), mv 8 7, og 9 (ln 27 3 3) 8 false, og 10 (.call 41 [(tm 9), (ic 1099511627776)] [27, 3] .snap) 8 false, og 11 (.unOp .not 4 (tm 10)) 8 false, o1 12 (pa 8 11)] 0 none) []
  (.cond (tm 12)
  (.seq (.region 2 [o1 13 (.build 27 [vci 0, vci 0, vci 0] [(0, 1), (1, 1), (2, 1)] 0 []), o0 (.store 27 3 (tm 4) (tm 13))] 0 none) []
    (.ret (rl 0 4 (rl 5 13 []))))
  .skip)) (rl 5 9 [])
  A46v1))⟩
def D108 {ρ : Type} (fuel : Nat) (x1 x2 x3 x4 x5 x6 : Int) (k : (Int × Int × Int) → Option ρ) : Option ρ :=
  (ob (F105 fuel x1 x2 x3 1099511627776) fun x7 => (bif ((!x7) == false) then (ob (F105 fuel x4 x5 x6 1099511627776) fun x8 => (bif (!x8) then (k (0, 0, 0)) else (ob (F106 fuel x4 x5 x6) fun x11 => (ob (F107 fuel x1 x2 x3 x11.1 x11.2.1 x11.2.2) fun x12 => (k (x12.1, x12.2.1, x12.2.2)))))) else (k (0, 0, 0))))
def F108 (fuel : Nat) (x1 x2 x3 x4 x5 x6 : Int) : Option (Int × Int × Int) := D108 fuel x1 x2 x3 x4 x5 x6 some
theorem f108 {ρ : Type} (fuel : Nat) (x1 x2 x3 x4 x5 x6 : Int) (k : (Int × Int × Int) → Option ρ) : D108 fuel x1 x2 x3 x4 x5 x6 k = ob (F108 fuel x1 x2 x3 x4 x5 x6) k := by
  simp only [F108, D108, ob_bif, ob_ob, ob_none, ob_some]
theorem walk108 (fuel : Nat) (x1 x2 x3 x4 x5 x6 : Int) :
    evalF (C8 fuel) fuel A46 [.agg [(vi x1), (vi x2), (vi x3)], .agg [(vi x4), (vi x5), (vi x6)]] =
    (ob (F105 fuel x1 x2 x3 1099511627776) fun x7 => (bif ((!x7) == false) then (ob (F105 fuel x4 x5 x6 1099511627776) fun x8 => (bif (!x8) then (some [.agg [(vi 0), (vi 0), (vi 0)]]) else (ob (F106 fuel x4 x5 x6) fun x11 => (ob (F107 fuel x1 x2 x3 x11.1 x11.2.1 x11.2.2) fun x12 => (some [.agg [(vi x12.1), (vi x12.2.1), (vi x12.2.2)]]))))) else (some [.agg [(vi 0), (vi 0), (vi 0)]]))) := by kernel_rfl
theorem e108 (fuel : Nat) (x1 x2 x3 x4 x5 x6 : Int) : evalF (C8 fuel) fuel A46 [.agg [(vi x1), (vi x2), (vi x3)], .agg [(vi x4), (vi x5), (vi x6)]] = ob (F108 fuel x1 x2 x3 x4 x5 x6) fun t => some [.agg [(vi t.1), (vi t.2.1), (vi t.2.2)]] := by
  rw [walk108, ← f108]
  simp only [D108]
def O108 (fuel : Nat) : Ora where
  o := fun args {ρ} K =>
    wc args fun a1 l2 =>
    wagg a1 fun l3 =>
    wdI .i64 l3 fun y7 l5 =>
    wdI .i64 l5 fun y11 l9 =>
    wdI .i64 l9 fun y15 l13 =>
    wn l13 <|
    wc l2 fun a16 l17 =>
    wagg a16 fun l18 =>
    wdI .i64 l18 fun y22 l20 =>
    wdI .i64 l20 fun y26 l24 =>
    wdI .i64 l24 fun y30 l28 =>
    wn l28 <|
    wn l17 <|
    (ob (F108 fuel y7 y11 y15 y22 y26 y30) fun t => K [.agg [(vi t.1), (vi t.2.1), (vi t.2.2)]])
  nat := fun args {ρ} K => by
    simp only [bind_wagg, bind_wc, bind_wdI, bind_wn, bind_ob, Option.bind_some]
theorem d108 {P : Program} (fuel : Nat) (hmix : P.follows .mixedOrders = true) (hC : Sound P (C8 fuel)) (hF : FFits P 46 A46) (args res : List A) (h : (O108 fuel).o args some = some res) : Den P 46 args res := by
  obtain ⟨a1, l2, rfl, z0⟩ := inv_wc h
  obtain ⟨l3, rfl, z1⟩ := inv_wagg z0
  obtain ⟨a4, y7, l5, rfl, h6, z2⟩ := inv_wdI z1
  obtain ⟨a8, y11, l9, rfl, h10, z3⟩ := inv_wdI z2
  obtain ⟨a12, y15, l13, rfl, h14, z4⟩ := inv_wdI z3
  obtain ⟨hn, z5⟩ := inv_wn z4
  cases hn
  obtain ⟨a16, l17, rfl, z6⟩ := inv_wc z5
  obtain ⟨l18, rfl, z7⟩ := inv_wagg z6
  obtain ⟨a19, y22, l20, rfl, h21, z8⟩ := inv_wdI z7
  obtain ⟨a23, y26, l24, rfl, h25, z9⟩ := inv_wdI z8
  obtain ⟨a27, y30, l28, rfl, h29, z10⟩ := inv_wdI z9
  obtain ⟨hn, z11⟩ := inv_wn z10
  cases hn
  obtain ⟨hn, z12⟩ := inv_wn z11
  cases hn
  exact Den.weaken (.cons (WkA.agg (.cons h6 (.cons h10 (.cons h14 .nil)))) (.cons (WkA.agg (.cons h21 (.cons h25 (.cons h29 .nil)))) .nil)) (evalF_sound hmix hC hF ((e108 fuel y7 y11 y15 y22 y26 y30).trans z12))
def C9 (fuel : Nat) : Oracle := (C8 fuel).add 46 (fun _ => true) (O108 fuel)
def A22v1 : AC := (.region 13 [o1 60 (bk .add 3 53 1), mv 53 60] 0 none)
def A22v2 : AC := (.seq (.block 3
  (.seq (.region 10 [o1 55 (.index 78 3 3 1 none (tm 52) (tm 53)), o1 9 (sg 55)] 0 none) []
    (.seq (.region 11 [mv 56 9, o1 57 (bk .neq 3 56 0)] 0 none) []
    (.cond (tm 57)
    (.region 12 [mv 58 6, o1 59 (bk .add 3 58 1), o1 6 (sg 59)] 0 none)
    .skip)))) (9 :: (rl 55 5 []))
  A22v1)
def A22v3 : AC := (.seq (.region 9 [o1 54 (bk .lss 3 53 3)] 0 none) []
  (.seq (.cond (tm 54)
  .skip
  (.exit 2 (rl 1 4 (rl 7 56 [])))) []
  A22v2))
def A22v4 : AC := (.seq (.region 14 [mv 61 6, o1 62 (bk .neq 3 61 1)] 0 none) []
  (.cond (tm 62)
  (.seq (.region 15 [o1 4 (sb false)] 0 none) []
    (.ret (rl 0 4 (rl 5 58 []))))
  .skip))
def A22v5 : AC := (.region 5 [mv 34 5, o1 35 (bk .add 3 34 1), o1 5 (sg 35)] 0 none)
def A22v6 : AC := (.seq (.block 1
  (.seq (.region 6 [o1 6 (sk 0)] 0 none) []
    (.seq (.region 7 [mv 36 0, mv 37 5, o1 38 (.indexAddr 32 27 3 (tm 36) (tm 37)), o1 39 (ln 27 3 38), mv 40 0, mv 41 5, o1 42 (bk .sub 3 41 1), o1 43 (.indexAddr 32 27 3 (tm 40) (tm 42)), o1 44 (ln 27 3 43), o1 45 (cs 46 [39, 44] [27, 27]), o1 7 (.alloc 0 27 [vci 0, vci 0, vci 0]), o0 (.store 27 3 (tm 7) (tm 45))] 1 (some [[], [], [0, 1], [0, 1, 2], [], [], [5], [4, 5, 6], (rl 4 4 []), (rl 0 9 []), [], (rl 0 11 [])])) []
    (.seq (.seq (.region 8 [o1 46 (fa 27 7 0 0), o1 47 (lo 3 46), o1 48 (fa 27 7 1 1), o1 49 (lo 3 48), o1 50 (fa 27 7 2 2), o1 51 (lo 3 50), o1 52 (.build 78 [vci 0, vci 0, vci 0] [] 1 [(0, (tm 47)), (1, (tm 49)), (2, (tm 51))]), o1 53 (.move (ic 0))] 0 none) []
    (.block 2
    (.loop [] (rl 1 4 (rl 7 45 (rl 54 9 [])))
      A22v3))) (9 :: (rl 46 15 []))
    A22v4)))) (4 :: 6 :: 7 :: 9 :: (rl 36 27 []))
  A22v5)
def A22v7 : AC := (.seq (.seq (.region 4 [mv 30 5, mv 31 0, o1 32 (.len 32 false (tm 31)), o1 33 (bt .lss 3 30 32)] 0 none) []
  (.cond (tm 33)
  .skip
  (.exit 0 (rl 0 63 [])))) (rl 30 4 [])
  A22v6)
def A22v8 : AC := (.seq (.region 16 [o1 4 (sb true)] 0 none) []
  (.ret (rl 0 4 (rl 5 58 []))))
def A22v9 : AC := (.seq (.seq (.region 3 [o1 5 (sk 1)] 0 none) []
  (.block 0
  (.loop [] (rl 1 4 (rl 6 57 []))
    A22v7))) (rl 4 4 (9 :: (rl 30 33 [])))
  A22v8)
def A22 : AF := ⟨63, [.tmp 4],
  (.seq (.region 0 [o1 4 (sb false)] 0 none) []
  (.seq (.seq (.region 1 [mv 10 0, o1 11 (.len 32 false (tm 10)), o1 12 (bk .lss 3 11 2), mv 13 12, og 14 (.move (tm 0)) 13 false, og 15 (.len 32 false (tm 14)) 13 false, og 16 (bk .gtr 3 15 32) 13 false, o1 17 (pa 13 16), mv 18 17, og 19 (.move (tm 0)) 18 false, og 20 (.call 44 [(tm 19), (.func 45)] [32, 77] .snap) 18 false, o1 21 (pa 18 20), mv 22 21, og 23 (.move (tm 1)) 22 false, og 24 (bk .lss 3 23 1) 22 false, o1 25 (pa 22 24), mv 26 25, og 27 (.move (tm 1)) 26 false, og 28 (bk .gtr 3 27 10000) 26 false, o1 29 (pa 26 28)] 0 none) []
  (.cond (tm 29)
  (.seq (.region 2 [o1 4 (sb false)] 0 none) []
    (.ret (rl 0 4 (rl 5 58 []))))
  .skip)) (4 :: (rl 10 20 []))
  A22v9))⟩
def B109v2 (C : Oracle) (fuel : Nat) {ρ : Type} : St → (Ex → St → Option ρ) → Option ρ := fun st k => evalC C fuel A22v3 st k
def N109v2 : St → Option St := fun s => s.norm (rl 1 4 (rl 7 45 (rl 54 9 []))) 1
def s109v0 (x33 : Nat) (x34 : FF) (x35 x36 x37 x38 x39 x40 : Int) : St := ⟨(.x (.c (.ro false kV x33 x34)) :: (us 4 (vxi x35 :: vxi x36 :: (us 45 (.agg [(vci x37), (vci x38), (vci x39)] :: vxi x40 :: (us 9 [])))))), [.box [(vci x37), (vci x38), (vci x39)]]⟩
def s109v1 (x33 : Nat) (x34 : FF) (x35 x41 x37 x38 x39 : Int) : St := ⟨(.x (.c (.ro false kV x33 x34)) :: (us 4 (vxi x35 :: vxi x41 :: (us 56 [])))), [.box [(vci x37), (vci x38), (vci x39)]]⟩
def L109v2 {ρ : Type} (fuel : Nat) (x33 : Nat) (x34 : FF) (x35 x37 x38 x39 : Int) : Nat → Int → Int → (Int → Option ρ) → Option ρ
  | 0, _, _, _ => none
  | m + 1, x36, x40, k0 =>
    (bif (decide (x40 < 3)) then (bif (x40 == 0) then (bif (x37 != 0) then (L109v2 fuel x33 x34 x35 x37 x38 x39 m (w64 (x36 + 1)) (w64 (x40 + 1)) k0) else (L109v2 fuel x33 x34 x35 x37 x38 x39 m x36 (w64 (x40 + 1)) k0)) else (bif (x40 == 1) then (bif (x38 != 0) then (L109v2 fuel x33 x34 x35 x37 x38 x39 m (w64 (x36 + 1)) (w64 (x40 + 1)) k0) else (L109v2 fuel x33 x34 x35 x37 x38 x39 m x36 (w64 (x40 + 1)) k0)) else (bif (x40 == 2) then (bif (x39 != 0) then (L109v2 fuel x33 x34 x35 x37 x38 x39 m (w64 (x36 + 1)) (w64 (x40 + 1)) k0) else (L109v2 fuel x33 x34 x35 x37 x38 x39 m x36 (w64 (x40 + 1)) k0)) else none))) else (k0 x36))
theorem nl109v2 {ρ σ : Type} (fuel : Nat) (x33 : Nat) (x34 : FF) (x35 x37 x38 x39 : Int) (g : ρ → Option σ) : ∀ (m : Nat) (x36 x40 : Int) (k0 : Int → Option ρ), ob (L109v2 fuel x33 x34 x35 x37 x38 x39 m x36 x40 k0) g = L109v2 fuel x33 x34 x35 x37 x38 x39 m x36 x40 (fun x41 => ob (k0 x41) g)
  | 0, _, _, _ => rfl
  | m + 1, x36, x40, k0 => by
    simp only [L109v2, ob_bif, ob_ob, ob_none, nl109v2 fuel x33 x34 x35 x37 x38 x39 g m]
theorem r109v2 (fuel : Nat) (m : Nat) {ρ : Type} (k : Ex → St → Option ρ) (x33 : Nat) (x34 : FF) (x35 x37 x38 x39 x36 x40 : Int) :
    loopH (B109v2 (C9 fuel) fuel) N109v2 (m + 1) (s109v0 x33 x34 x35 x36 x37 x38 x39 x40) k =
    (bif (decide (x40 < 3)) then (bif (x40 == 0) then (bif (x37 != 0) then (loopH (B109v2 (C9 fuel) fuel) N109v2 m (s109v0 x33 x34 x35 (w64 (x36 + 1)) x37 x38 x39 (w64 (x40 + 1))) k) else (loopH (B109v2 (C9 fuel) fuel) N109v2 m (s109v0 x33 x34 x35 x36 x37 x38 x39 (w64 (x40 + 1))) k)) else (bif (x40 == 1) then (bif (x38 != 0) then (loopH (B109v2 (C9 fuel) fuel) N109v2 m (s109v0 x33 x34 x35 (w64 (x36 + 1)) x37 x38 x39 (w64 (x40 + 1))) k) else (loopH (B109v2 (C9 fuel) fuel) N109v2 m (s109v0 x33 x34 x35 x36 x37 x38 x39 (w64 (x40 + 1))) k)) else (bif (x40 == 2) then (bif (x39 != 0) then (loopH (B109v2 (C9 fuel) fuel) N109v2 m (s109v0 x33 x34 x35 (w64 (x36 + 1)) x37 x38 x39 (w64 (x40 + 1))) k) else (loopH (B109v2 (C9 fuel) fuel) N109v2 m (s109v0 x33 x34 x35 x36 x37 x38 x39 (w64 (x40 + 1))) k)) else none))) else (k (.exit 2) (s109v1 x33 x34 x35 x36 x37 x38 x39))) := by kernel_rfl
theorem q109v2 (fuel : Nat) (x33 : Nat) (x34 : FF) (x35 x37 x38 x39 : Int) {ρ : Type} (k : Ex → St → Option ρ) : ∀ (m : Nat) (x36 x40 : Int),
    loopH (B109v2 (C9 fuel) fuel) N109v2 m (s109v0 x33 x34 x35 x36 x37 x38 x39 x40) k = L109v2 fuel x33 x34 x35 x37 x38 x39 m x36 x40 (fun x41 => k (.exit 2) (s109v1 x33 x34 x35 x41 x37 x38 x39))
  | 0, _, _ => rfl
  | m + 1, x36, x40 => by
    rw [r109v2]
    simp only [L109v2, q109v2 fuel x33 x34 x35 x37 x38 x39 k m]
def B109v3 (C : Oracle) (fuel : Nat) {ρ : Type} : St → (Ex → St → Option ρ) → Option ρ := fun st k => evalC C fuel A22v7 st k
def N109v3 : St → Option St := fun s => s.norm (rl 1 4 (rl 6 57 [])) 0
def s109v2 (x23 : Nat) (x24 : FF) (x25 : Int) : St := ⟨(.x (.c (.ro false kV x23 x24)) :: (us 4 (vxi x25 :: (us 57 [])))), []⟩
def s109v3 (x43 x44 x45 : Int) : St := ⟨(us 4 (vxb false :: (us 58 []))), [.box [(vci x43), (vci x44), (vci x45)]]⟩
def s109v4 : St := ⟨(us 63 []), []⟩
def L109v3 {ρ : Type} (fuel : Nat) (x23 : Nat) (x24 : FF) : Nat → Int → (Int → Int → Int → Option ρ) → (Option ρ) → Option ρ
  | 0, _, _, _ => none
  | m + 1, x25, k0, k1 =>
    (bif (decide (x25 < (Int.ofNat x23))) then (bif (inb x25 x23) then (bif (inb (w64 (x25 - 1)) x23) then (ob (F108 fuel (CV.int (x24 (Int.toNat x25) 0)) (CV.int (x24 (Int.toNat x25) 1)) (CV.int (x24 (Int.toNat x25) 2)) (CV.int (x24 (Int.toNat (w64 (x25 - 1))) 0)) (CV.int (x24 (Int.toNat (w64 (x25 - 1))) 1)) (CV.int (x24 (Int.toNat (w64 (x25 - 1))) 2))) fun x26 => (L109v2 fuel x23 x24 x25 x26.1 x26.2.1 x26.2.2 fuel 0 0
    (fun x42 => (bif (x42 != 1) then (k0 x26.1 x26.2.1 x26.2.2) else (L109v3 fuel x23 x24 m (w64 (x25 + 1)) k0 k1))))) else none) else none) else k1)
theorem nl109v3 {ρ σ : Type} (fuel : Nat) (x23 : Nat) (x24 : FF) (g : ρ → Option σ) : ∀ (m : Nat) (x25 : Int) (k0 : Int → Int → Int → Option ρ) (k1 : Option ρ), ob (L109v3 fuel x23 x24 m x25 k0 k1) g = L109v3 fuel x23 x24 m x25 (fun x43 x44 x45 => ob (k0 x43 x44 x45) g) (ob k1 g)
  | 0, _, _, _ => rfl
  | m + 1, x25, k0, k1 => by
    simp only [L109v3, ob_bif, ob_ob, ob_none, nl109v3 fuel x23 x24 g m, nl109v2]
def s109v5 (x23 : Nat) (x24 : FF) (x25 : Int) (x26 : Int × Int × Int) : St := ⟨(.x (.c (.ro false kV x23 x24)) :: (us 4 (vxi x25 :: vxi 0 :: .x (.ptr 0 0) :: (us 28 (.x (.c (.ro false kV x23 x24)) :: vxi x25 :: .x (.c (.rp kV (x24 (Int.toNat x25)))) :: .agg [(vci (CV.int (x24 (Int.toNat x25) 0))), (vci (CV.int (x24 (Int.toNat x25) 1))), (vci (CV.int (x24 (Int.toNat x25) 2)))] :: .x (.c (.ro false kV x23 x24)) :: vxi x25 :: vxi (w64 (x25 - 1)) :: .x (.c (.rp kV (x24 (Int.toNat (w64 (x25 - 1)))))) :: .agg [(vci (CV.int (x24 (Int.toNat (w64 (x25 - 1))) 0))), (vci (CV.int (x24 (Int.toNat (w64 (x25 - 1))) 1))), (vci (CV.int (x24 (Int.toNat (w64 (x25 - 1))) 2)))] :: .agg [(vci x26.1), (vci x26.2.1), (vci x26.2.2)] :: .x (.ptr 0 0) :: vxi x26.1 :: .x (.ptr 0 1) :: vxi x26.2.1 :: .x (.ptr 0 2) :: vxi x26.2.2 :: .agg [(vci x26.1), (vci x26.2.1), (vci x26.2.2)] :: vxi 0 :: (us 9 [])))))), [.box [(vci x26.1), (vci x26.2.1), (vci x26.2.2)]]⟩
theorem r109v3 (fuel : Nat) (m : Nat) {ρ : Type} (k : Ex → St → Option ρ) (x23 : Nat) (x24 : FF) (x25 : Int) :
    loopH (B109v3 (C9 fuel) fuel) N109v3 (m + 1) (s109v2 x23 x24 x25) k =
    (bif (decide (x25 < (Int.ofNat x23))) then (bif (inb x25 x23) then (bif (inb (w64 (x25 - 1)) x23) then (ob (F108 fuel (CV.int (x24 (Int.toNat x25) 0)) (CV.int (x24 (Int.toNat x25) 1)) (CV.int (x24 (Int.toNat x25) 2)) (CV.int (x24 (Int.toNat (w64 (x25 - 1))) 0)) (CV.int (x24 (Int.toNat (w64 (x25 - 1))) 1)) (CV.int (x24 (Int.toNat (w64 (x25 - 1))) 2))) fun x26 => (loopN (B109v2 (C9 fuel) fuel) N109v2 fuel (s109v5 x23 x24 x25 x26) (kBlk 2 (kSeq (C9 fuel) fuel (9 :: (rl 46 15 [])) A22v4 (kBlk 1 (kSeq (C9 fuel) fuel (4 :: 6 :: 7 :: 9 :: (rl 36 27 [])) A22v5 (kLoop (B109v3 (C9 fuel) fuel) N109v3 m k))))))) else none) else none) else (k (.exit 0) s109v4)) := by kernel_rfl
theorem t109v1 (fuel : Nat) {ρ : Type} (k : Ex → St → Option ρ) (x23 : Nat) (x24 : FF) (x25 : Int) (x26 : Int × Int × Int) :
    loopN (B109v2 (C9 fuel) fuel) N109v2 fuel (s109v5 x23 x24 x25 x26) k =
    L109v2 fuel x23 x24 x25 x26.1 x26.2.1 x26.2.2 fuel 0 0 (fun x41 => k (.exit 2) (s109v1 x23 x24 x25 x41 x26.1 x26.2.1 x26.2.2)) :=
  (loopN_at (st' := (s109v0 x23 x24 x25 0 x26.1 x26.2.1 x26.2.2 0)) (by kernel_rfl)).trans (q109v2 fuel x23 x24 x25 x26.1 x26.2.1 x26.2.2 k fuel 0 0)
theorem g109v2 (fuel : Nat) (m : Nat) {ρ : Type} (k : Ex → St → Option ρ) (x23 : Nat) (x24 : FF) (x25 x42 : Int) (x26 : Int × Int × Int) :
    (kBlk 2 (kSeq (C9 fuel) fuel (9 :: (rl 46 15 [])) A22v4 (kBlk 1 (kSeq (C9 fuel) fuel (4 :: 6 :: 7 :: 9 :: (rl 36 27 [])) A22v5 (kLoop (B109v3 (C9 fuel) fuel) N109v3 m k))))) (.exit 2) (s109v1 x23 x24 x25 x42 x26.1 x26.2.1 x26.2.2) =
    (bif (x42 != 1) then (k .ret (s109v3 x26.1 x26.2.1 x26.2.2)) else (loopH (B109v3 (C9 fuel) fuel) N109v3 m (s109v2 x23 x24 (w64 (x25 + 1))) k)) := by kernel_rfl
theorem q109v3 (fuel : Nat) (x23 : Nat) (x24 : FF) {ρ : Type} (k : Ex → St → Option ρ) : ∀ (m : Nat) (x25 : Int),
    loopH (B109v3 (C9 fuel) fuel) N109v3 m (s109v2 x23 x24 x25) k = L109v3 fuel x23 x24 m x25 (fun x43 x44 x45 => k .ret (s109v3 x43 x44 x45)) (k (.exit 0) s109v4)
  | 0, _ => rfl
  | m + 1, x25 => by
    rw [r109v3]
    simp only [L109v3, q109v3 fuel x23 x24 k m, t109v1, g109v2]
def D109 {ρ : Type} (fuel : Nat) (x1 : Nat) (x2 : FF) (x3 : Int) (k : Bool → Option ρ) : Option ρ :=
  (bif ((decide ((Int.ofNat x1) < 2)) == false) then (bif ((decide ((Int.ofNat x1) > 32)) == false) then (ob (F104 fuel x1 x2) fun x4 => (bif (x4 == false) then (bif ((decide (x3 < 1)) == false) then (bif (decide (x3 > 10000)) then (k false) else (L109v3 fuel x1 x2 fuel 1
    (fun x46 x47 x48 => (k false))
    (k true))) else (k false)) else (k false))) else (k false)) else (k false))
def F109 (fuel : Nat) (x1 : Nat) (x2 : FF) (x3 : Int) : Option (Bool) := D109 fuel x1 x2 x3 some
theorem f109 {ρ : Type} (fuel : Nat) (x1 : Nat) (x2 : FF) (x3 : Int) (k : (Bool) → Option ρ) : D109 fuel x1 x2 x3 k = ob (F109 fuel x1 x2 x3) k := by
  simp only [F109, D109, ob_bif, ob_ob, ob_none, ob_some, nl109v3]
def s109v6 (x1 : Nat) (x2 : FF) (x3 : Int) : St := ⟨(.x (.c (.ro false kV x1 x2)) :: vxi x3 :: .undef :: .undef :: .u :: vxi 1 :: .undef :: .undef :: .undef :: .undef :: (us 20 [.undef, .undef, .undef, .undef, .undef, .undef, .undef, .undef, .undef, .undef, .undef, .undef, .undef, .undef, .undef, .undef, .undef, .undef, .undef, .undef, .undef, .undef, .undef, .undef, .undef, .undef, .undef, .undef, .undef, .undef, .undef, .undef, .undef])), []⟩
theorem walk109 (fuel : Nat) (x1 : Nat) (x2 : FF) (x3 : Int) :
    evalF (C9 fuel) fuel A22 [.v (.ro false kV x1 x2), .v (vi x3)] =
    (bif ((decide ((Int.ofNat x1) < 2)) == false) then (bif ((decide ((Int.ofNat x1) > 32)) == false) then (ob (F104 fuel x1 x2) fun x4 => (bif (x4 == false) then (bif ((decide (x3 < 1)) == false) then (bif (decide (x3 > 10000)) then (some [.v (.b false)]) else (loopN (B109v3 (C9 fuel) fuel) N109v3 fuel (s109v6 x1 x2 x3) (kBlk 0 (kSeq (C9 fuel) fuel (rl 4 4 (9 :: (rl 30 33 []))) A22v8 (finish A22))))) else (some [.v (.b false)])) else (some [.v (.b false)]))) else (some [.v (.b false)])) else (some [.v (.b false)])) := by kernel_rfl
theorem t109v3 (fuel : Nat) {ρ : Type} (k : Ex → St → Option ρ) (x1 : Nat) (x2 : FF) (x3 : Int) :
    loopN (B109v3 (C9 fuel) fuel) N109v3 fuel (s109v6 x1 x2 x3) k =
    L109v3 fuel x1 x2 fuel 1 (fun x43 x44 x45 => k .ret (s109v3 x43 x44 x45)) (k (.exit 0) s109v4) :=
  (loopN_at (st' := (s109v2 x1 x2 1)) (by kernel_rfl)).trans (q109v3 fuel x1 x2 k fuel 1)
theorem g109v4 (fuel : Nat) (x46 x47 x48 : Int) :
    (kBlk 0 (kSeq (C9 fuel) fuel (rl 4 4 (9 :: (rl 30 33 []))) A22v8 (finish A22))) .ret (s109v3 x46 x47 x48) =
    (some [.v (.b false)]) := by kernel_rfl
theorem g109v5 (fuel : Nat) :
    (kBlk 0 (kSeq (C9 fuel) fuel (rl 4 4 (9 :: (rl 30 33 []))) A22v8 (finish A22))) (.exit 0) s109v4 =
    (some [.v (.b true)]) := by kernel_rfl
theorem e109 (fuel : Nat) (x1 : Nat) (x2 : FF) (x3 : Int) : evalF (C9 fuel) fuel A22 [.v (.ro false kV x1 x2), .v (vi x3)] = ob (F109 fuel x1 x2 x3) fun t => some [.v (.b t)] := by
  rw [walk109, ← f109]
  simp only [D109, t109v3, g109v4, g109v5]
def O109 (fuel : Nat) : Ora where
  o := fun args {ρ} K =>
    wcL kV args fun y4 y5 l2 =>
    wcI .i64 l2 fun y9 l7 =>
    wn l7 <|
    (ob (F109 fuel y4 y5 y9) fun t => K [.v (.b t)])
  nat := fun args {ρ} K => by
    simp only [bind_wcI, bind_wcL, bind_wn, bind_ob, Option.bind_some]
theorem d109 {P : Program} (fuel : Nat) (hmix : P.follows .mixedOrders = true) (hC : Sound P (C9 fuel)) (hF : FFits P 22 A22) (args res : List A) (h : (O109 fuel).o args some = some res) : Den P 22 args res := by
  obtain ⟨a1, y4, y5, l2, rfl, h3, z0⟩ := inv_wcL h
  obtain ⟨a6, y9, l7, rfl, h8, z1⟩ := inv_wcI z0
  obtain ⟨hn, z2⟩ := inv_wn z1
  cases hn
  exact Den.weaken (.cons h3 (.cons h8 .nil)) (evalF_sound hmix hC hF ((e109 fuel y4 y5 y9).trans z2))
def C10 (fuel : Nat) : Oracle := (C9 fuel).add 22 (fun _ => true) (O109 fuel)
def A42v1 : AC := (.seq (.region 3 [mv 9 0, o1 2 (sg 9)] 0 none) []
  (.ret (0 :: 1 :: (rl 3 7 []))))
def A42 : AF := ⟨10, [.tmp 2],
  (.seq (.region 0 [o1 2 (sk 0)] 0 none) []
  (.seq (.seq (.region 1 [mv 3 0, o1 4 (bk .lss 3 3 0), mv 5 4, og 6 (.move (tm 0)) 5 false, og 7 (bk .geq 3 6 24) 5 false, o1 8 (pa 5 7)] 0 none) []
  (.cond (tm 8)
  (.seq (.region 2 [o1 2 (sk 0)] 0 none) []
    (.ret (0 :: 1 :: (rl 3 7 []))))
  .skip)) (rl 2 7 [])
  A42v1))⟩
def D110 {ρ : Type} (fuel : Nat) (x1 : Int) (k : Int → Option ρ) : Option ρ :=
  (bif ((decide (x1 < 0)) == false) then (bif (decide (x1 ≥ 24)) then (k 0) else (k x1)) else (k 0))
def F110 (fuel : Nat) (x1 : Int) : Option (Int) := D110 fuel x1 some
theorem f110 {ρ : Type} (fuel : Nat) (x1 : Int) (k : (Int) → Option ρ) : D110 fuel x1 k = ob (F110 fuel x1) k := by
  simp only [F110, D110, ob_bif, ob_ob, ob_none, ob_some]
theorem walk110 (fuel : Nat) (x1 : Int) :
    evalF (C10 fuel) fuel A42 [.v (vi x1)] =
    (bif ((decide (x1 < 0)) == false) then (bif (decide (x1 ≥ 24)) then (some [.v (vi 0)]) else (some [.v (vi x1)])) else (some [.v (vi 0)])) := by kernel_rfl
theorem e110 (fuel : Nat) (x1 : Int) : evalF (C10 fuel) fuel A42 [.v (vi x1)] = ob (F110 fuel x1) fun t => some [.v (vi t)] := by
  rw [walk110, ← f110]
  simp only [D110]
def O110 (fuel : Nat) : Ora where
  o := fun args {ρ} K =>
    wcI .i64 args fun y4 l2 =>
    wn l2 <|
    (ob (F110 fuel y4) fun t => K [.v (vi t)])
  nat := fun args {ρ} K => by
    simp only [bind_wcI, bind_wn, bind_ob, Option.bind_some]
theorem d110 {P : Program} (fuel : Nat) (hmix : P.follows .mixedOrders = true) (hC : Sound P (C10 fuel)) (hF : FFits P 42 A42) (args res : List A) (h : (O110 fuel).o args some = some res) : Den P 42 args res := by
  obtain ⟨a1, y4, l2, rfl, h3, z0⟩ := inv_wcI h
  obtain ⟨hn, z1⟩ := inv_wn z0
  cases hn
  exact Den.weaken (.cons h3 .nil) (evalF_sound hmix hC hF ((e110 fuel y4).trans z1))
def C11 (fuel : Nat) : Oracle := (C10 fuel).add 42 (fun _ => true) (O110 fuel)
def A18 : AF := ⟨14, [.tmp 2],
  (.seq (.region 0 [o1 1 (bx 0 29 0), o1 2 (sb false)] 1 none) []
  (.seq (.region 1 [o1 3 (fa 29 1 0 0), o1 4 (ln 27 3 3), o1 5 (.call 41 [(tm 4), (ic 524288)] [27, 3] .snap), mv 6 5, og 7 (fa 29 1 1 3) 6 true, og 8 (lo 3 7) 6 true, og 9 (fa 29 1 1 3) 6 true, og 10 (lo 3 9) 6 true, og 11 (cs 42 [10] [3]) 6 true, og 12 (bt .eql 3 8 11) 6 true, o1 13 (po 6 12), o1 2 (sg 13)] 0 (some [[], [0], [0, 1], [0, 1, 2], (rl 0 4 []), (rl 0 5 []), (rl 0 4 []), (rl 0 4 [6]), (rl 0 4 [6, 7]), (rl 0 9 []), (rl 0 10 []), (rl 0 11 [])])) []
  (.ret (0 :: 1 :: (rl 3 11 [])))))⟩
def D111 {ρ : Type} (fuel : Nat) (x1 x2 x3 x4 : Int) (k : Bool → Option ρ) : Option ρ :=
  (ob (F105 fuel x1 x2 x3 524288) fun x7 => (bif (x7 == true) then (ob (F110 fuel x4) fun x8 => (k (x4 == x8))) else (k false)))
def F111 (fuel : Nat) (x1 x2 x3 x4 : Int) : Option (Bool) := D111 fuel x1 x2 x3 x4 some
theorem f111 {ρ : Type} (fuel : Nat) (x1 x2 x3 x4 : Int) (k : (Bool) → Option ρ) : D111 fuel x1 x2 x3 x4 k = ob (F111 fuel x1 x2 x3 x4) k := by
  simp only [F111, D111, ob_bif, ob_ob, ob_none, ob_some]
theorem walk111 (fuel : Nat) (x1 x2 x3 x4 : Int) :
    evalF (C11 fuel) fuel A18 [.agg [(vi x1), (vi x2), (vi x3), (vi x4)]] =
    (ob (F105 fuel x1 x2 x3 524288) fun x7 => (bif (x7 == true) then (ob (F110 fuel x4) fun x8 => (some [.v (.b (x4 == x8))])) else (some [.v (.b false)]))) := by kernel_rfl
theorem e111 (fuel : Nat) (x1 x2 x3 x4 : Int) : evalF (C11 fuel) fuel A18 [.agg [(vi x1), (vi x2), (vi x3), (vi x4)]] = ob (F111 fuel x1 x2 x3 x4) fun t => some [.v (.b t)] := by
  rw [walk111, ← f111]
  simp only [D111]
def O111 (fuel : Nat) : Ora where
  o := fun args {ρ} K =>
    wc args fun a1 l2 =>
    wagg a1 fun l3 =>
    wdI .i64 l3 fun y7 l5 =>
    wdI .i64 l5 fun y11 l9 =>
    wdI .i64 l9 fun y15 l13 =>
    wdI .i64 l13 fun y19 l17 =>
    wn l17 <|
    wn l2 <|
    (ob (F111 fuel y7 y11 y15 y19) fun t => K [.v (.b t)])
  nat := fun args {ρ} K => by
    simp only [bind_wagg, bind_wc, bind_wdI, bind_wn, bind_ob, Option.bind_some]
theorem d111 {P : Program} (fuel : Nat) (hmix : P.follows .mixedOrders = true) (hC : Sound P (C11 fuel)) (hF : FFits P 18 A18) (args res : List A) (h : (O111 fuel).o args some = some res) : Den P 18 args res := by
  obtain ⟨a1, l2, rfl, z0⟩ := inv_wc h
  obtain ⟨l3, rfl, z1⟩ := inv_wagg z0
  obtain ⟨a4, y7, l5, rfl, h6, z2⟩ := inv_wdI z1
  obtain ⟨a8, y11, l9, rfl, h10, z3⟩ := inv_wdI z2
  obtain ⟨a12, y15, l13, rfl, h14, z4⟩ := inv_wdI z3
  obtain ⟨a16, y19, l17, rfl, h18, z5⟩ := inv_wdI z4
  obtain ⟨hn, z6⟩ := inv_wn z5
  cases hn
  obtain ⟨hn, z7⟩ := inv_wn z6
  cases hn
  exact Den.weaken (.cons (WkA.agg (.cons h6 (.cons h10 (.cons h14 (.cons h18 .nil))))) .nil) (evalF_sound hmix hC hF ((e111 fuel y7 y11 y15 y19).trans z7))
def C12 (fuel : Nat) : Oracle := (C11 fuel).add 18 (fun _ => true) (O111 fuel)
def A28 : AF := ⟨7, [.cell 2 25 (some 2)],
  (.seq (.region 0 [o1 1 (bx 0 31 0), o1 2 (.alloc 1 25 [vcn, vcn])] 2 none) []
  (.seq (.region 1 [o1 3 (fa 31 1 6 6), o1 4 (fa 25 3 0 0), o1 5 (lo 22 4), o1 6 (.build 25 [vcn, vcn] [(0, 1), (1, 1)] 0 [(0, (tm 5))]), o0 (.store 25 2 (tm 2) (tm 6))] 0 none) []
  (.ret (0 :: 1 :: (rl 3 4 [])))))⟩
def D112 {ρ : Type} (fuel : Nat) (x1 : Nat → CV) (k : (Nat × FF × Nat × FF) → Option ρ) : Option ρ :=
  (k ((CV.len (x1 6)), (CV.el (x1 6)), 0, (fun _ _ => .any)))
def FT112 (fuel : Nat) (x1 : Nat → CV) : Option (Nat × FF × Nat × FF) := D112 fuel x1 some
theorem f112 {ρ : Type} (fuel : Nat) (x1 : Nat → CV) (k : (Nat × FF × Nat × FF) → Option ρ) : D112 fuel x1 k = ob (FT112 fuel x1) k := by
  simp only [FT112, D112, ob_bif, ob_ob, ob_none, ob_some]
theorem walk112 (fuel : Nat) (x1 : Nat → CV) :
    evalF (C12 fuel) fuel A28 [.agg (pj kR0 x1)] =
    (some [.agg [(.ro false kP (CV.len (x1 6)) (CV.el (x1 6))), (.ro true .nil 0 nilF)]]) := by kernel_rfl
theorem e112 (fuel : Nat) (x1 : Nat → CV) : evalF (C12 fuel) fuel A28 [.agg (pj kR0 x1)] = ob (FT112 fuel x1) fun t => some [.agg [(.ro false kP t.1 t.2.1), (.ro true .nil 0 nilF)]] := by
  rw [walk112, ← f112]
  simp only [D112]
def F112 (fuel : Nat) (x1 : Nat → CV) : Option (Nat × FF × Nat × FF) := ob (FT112 fuel x1) fun t => some (t.1, t.2.1, 0, (fun _ _ => .any))
def O112 (fuel : Nat) : Ora where
  o := fun args {ρ} K =>
    wc args fun a1 l2 =>
    wrow kR0 a1 fun y3 =>
    wn l2 <|
    (ob (F112 fuel y3) fun t => K [.agg [(.ro false kP t.1 t.2.1), (.ro false (.pr (.sl kP) .nil) t.2.2.1 t.2.2.2)]])
  nat := fun args {ρ} K => by
    simp only [bind_wc, bind_wn, bind_wrow, bind_ob, Option.bind_some]
theorem d112 {P : Program} (fuel : Nat) (hmix : P.follows .mixedOrders = true) (hC : Sound P (C12 fuel)) (hF : FFits P 28 A28) (args res : List A) (h : (O112 fuel).o args some = some res) : Den P 28 args res := by
  obtain ⟨a1, l2, rfl, z0⟩ := inv_wc h
  obtain ⟨y3, h4, z1⟩ := inv_wrow z0
  obtain ⟨hn, z2⟩ := inv_wn z1
  cases hn
  obtain ⟨u, hu, hr⟩ := ob_inv z2
  cases hr
  obtain ⟨t, ht, hv⟩ := ob_inv (show ob (FT112 fuel y3) _ = some u from hu)
  cases hv
  refine Den.results ?_ (Den.weaken (.cons h4 .nil) (evalF_sound hmix hC hF ((e112 fuel y3).trans (by rw [ht]; rfl))))
  exact (.cons (WkA.agg (.cons (Wk.refl _) (.cons (Wk.ro (by rfl)) .nil))) .nil)
def C13 (fuel : Nat) : Oracle := (C12 fuel).add 28 (fun _ => true) (O112 fuel)
def A86 : AF := ⟨21, [.tmp 2],
  (.seq (.region 0 [o1 1 (bx 0 40 0), o1 2 (sb false)] 1 none) []
  (.seq (.region 1 [o1 3 (fa 40 1 0 0), o1 4 (lo 3 3), o1 5 (bk .lss 3 4 (-32768)), mv 6 5, og 7 (fa 40 1 0 0) 6 false, og 8 (lo 3 7) 6 false, og 9 (bk .gtr 3 8 32768) 6 false, o1 10 (pa 6 9), mv 11 10, og 12 (fa 40 1 1 1) 11 false, og 13 (lo 3 12) 11 false, og 14 (bk .lss 3 13 (-32768)) 11 false, o1 15 (pa 11 14), mv 16 15, og 17 (fa 40 1 1 1) 16 false, og 18 (lo 3 17) 16 false, og 19 (bk .gtr 3 18 32768) 16 false, o1 20 (pa 16 19), o1 2 (sg 20)] 0 none) []
  (.ret (0 :: 1 :: (rl 3 18 [])))))⟩
def D61 {ρ : Type} (fuel : Nat) (x1 x2 : Int) (k : Bool → Option ρ) : Option ρ :=
  (bif ((decide (x1 < (-32768))) == false) then (bif ((decide (x1 > 32768)) == false) then (bif ((decide (x2 < (-32768))) == false) then (k (decide (x2 > 32768))) else (k true)) else (k true)) else (k true))
def F61 (fuel : Nat) (x1 x2 : Int) : Option (Bool) := D61 fuel x1 x2 some
theorem f61 {ρ : Type} (fuel : Nat) (x1 x2 : Int) (k : (Bool) → Option ρ) : D61 fuel x1 x2 k = ob (F61 fuel x1 x2) k := by
  simp only [F61, D61, ob_bif, ob_ob, ob_none, ob_some]
theorem walk61 (fuel : Nat) (x1 x2 : Int) :
    evalF (C13 fuel) fuel A86 [.agg [(vi x1), (vi x2)]] =
    (bif ((decide (x1 < (-32768))) == false) then (bif ((decide (x1 > 32768)) == false) then (bif ((decide (x2 < (-32768))) == false) then (some [.v (.b (decide (x2 > 32768)))]) else (some [.v (.b true)])) else (some [.v (.b true)])) else (some [.v (.b true)])) := by kernel_rfl
theorem e61 (fuel : Nat) (x1 x2 : Int) : evalF (C13 fuel) fuel A86 [.agg [(vi x1), (vi x2)]] = ob (F61 fuel x1 x2) fun t => some [.v (.b t)] := by
  rw [walk61, ← f61]
  simp only [D61]
def O61 (fuel : Nat) : Ora where
  o := fun args {ρ} K =>
    wc args fun a1 l2 =>
    wagg a1 fun l3 =>
    wdI .i64 l3 fun y7 l5 =>
    wdI .i64 l5 fun y11 l9 =>
    wn l9 <|
    wn l2 <|
    (ob (F61 fuel y7 y11) fun t => K [.v (.b t)])
  nat := fun args {ρ} K => by
    simp only [bind_wagg, bind_wc, bind_wdI, bind_wn, bind_ob, Option.bind_some]
theorem d61 {P : Program} (fuel : Nat) (hmix : P.follows .mixedOrders = true) (hC : Sound P (C13 fuel)) (hF : FFits P 86 A86) (args res : List A) (h : (O61 fuel).o args some = some res) : Den P 86 args res := by
  obtain ⟨a1, l2, rfl, z0⟩ := inv_wc h
  obtain ⟨l3, rfl, z1⟩ := inv_wagg z0
  obtain ⟨a4, y7, l5, rfl, h6, z2⟩ := inv_wdI z1
  obtain ⟨a8, y11, l9, rfl, h10, z3⟩ := inv_wdI z2
  obtain ⟨hn, z4⟩ := inv_wn z3
  cases hn
  obtain ⟨hn, z5⟩ := inv_wn z4
  cases hn
  exact Den.weaken (.cons (WkA.agg (.cons h6 (.cons h10 .nil))) .nil) (evalF_sound hmix hC hF ((e61 fuel y7 y11).trans z5))
def C14 (fuel : Nat) : Oracle := (C13 fuel).add 86 (fun _ => true) (O61 fuel)
def A97v1 : AC := (.region 6 [o1 18 (bk .add 3 8 1), mv 8 18] 0 none)
def A97v2 : AC := (.seq (.block 1
  (.seq (.region 3 [mv 10 8, o1 5 (sg 10)] 0 none) []
    (.seq (.region 4 [mv 11 1, mv 12 0, mv 13 5, o1 14 (.indexAddr 22 40 2 (tm 12) (tm 13)), o1 15 (ln 40 2 14), o1 16 (.callv (tm 11) [(tm 15)] [40] .snap)] 0 none) []
    (.cond (tm 16)
    (.seq (.region 5 [mv 17 5, o1 4 (sg 17)] 0 none) []
      (.ret (rl 0 4 (rl 5 14 []))))
    .skip)))) (4 :: 5 :: (rl 10 8 []))
  A97v1)
def A97v3 : AC := (.seq (.region 2 [o1 9 (bt .lss 3 8 7)] 0 none) []
  (.seq (.cond (tm 9)
  .skip
  (.exit 0 (rl 0 19 []))) []
  A97v2))
def A97v4 : AC := (.seq (.region 7 [o1 4 (sk (-1))] 0 none) []
  (.ret (rl 0 4 (rl 5 14 []))))
def A97 : AF := ⟨19, [.tmp 4],
  (.seq (.region 0 [o1 4 (sk 0)] 0 none) []
  (.seq (.seq (.region 1 [mv 6 0, o1 7 (.len 22 false (tm 6)), o1 8 (.move (ic 0))] 0 none) []
  (.block 0
  (.loop [] (rl 2 5 (rl 9 10 []))
    A97v3))) (rl 4 15 [])
  A97v4))⟩
def B73v1 (C : Oracle) (fuel : Nat) {ρ : Type} : St → (Ex → St → Option ρ) → Option ρ := fun st k => evalC C fuel A97v3 st k
def N73v1 : St → Option St := fun s => s.norm (rl 2 5 (rl 9 10 [])) 0
def s73v0 (x7 : Nat) (x8 : FF) (x9 x10 : Int) : St := ⟨(.x (.c (.ro false kP x7 x8)) :: .x (.c (.fn 86 0 (listF []))) :: (us 5 (vxi x9 :: vxi x10 :: (us 10 [])))), []⟩
def s73v1 (x12 : Int) : St := ⟨(us 4 (vxi x12 :: (us 14 []))), []⟩
def s73v2 : St := ⟨(us 19 []), []⟩
def L73v1 {ρ : Type} (fuel : Nat) (x7 : Nat) (x8 : FF) (x9 : Int) : Nat → Int → (Int → Option ρ) → (Option ρ) → Option ρ
  | 0, _, _, _ => none
  | m + 1, x10, k0, k1 =>
    (bif (decide (x10 < x9)) then (bif (inb x10 x7) then (ob (F61 fuel (CV.int (x8 (Int.toNat x10) 0)) (CV.int (x8 (Int.toNat x10) 1))) fun x11 => (bif x11 then (k0 x10) else (L73v1 fuel x7 x8 x9 m (w64 (x10 + 1)) k0 k1))) else none) else k1)
theorem nl73v1 {ρ σ : Type} (fuel : Nat) (x7 : Nat) (x8 : FF) (x9 : Int) (g : ρ → Option σ) : ∀ (m : Nat) (x10 : Int) (k0 : Int → Option ρ) (k1 : Option ρ), ob (L73v1 fuel x7 x8 x9 m x10 k0 k1) g = L73v1 fuel x7 x8 x9 m x10 (fun x12 => ob (k0 x12) g) (ob k1 g)
  | 0, _, _, _ => rfl
  | m + 1, x10, k0, k1 => by
    simp only [L73v1, ob_bif, ob_ob, ob_none, nl73v1 fuel x7 x8 x9 g m]
theorem r73v1 (fuel : Nat) (m : Nat) {ρ : Type} (k : Ex → St → Option ρ) (x7 : Nat) (x8 : FF) (x9 x10 : Int) :
    loopH (B73v1 (C14 fuel) fuel) N73v1 (m + 1) (s73v0 x7 x8 x9 x10) k =
    (bif (decide (x10 < x9)) then (bif (inb x10 x7) then (ob (F61 fuel (CV.int (x8 (Int.toNat x10) 0)) (CV.int (x8 (Int.toNat x10) 1))) fun x11 => (bif x11 then (k .ret (s73v1 x10)) else (loopH (B73v1 (C14 fuel) fuel) N73v1 m (s73v0 x7 x8 x9 (w64 (x10 + 1))) k))) else none) else (k (.exit 0) s73v2)) := by kernel_rfl
theorem q73v1 (fuel : Nat) (x7 : Nat) (x8 : FF) (x9 : Int) {ρ : Type} (k : Ex → St → Option ρ) : ∀ (m : Nat) (x10 : Int),
    loopH (B73v1 (C14 fuel) fuel) N73v1 m (s73v0 x7 x8 x9 x10) k = L73v1 fuel x7 x8 x9 m x10 (fun x12 => k .ret (s73v1 x12)) (k (.exit 0) s73v2)
  | 0, _ => rfl
  | m + 1, x10 => by
    rw [r73v1]
    simp only [L73v1, q73v1 fuel x7 x8 x9 k m]
def D73 {ρ : Type} (fuel : Nat) (x1 : Nat) (x2 : FF) (k : Int → Option ρ) : Option ρ :=
  (L73v1 fuel x1 x2 (Int.ofNat x1) fuel 0
    (fun x13 => (k x13))
    (k (-1)))
def F73 (fuel : Nat) (x1 : Nat) (x2 : FF) : Option (Int) := D73 fuel x1 x2 some
theorem f73 {ρ : Type} (fuel : Nat) (x1 : Nat) (x2 : FF) (k : (Int) → Option ρ) : D73 fuel x1 x2 k = ob (F73 fuel x1 x2) k := by
  simp only [F73, D73, ob_bif, ob_ob, ob_none, ob_some, nl73v1]
def s73v3 (x1 : Nat) (x2 : FF) : St := ⟨[.x (.c (.ro false kP x1 x2)), .x (.c (.fn 86 0 (listF []))), .undef, .undef, vxi 0, .undef, .x (.c (.ro false kP x1 x2)), vxi (Int.ofNat x1), vxi 0, .undef, .undef, .undef, .undef, .undef, .undef, .undef, .undef, .undef, .undef], []⟩
theorem walk73 (fuel : Nat) (x1 : Nat) (x2 : FF) :
    evalF (C14 fuel) fuel A97 [.v (.ro false kP x1 x2), .v (.fn 86 0 (listF []))] =
    (loopN (B73v1 (C14 fuel) fuel) N73v1 fuel (s73v3 x1 x2) (kBlk 0 (kSeq (C14 fuel) fuel (rl 4 15 []) A97v4 (finish A97)))) := by kernel_rfl
theorem t73v1 (fuel : Nat) {ρ : Type} (k : Ex → St → Option ρ) (x1 : Nat) (x2 : FF) :
    loopN (B73v1 (C14 fuel) fuel) N73v1 fuel (s73v3 x1 x2) k =
    L73v1 fuel x1 x2 (Int.ofNat x1) fuel 0 (fun x12 => k .ret (s73v1 x12)) (k (.exit 0) s73v2) :=
  (loopN_at (st' := (s73v0 x1 x2 (Int.ofNat x1) 0)) (by kernel_rfl)).trans (q73v1 fuel x1 x2 (Int.ofNat x1) k fuel 0)
theorem g73v2 (fuel : Nat) (x13 : Int) :
    (kBlk 0 (kSeq (C14 fuel) fuel (rl 4 15 []) A97v4 (finish A97))) .ret (s73v1 x13) =
    (some [.v (vi x13)]) := by kernel_rfl
theorem g73v3 (fuel : Nat) :
    (kBlk 0 (kSeq (C14 fuel) fuel (rl 4 15 []) A97v4 (finish A97))) (.exit 0) s73v2 =
    (some [.v (vi (-1))]) := by kernel_rfl
theorem e73 (fuel : Nat) (x1 : Nat) (x2 : FF) : evalF (C14 fuel) fuel A97 [.v (.ro false kP x1 x2), .v (.fn 86 0 (listF []))] = ob (F73 fuel x1 x2) fun t => some [.v (vi t)] := by
  rw [walk73, ← f73]
  simp only [D73, t73v1, g73v2, g73v3]
def O73 (fuel : Nat) : Ora where
  o := fun args {ρ} K =>
    wcL kP args fun y4 y5 l2 =>
    wc l2 fun a6 l7 =>
    wv a6 fun c8 =>
    wFn 86 0 c8 fun y9 =>
    wn l7 <|
    (ob (F73 fuel y4 y5) fun t => K [.v (vi t)])
  nat := fun args {ρ} K => by
    simp only [bind_wFn, bind_wc, bind_wcL, bind_wn, bind_wv, bind_ob, Option.bind_some]
theorem d73 {P : Program} (fuel : Nat) (hmix : P.follows .mixedOrders = true) (hC : Sound P (C14 fuel)) (hF : FFits P 97 A97) (args res : List A) (h : (O73 fuel).o args some = some res) : Den P 97 args res := by
  obtain ⟨a1, y4, y5, l2, rfl, h3, z0⟩ := inv_wcL h
  obtain ⟨a6, l7, rfl, z1⟩ := inv_wc z0
  obtain ⟨c8, rfl, z2⟩ := inv_wv z1
  obtain ⟨y9, h10, z3⟩ := inv_wFn z2
  obtain ⟨hn, z4⟩ := inv_wn z3
  cases hn
  exact Den.weaken (.cons h3 (.cons (WkA.v (wk_fn0 h10)) .nil)) (evalF_sound hmix hC hF ((e73 fuel y4 y5).trans z4))
def C15 (fuel : Nat) : Oracle := (C14 fuel).add 97 (fun l => isFn 86 l 1) (O73 fuel)
def A85 : AF := ⟨9, [.tmp 4],
  (.seq (.region 0 [o1 4 (sb false)] 0 none) []
  (.seq (.region 1 [mv 5 0, mv 6 1, o1 7 (cs 97 [5, 6] [22, 97]), o1 8 (bk .geq 3 7 0), o1 4 (sg 8)] 0 none) []
  (.ret (rl 0 4 (rl 5 4 [])))))⟩
def D50 {ρ : Type} (fuel : Nat) (x1 : Nat) (x2 : FF) (k : Bool → Option ρ) : Option ρ :=
  (ob (F73 fuel x1 x2) fun x3 => (k (decide (x3 ≥ 0))))
def F50 (fuel : Nat) (x1 : Nat) (x2 : FF) : Option (Bool) := D50 fuel x1 x2 some
theorem f50 {ρ : Type} (fuel : Nat) (x1 : Nat) (x2 : FF) (k : (Bool) → Option ρ) : D50 fuel x1 x2 k = ob (F50 fuel x1 x2) k := by
  simp only [F50, D50, ob_bif, ob_ob, ob_none, ob_some]
theorem walk50 (fuel : Nat) (x1 : Nat) (x2 : FF) :
    evalF (C15 fuel) fuel A85 [.v (.ro false kP x1 x2), .v (.fn 86 0 (listF []))] =
    (ob (F73 fuel x1 x2) fun x3 => (some [.v (.b (decide (x3 ≥ 0)))])) := by kernel_rfl
theorem e50 (fuel : Nat) (x1 : Nat) (x2 : FF) : evalF (C15 fuel) fuel A85 [.v (.ro false kP x1 x2), .v (.fn 86 0 (listF []))] = ob (F50 fuel x1 x2) fun t => some [.v (.b t)] := by
  rw [walk50, ← f50]
  simp only [D50]
def O50 (fuel : Nat) : Ora where
  o := fun args {ρ} K =>
    wcL kP args fun y4 y5 l2 =>
    wc l2 fun a6 l7 =>
    wv a6 fun c8 =>
    wFn 86 0 c8 fun y9 =>
    wn l7 <|
    (ob (F50 fuel y4 y5) fun t => K [.v (.b t)])
  nat := fun args {ρ} K => by
    simp only [bind_wFn, bind_wc, bind_wcL, bind_wn, bind_wv, bind_ob, Option.bind_some]
theorem d50 {P : Program} (fuel : Nat) (hmix : P.follows .mixedOrders = true) (hC : Sound P (C15 fuel)) (hF : FFits P 85 A85) (args res : List A) (h : (O50 fuel).o args some = some res) : Den P 85 args res := by
  obtain ⟨a1, y4, y5, l2, rfl, h3, z0⟩ := inv_wcL h
  obtain ⟨a6, l7, rfl, z1⟩ := inv_wc z0
  obtain ⟨c8, rfl, z2⟩ := inv_wv z1
  obtain ⟨y9, h10, z3⟩ := inv_wFn z2
  obtain ⟨hn, z4⟩ := inv_wn z3
  cases hn
  exact Den.weaken (.cons h3 (.cons (WkA.v (wk_fn0 h10)) .nil)) (evalF_sound hmix hC hF ((e50 fuel y4 y5).trans z4))
def C16 (fuel : Nat) : Oracle := (C15 fuel).add 85 (fun l => isFn 86 l 1) (O50 fuel)
def A93 : AF := ⟨30, [.tmp 6],
  (.seq (.region 0 [o1 3 (bx 0 40 0), o1 4 (bx 1 40 1), o1 5 (bx 2 40 2), o1 6 (sk 0)] 3 none) []
  (.seq (.region 1 [o1 7 (fa 40 4 0 0), o1 8 (lo 3 7), o1 9 (fa 40 3 0 0), o1 10 (lo 3 9), o1 11 (bt .sub 3 8 10), o1 12 (fa 40 5 1 1), o1 13 (lo 3 12), o1 14 (fa 40 3 1 1), o1 15 (lo 3 14), o1 16 (bt .sub 3 13 15), o1 17 (bt .mul 3 11 16), o1 18 (fa 40 4 1 1), o1 19 (lo 3 18), o1 20 (fa 40 3 1 1), o1 21 (lo 3 20), o1 22 (bt .sub 3 19 21), o1 23 (fa 40 5 0 0), o1 24 (lo 3 23), o1 25 (fa 40 3 0 0), o1 26 (lo 3 25), o1 27 (bt .sub 3 24 26), o1 28 (bt .mul 3 22 27), o1 29 (bt .sub 3 17 28), o1 6 (sg 29)] 0 none) []
  (.ret (rl 0 6 (rl 7 23 [])))))⟩
def D79 {ρ : Type} (fuel : Nat) (x1 x2 x3 x4 x5 x6 : Int) (k : Int → Option ρ) : Option ρ :=
  (k (w64 ((w64 ((w64 (x3 - x1)) * (w64 (x6 - x2)))) - (w64 ((w64 (x4 - x2)) * (w64 (x5 - x1)))))))
def F79 (fuel : Nat) (x1 x2 x3 x4 x5 x6 : Int) : Option (Int) := D79 fuel x1 x2 x3 x4 x5 x6 some
theorem f79 {ρ : Type} (fuel : Nat) (x1 x2 x3 x4 x5 x6 : Int) (k : (Int) → Option ρ) : D79 fuel x1 x2 x3 x4 x5 x6 k = ob (F79 fuel x1 x2 x3 x4 x5 x6) k := by
  simp only [F79, D79, ob_bif, ob_ob, ob_none, ob_some]
theorem walk79 (fuel : Nat) (x1 x2 x3 x4 x5 x6 : Int) :
    evalF (C16 fuel) fuel A93 [.agg [(vi x1), (vi x2)], .agg [(vi x3), (vi x4)], .agg [(vi x5), (vi x6)]] =
    (some [.v (vi (w64 ((w64 ((w64 (x3 - x1)) * (w64 (x6 - x2)))) - (w64 ((w64 (x4 - x2)) * (w64 (x5 - x1)))))))]) := by kernel_rfl
theorem e79 (fuel : Nat) (x1 x2 x3 x4 x5 x6 : Int) : evalF (C16 fuel) fuel A93 [.agg [(vi x1), (vi x2)], .agg [(vi x3), (vi x4)], .agg [(vi x5), (vi x6)]] = ob (F79 fuel x1 x2 x3 x4 x5 x6) fun t => some [.v (vi t)] := by
  rw [walk79, ← f79]
  simp only [D79]
def O79 (fuel : Nat) : Ora where
  o := fun args {ρ} K =>
    wc args fun a1 l2 =>
    wagg a1 fun l3 =>
    wdI .i64 l3 fun y7 l5 =>
    wdI .i64 l5 fun y11 l9 =>
    wn l9 <|
    wc l2 fun a12 l13 =>
    wagg a12 fun l14 =>
    wdI .i64 l14 fun y18 l16 =>
    wdI .i64 l16 fun y22 l20 =>
    wn l20 <|
    wc l13 fun a23 l24 =>
    wagg a23 fun l25 =>
    wdI .i64 l25 fun y29 l27 =>
    wdI .i64 l27 fun y33 l31 =>
    wn l31 <|
    wn l24 <|
    (ob (F79 fuel y7 y11 y18 y22 y29 y33) fun t => K [.v (vi t)])
  nat := fun args {ρ} K => by
    simp only [bind_wagg, bind_wc, bind_wdI, bind_wn, bind_ob, Option.bind_some]
theorem d79 {P : Program} (fuel : Nat) (hmix : P.follows .mixedOrders = true) (hC : Sound P (C16 fuel)) (hF : FFits P 93 A93) (args res : List A) (h : (O79 fuel).o args some = some res) : Den P 93 args res := by
  obtain ⟨a1, l2, rfl, z0⟩ := inv_wc h
  obtain ⟨l3, rfl, z1⟩ := inv_wagg z0
  obtain ⟨a4, y7, l5, rfl, h6, z2⟩ := inv_wdI z1
  obtain ⟨a8, y11, l9, rfl, h10, z3⟩ := inv_wdI z2
  obtain ⟨hn, z4⟩ := inv_wn z3
  cases hn
  obtain ⟨a12, l13, rfl, z5⟩ := inv_wc z4
  obtain ⟨l14, rfl, z6⟩ := inv_wagg z5
  obtain ⟨a15, y18, l16, rfl, h17, z7⟩ := inv_wdI z6
  obtain ⟨a19, y22, l20, rfl, h21, z8⟩ := inv_wdI z7
  obtain ⟨hn, z9⟩ := inv_wn z8
  cases hn
  obtain ⟨a23, l24, rfl, z10⟩ := inv_wc z9
  obtain ⟨l25, rfl, z11⟩ := inv_wagg z10
  obtain ⟨a26, y29, l27, rfl, h28, z12⟩ := inv_wdI z11
  obtain ⟨a30, y33, l31, rfl, h32, z13⟩ := inv_wdI z12
  obtain ⟨hn, z14⟩ := inv_wn z13
  cases hn
  obtain ⟨hn, z15⟩ := inv_wn z14
  cases hn
  exact Den.weaken (.cons (WkA.agg (.cons h6 (.cons h10 .nil))) (.cons (WkA.agg (.cons h17 (.cons h21 .nil))) (.cons (WkA.agg (.cons h28 (.cons h32 .nil))) .nil))) (evalF_sound hmix hC hF ((e79 fuel y7 y11 y18 y22 y29 y33).trans z15))
def C17 (fuel : Nat) : Oracle := (C16 fuel).add 93 (fun _ => true) (O79 fuel)
def A102 : AF := ⟨45, [.tmp 6],
  (.seq (.region 0 [o1 3 (bx 0 40 0), o1 4 (bx 1 40 1), o1 5 (bx 2 40 2), o1 6 (sb false)] 3 none) []
  (.seq (.region 1 [o1 7 (fa 40 3 0 0), o1 8 (lo 3 7), o1 9 (fa 40 4 0 0), o1 10 (lo 3 9), o1 11 (.mm false [(tm 8), (tm 10)] [3, 3]), o1 12 (fa 40 5 0 0), o1 13 (lo 3 12), o1 14 (bt .leq 3 11 13), mv 15 14, og 16 (fa 40 5 0 0) 15 true, og 17 (lo 3 16) 15 true, og 18 (fa 40 3 0 0) 15 true, og 19 (lo 3 18) 15 true, og 20 (fa 40 4 0 0) 15 true, og 21 (lo 3 20) 15 true, og 22 (.mm true [(tm 19), (tm 21)] [3, 3]) 15 true, og 23 (bt .leq 3 17 22) 15 true, o1 24 (po 15 23), mv 25 24, og 26 (fa 40 3 1 1) 25 true, og 27 (lo 3 26) 25 true, og 28 (fa 40 4 1 1) 25 true, og 29 (lo 3 28) 25 true, og 30 (.mm false [(tm 27), (tm 29)] [3, 3]) 25 true, og 31 (fa 40 5 1 1) 25 true, og 32 (lo 3 31) 25 true, og 33 (bt .leq 3 30 32) 25 true, o1 34 (po 25 33), mv 35 34, og 36 (fa 40 5 1 1) 35 true, og 37 (lo 3 36) 35 true, og 38 (fa 40 3 1 1) 35 true, og 39 (lo 3 38) 35 true, og 40 (fa 40 4 1 1) 35 true, og 41 (lo 3 40) 35 true, og 42 (.mm true [(tm 39), (tm 41)] [3, 3]) 35 true, og 43 (bt .leq 3 37 42) 35 true, o1 44 (po 35 43), o1 6 (sg 44)] 0 none) []
  (.ret (rl 0 6 (rl 7 38 [])))))⟩
def D87 {ρ : Type} (fuel : Nat) (x1 x2 x3 x4 x5 x6 : Int) (k : Bool → Option ρ) : Option ρ :=
  (bif ((decide ((if x3 < x1 then x3 else x1) ≤ x5)) == true) then (bif ((decide (x5 ≤ (if x3 > x1 then x3 else x1))) == true) then (bif ((decide ((if x4 < x2 then x4 else x2) ≤ x6)) == true) then (k (decide (x6 ≤ (if x4 > x2 then x4 else x2)))) else (k false)) else (k false)) else (k false))
def F87 (fuel : Nat) (x1 x2 x3 x4 x5 x6 : Int) : Option (Bool) := D87 fuel x1 x2 x3 x4 x5 x6 some
theorem f87 {ρ : Type} (fuel : Nat) (x1 x2 x3 x4 x5 x6 : Int) (k : (Bool) → Option ρ) : D87 fuel x1 x2 x3 x4 x5 x6 k = ob (F87 fuel x1 x2 x3 x4 x5 x6) k := by
  simp only [F87, D87, ob_bif, ob_ob, ob_none, ob_some]
theorem walk87 (fuel : Nat) (x1 x2 x3 x4 x5 x6 : Int) :
    evalF (C17 fuel) fuel A102 [.agg [(vi x1), (vi x2)], .agg [(vi x3), (vi x4)], .agg [(vi x5), (vi x6)]] =
    (bif ((decide ((if x3 < x1 then x3 else x1) ≤ x5)) == true) then (bif ((decide (x5 ≤ (if x3 > x1 then x3 else x1))) == true) then (bif ((decide ((if x4 < x2 then x4 else x2) ≤ x6)) == true) then (some [.v (.b (decide (x6 ≤ (if x4 > x2 then x4 else x2))))]) else (some [.v (.b false)])) else (some [.v (.b false)])) else (some [.v (.b false)])) := by kernel_rfl
theorem e87 (fuel : Nat) (x1 x2 x3 x4 x5 x6 : Int) : evalF (C17 fuel) fuel A102 [.agg [(vi x1), (vi x2)], .agg [(vi x3), (vi x4)], .agg [(vi x5), (vi x6)]] = ob (F87 fuel x1 x2 x3 x4 x5 x6) fun t => some [.v (.b t)] := by
  rw [walk87, ← f87]
  simp only [D87]
def O87 (fuel : Nat) : Ora where
  o := fun args {ρ} K =>
    wc args fun a1 l2 =>
    wagg a1 fun l3 =>
    wdI .i64 l3 fun y7 l5 =>
    wdI .i64 l5 fun y11 l9 =>
    wn l9 <|
    wc l2 fun a12 l13 =>
    wagg a12 fun l14 =>
    wdI .i64 l14 fun y18 l16 =>
    wdI .i64 l16 fun y22 l20 =>
    wn l20 <|
    wc l13 fun a23 l24 =>
    wagg a23 fun l25 =>
    wdI .i64 l25 fun y29 l27 =>
    wdI .i64 l27 fun y33 l31 =>
    wn l31 <|
    wn l24 <|
    (ob (F87 fuel y7 y11 y18 y22 y29 y33) fun t => K [.v (.b t)])
  nat := fun args {ρ} K => by
    simp only [bind_wagg, bind_wc, bind_wdI, bind_wn, bind_ob, Option.bind_some]
theorem d87 {P : Program} (fuel : Nat) (hmix : P.follows .mixedOrders = true) (hC : Sound P (C17 fuel)) (hF : FFits P 102 A102) (args res : List A) (h : (O87 fuel).o args some = some res) : Den P 102 args res := by
  obtain ⟨a1, l2, rfl, z0⟩ := inv_wc h
  obtain ⟨l3, rfl, z1⟩ := inv_wagg z0
  obtain ⟨a4, y7, l5, rfl, h6, z2⟩ := inv_wdI z1
  obtain ⟨a8, y11, l9, rfl, h10, z3⟩ := inv_wdI z2
  obtain ⟨hn, z4⟩ := inv_wn z3
  cases hn
  obtain ⟨a12, l13, rfl, z5⟩ := inv_wc z4
  obtain ⟨l14, rfl, z6⟩ := inv_wagg z5
  obtain ⟨a15, y18, l16, rfl, h17, z7⟩ := inv_wdI z6
  obtain ⟨a19, y22, l20, rfl, h21, z8⟩ := inv_wdI z7
  obtain ⟨hn, z9⟩ := inv_wn z8
  cases hn
  obtain ⟨a23, l24, rfl, z10⟩ := inv_wc z9
  obtain ⟨l25, rfl, z11⟩ := inv_wagg z10
  obtain ⟨a26, y29, l27, rfl, h28, z12⟩ := inv_wdI z11
  obtain ⟨a30, y33, l31, rfl, h32, z13⟩ := inv_wdI z12
  obtain ⟨hn, z14⟩ := inv_wn z13
  cases hn
  obtain ⟨hn, z15⟩ := inv_wn z14
  cases hn
  exact Den.weaken (.cons (WkA.agg (.cons h6 (.cons h10 .nil))) (.cons (WkA.agg (.cons h17 (.cons h21 .nil))) (.cons (WkA.agg (.cons h28 (.cons h32 .nil))) .nil))) (evalF_sound hmix hC hF ((e87 fuel y7 y11 y18 y22 y29 y33).trans z15))
def C18 (fuel : Nat) : Oracle := (C17 fuel).add 102 (fun _ => true) (O87 fuel)
def A92 : AF := ⟨18, [.tmp 6],
  (.seq (.region 0 [o1 3 (bx 0 40 0), o1 4 (bx 1 40 1), o1 5 (bx 2 40 2), o1 6 (sb false)] 3 none) []
  (.seq (.region 1 [o1 7 (ln 40 2 3), o1 8 (ln 40 2 4), o1 9 (ln 40 2 5), o1 10 (cs 93 [7, 8, 9] [40, 40, 40]), o1 11 (bk .eql 3 10 0), mv 12 11, og 13 (ln 40 2 3) 12 true, og 14 (ln 40 2 4) 12 true, og 15 (ln 40 2 5) 12 true, og 16 (cs 102 [13, 14, 15] [40, 40, 40]) 12 true, o1 17 (po 12 16), o1 6 (sg 17)] 0 none) []
  (.ret (rl 0 6 (rl 7 11 [])))))⟩
def D81 {ρ : Type} (fuel : Nat) (x1 x2 x3 x4 x5 x6 : Int) (k : Bool → Option ρ) : Option ρ :=
  (ob (F79 fuel x1 x2 x3 x4 x5 x6) fun x7 => (bif ((x7 == 0) == true) then (ob (F87 fuel x1 x2 x3 x4 x5 x6) fun x8 => (k x8)) else (k false)))
def F81 (fuel : Nat) (x1 x2 x3 x4 x5 x6 : Int) : Option (Bool) := D81 fuel x1 x2 x3 x4 x5 x6 some
theorem f81 {ρ : Type} (fuel : Nat) (x1 x2 x3 x4 x5 x6 : Int) (k : (Bool) → Option ρ) : D81 fuel x1 x2 x3 x4 x5 x6 k = ob (F81 fuel x1 x2 x3 x4 x5 x6) k := by
  simp only [F81, D81, ob_bif, ob_ob, ob_none, ob_some]
theorem walk81 (fuel : Nat) (x1 x2 x3 x4 x5 x6 : Int) :
    evalF (C18 fuel) fuel A92 [.agg [(vi x1), (vi x2)], .agg [(vi x3), (vi x4)], .agg [(vi x5), (vi x6)]] =
    (ob (F79 fuel x1 x2 x3 x4 x5 x6) fun x7 => (bif ((x7 == 0) == true) then (ob (F87 fuel x1 x2 x3 x4 x5 x6) fun x8 => (some [.v (.b x8)])) else (some [.v (.b false)]))) := by kernel_rfl
theorem e81 (fuel : Nat) (x1 x2 x3 x4 x5 x6 : Int) : evalF (C18 fuel) fuel A92 [.agg [(vi x1), (vi x2)], .agg [(vi x3), (vi x4)], .agg [(vi x5), (vi x6)]] = ob (F81 fuel x1 x2 x3 x4 x5 x6) fun t => some [.v (.b t)] := by
  rw [walk81, ← f81]
  simp only [D81]
def O81 (fuel : Nat) : Ora where
  o := fun args {ρ} K =>
    wc args fun a1 l2 =>
    wagg a1 fun l3 =>
    wdI .i64 l3 fun y7 l5 =>
    wdI .i64 l5 fun y11 l9 =>
    wn l9 <|
    wc l2 fun a12 l13 =>
    wagg a12 fun l14 =>
    wdI .i64 l14 fun y18 l16 =>
    wdI .i64 l16 fun y22 l20 =>
    wn l20 <|
    wc l13 fun a23 l24 =>
    wagg a23 fun l25 =>
    wdI .i64 l25 fun y29 l27 =>
    wdI .i64 l27 fun y33 l31 =>
    wn l31 <|
    wn l24 <|
    (ob (F81 fuel y7 y11 y18 y22 y29 y33) fun t => K [.v (.b t)])
  nat := fun args {ρ} K => by
    simp only [bind_wagg, bind_wc, bind_wdI, bind_wn, bind_ob, Option.bind_some]
theorem d81 {P : Program} (fuel : Nat) (hmix : P.follows .mixedOrders = true) (hC : Sound P (C18 fuel)) (hF : FFits P 92 A92) (args res : List A) (h : (O81 fuel).o args some = some res) : Den P 92 args res := by
  obtain ⟨a1, l2, rfl, z0⟩ := inv_wc h
  obtain ⟨l3, rfl, z1⟩ := inv_wagg z0
  obtain ⟨a4, y7, l5, rfl, h6, z2⟩ := inv_wdI z1
  obtain ⟨a8, y11, l9, rfl, h10, z3⟩ := inv_wdI z2
  obtain ⟨hn, z4⟩ := inv_wn z3
  cases hn
  obtain ⟨a12, l13, rfl, z5⟩ := inv_wc z4
  obtain ⟨l14, rfl, z6⟩ := inv_wagg z5
  obtain ⟨a15, y18, l16, rfl, h17, z7⟩ := inv_wdI z6
  obtain ⟨a19, y22, l20, rfl, h21, z8⟩ := inv_wdI z7
  obtain ⟨hn, z9⟩ := inv_wn z8
  cases hn
  obtain ⟨a23, l24, rfl, z10⟩ := inv_wc z9
  obtain ⟨l25, rfl, z11⟩ := inv_wagg z10
  obtain ⟨a26, y29, l27, rfl, h28, z12⟩ := inv_wdI z11
  obtain ⟨a30, y33, l31, rfl, h32, z13⟩ := inv_wdI z12
  obtain ⟨hn, z14⟩ := inv_wn z13
  cases hn
  obtain ⟨hn, z15⟩ := inv_wn z14
  cases hn
  exact Den.weaken (.cons (WkA.agg (.cons h6 (.cons h10 .nil))) (.cons (WkA.agg (.cons h17 (.cons h21 .nil))) (.cons (WkA.agg (.cons h28 (.cons h32 .nil))) .nil))) (evalF_sound hmix hC hF ((e81 fuel y7 y11 y18 y22 y29 y33).trans z15))
def C19 (fuel : Nat) : Oracle := (C18 fuel).add 92 (fun _ => true) (O81 fuel)
def A109 : AF := ⟨6, [.tmp 2],
  (.seq (.region 0 [o1 2 (sb false)] 0 none) []
  (.seq (.region 1 [mv 3 0, mv 4 0, o1 5 (bt .neq 3 3 4), o1 2 (sg 5)] 0 none) []
  (.ret [0, 1, 3, 4, 5])))⟩
def D90 {ρ : Type} (fuel : Nat) (x1 : Int) (k : Bool → Option ρ) : Option ρ :=
  (k (x1 != x1))
def F90 (fuel : Nat) (x1 : Int) : Option (Bool) := D90 fuel x1 some
theorem f90 {ρ : Type} (fuel : Nat) (x1 : Int) (k : (Bool) → Option ρ) : D90 fuel x1 k = ob (F90 fuel x1) k := by
  simp only [F90, D90, ob_bif, ob_ob, ob_none, ob_some]
theorem walk90 (fuel : Nat) (x1 : Int) :
    evalF (C19 fuel) fuel A109 [.v (vi x1)] =
    (some [.v (.b (x1 != x1))]) := by kernel_rfl
theorem e90 (fuel : Nat) (x1 : Int) : evalF (C19 fuel) fuel A109 [.v (vi x1)] = ob (F90 fuel x1) fun t => some [.v (.b t)] := by
  rw [walk90, ← f90]
  simp only [D90]
def O90 (fuel : Nat) : Ora where
  o := fun args {ρ} K =>
    wcI .i64 args fun y4 l2 =>
    wn l2 <|
    (ob (F90 fuel y4) fun t => K [.v (.b t)])
  nat := fun args {ρ} K => by
    simp only [bind_wcI, bind_wn, bind_ob, Option.bind_some]
theorem d90 {P : Program} (fuel : Nat) (hmix : P.follows .mixedOrders = true) (hC : Sound P (C19 fuel)) (hF : FFits P 109 A109) (args res : List A) (h : (O90 fuel).o args some = some res) : Den P 109 args res := by
  obtain ⟨a1, y4, l2, rfl, h3, z0⟩ := inv_wcI h
  obtain ⟨hn, z1⟩ := inv_wn z0
  cases hn
  exact Den.weaken (.cons h3 .nil) (evalF_sound hmix hC hF ((e90 fuel y4).trans z1))
def C20 (fuel : Nat) : Oracle := (C19 fuel).add 109 (fun _ => true) (O90 fuel)
def A108v1 : AC := (.seq (.region 6 [o1 4 (sk (-1))] 0 none) []
  (.ret (rl 0 4 (rl 5 15 []))))
def A108v2 : AC := (.seq (.region 13 [o1 4 (sk 0)] 0 none) []
  (.ret (rl 0 4 (rl 5 15 []))))
def A108v3 : AC := (.seq (.seq (.region 11 [mv 17 0, mv 18 1, o1 19 (bt .gtr 3 17 18)] 0 none) []
  (.cond (tm 19)
  (.seq (.region 12 [o1 4 (sk 1)] 0 none) []
    (.ret (rl 0 4 (rl 5 15 []))))
  .skip)) [4, 17, 18, 19]
  A108v2)
def A108v4 : AC := (.seq (.seq (.region 9 [mv 14 0, mv 15 1, o1 16 (bt .lss 3 14 15)] 0 none) []
  (.cond (tm 16)
  (.seq (.region 10 [o1 4 (sk (-1))] 0 none) []
    (.ret (rl 0 4 (rl 5 15 []))))
  .skip)) [4, 14, 15, 16]
  A108v3)
def A108v5 : AC := (.seq (.seq (.region 7 [mv 13 6] 0 none) []
  (.cond (tm 13)
  (.seq (.region 8 [o1 4 (sk 1)] 0 none) []
    (.ret (rl 0 4 (rl 5 15 []))))
  .skip)) [4, 13]
  A108v4)
def A108 : AF := ⟨20, [.tmp 4],
  (.seq (.region 0 [o1 4 (sk 0)] 0 none) []
  (.seq (.region 1 [mv 7 0, o1 8 (cs 109 [7] [3]), o1 5 (sg 8)] 0 none) []
  (.seq (.region 2 [mv 9 1, o1 10 (cs 109 [9] [3]), o1 6 (sg 10)] 0 none) []
  (.seq (.seq (.region 3 [mv 11 5] 0 none) []
  (.cond (tm 11)
  (.seq (.seq (.region 4 [mv 12 6] 0 none) []
    (.cond (tm 12)
    (.seq (.region 5 [o1 4 (sk 0)] 0 none) []
      (.ret (rl 0 4 (rl 5 15 []))))
    .skip)) [4, 12]
    A108v1)
  .skip)) [4, 11, 12]
  A108v5))))⟩
def D89 {ρ : Type} (fuel : Nat) (x1 x2 : Int) (k : Int → Option ρ) : Option ρ :=
  (ob (F90 fuel x1) fun x3 => (ob (F90 fuel x2) fun x4 => (bif x3 then (bif x4 then (k 0) else (k (-1))) else (bif x4 then (k 1) else (bif (decide (x1 < x2)) then (k (-1)) else (bif (decide (x1 > x2)) then (k 1) else (k 0)))))))
def F89 (fuel : Nat) (x1 x2 : Int) : Option (Int) := D89 fuel x1 x2 some
theorem f89 {ρ : Type} (fuel : Nat) (x1 x2 : Int) (k : (Int) → Option ρ) : D89 fuel x1 x2 k = ob (F89 fuel x1 x2) k := by
  simp only [F89, D89, ob_bif, ob_ob, ob_none, ob_some]
theorem walk89 (fuel : Nat) (x1 x2 : Int) :
    evalF (C20 fuel) fuel A108 [.v (vi x1), .v (vi x2)] =
    (ob (F90 fuel x1) fun x3 => (ob (F90 fuel x2) fun x4 => (bif x3 then (bif x4 then (some [.v (vi 0)]) else (some [.v (vi (-1))])) else (bif x4 then (some [.v (vi 1)]) else (bif (decide (x1 < x2)) then (some [.v (vi (-1))]) else (bif (decide (x1 > x2)) then (some [.v (vi 1)]) else (some [.v (vi 0)]))))))) := by kernel_rfl
theorem e89 (fuel : Nat) (x1 x2 : Int) : evalF (C20 fuel) fuel A108 [.v (vi x1), .v (vi x2)] = ob (F89 fuel x1 x2) fun t => some [.v (vi t)] := by
  rw [walk89, ← f89]
  simp only [D89]
def O89 (fuel : Nat) : Ora where
  o := fun args {ρ} K =>
    wcI .i64 args fun y4 l2 =>
    wcI .i64 l2 fun y8 l6 =>
    wn l6 <|
    (ob (F89 fuel y4 y8) fun t => K [.v (vi t)])
  nat := fun args {ρ} K => by
    simp only [bind_wcI, bind_wn, bind_ob, Option.bind_some]
theorem d89 {P : Program} (fuel : Nat) (hmix : P.follows .mixedOrders = true) (hC : Sound P (C20 fuel)) (hF : FFits P 108 A108) (args res : List A) (h : (O89 fuel).o args some = some res) : Den P 108 args res := by
  obtain ⟨a1, y4, l2, rfl, h3, z0⟩ := inv_wcI h
  obtain ⟨a5, y8, l6, rfl, h7, z1⟩ := inv_wcI z0
  obtain ⟨hn, z2⟩ := inv_wn z1
  cases hn
  exact Den.weaken (.cons h3 (.cons h7 .nil)) (evalF_sound hmix hC hF ((e89 fuel y4 y8).trans z2))
def C21 (fuel : Nat) : Oracle := (C20 fuel).add 108 (fun _ => true) (O89 fuel)
def A106 : AF := ⟨5, [.tmp 2],
  (.seq (.region 0 [o1 2 (sk 0)] 0 none) []
  (.seq (.region 1 [mv 3 0, o1 4 (.call 108 [(tm 3), (ic 0)] [3, 3] .snap), o1 2 (sg 4)] 0 none) []
  (.ret [0, 1, 3, 4])))⟩
def D86 {ρ : Type} (fuel : Nat) (x1 : Int) (k : Int → Option ρ) : Option ρ :=
  (ob (F89 fuel x1 0) fun x2 => (k x2))
def F86 (fuel : Nat) (x1 : Int) : Option (Int) := D86 fuel x1 some
theorem f86 {ρ : Type} (fuel : Nat) (x1 : Int) (k : (Int) → Option ρ) : D86 fuel x1 k = ob (F86 fuel x1) k := by
  simp only [F86, D86, ob_bif, ob_ob, ob_none, ob_some]
theorem walk86 (fuel : Nat) (x1 : Int) :
    evalF (C21 fuel) fuel A106 [.v (vi x1)] =
    (ob (F89 fuel x1 0) fun x2 => (some [.v (vi x2)])) := by kernel_rfl
theorem e86 (fuel : Nat) (x1 : Int) : evalF (C21 fuel) fuel A106 [.v (vi x1)] = ob (F86 fuel x1) fun t => some [.v (vi t)] := by
  rw [walk86, ← f86]
  simp only [D86]
def O86 (fuel : Nat) : Ora where
  o := fun args {ρ} K =>
    wcI .i64 args fun y4 l2 =>
    wn l2 <|
    (ob (F86 fuel y4) fun t => K [.v (vi t)])
  nat := fun args {ρ} K => by
    simp only [bind_wcI, bind_wn, bind_ob, Option.bind_some]
theorem d86 {P : Program} (fuel : Nat) (hmix : P.follows .mixedOrders = true) (hC : Sound P (C21 fuel)) (hF : FFits P 106 A106) (args res : List A) (h : (O86 fuel).o args some = some res) : Den P 106 args res := by
  obtain ⟨a1, y4, l2, rfl, h3, z0⟩ := inv_wcI h
  obtain ⟨hn, z1⟩ := inv_wn z0
  cases hn
  exact Den.weaken (.cons h3 .nil) (evalF_sound hmix hC hF ((e86 fuel y4).trans z1))
def C22 (fuel : Nat) : Oracle := (C21 fuel).add 106 (fun _ => true) (O86 fuel)
def A98v1 : AC := (.seq (.region 3 [o1 31 (ln 40 2 4), o1 32 (ln 40 2 5), o1 33 (ln 40 2 6), o1 34 (cs 93 [31, 32, 33] [40, 40, 40]), o1 35 (cs 106 [34] [3]), o1 36 (ln 40 2 4), o1 37 (ln 40 2 5), o1 38 (ln 40 2 7), o1 39 (cs 93 [36, 37, 38] [40, 40, 40]), o1 40 (cs 106 [39] [3]), o1 41 (bt .mul 3 35 40), o1 42 (bk .lss 3 41 0), mv 43 42, og 44 (ln 40 2 6) 43 true, og 45 (ln 40 2 7) 43 true, og 46 (ln 40 2 4) 43 true, og 47 (cs 93 [44, 45, 46] [40, 40, 40]) 43 true, og 48 (cs 106 [47] [3]) 43 true, og 49 (ln 40 2 6) 43 true, og 50 (ln 40 2 7) 43 true, og 51 (ln 40 2 5) 43 true, og 52 (cs 93 [49, 50, 51] [40, 40, 40]) 43 true, og 53 (cs 106 [52] [3]) 43 true, og 54 (bt .mul 3 48 53) 43 true, og 55 (bk .lss 3 54 0) 43 true, o1 56 (po 43 55), o1 8 (sg 56)] 0 (some [[], [], [], [0, 1, 2], (rl 0 4 []), [], [], [], (rl 0 8 []), (rl 0 9 []), (rl 0 10 []), (rl 0 11 []), (rl 0 12 []), (rl 0 13 []), (rl 0 13 []), (rl 0 13 []), (rl 0 16 []), (rl 0 17 []), (rl 0 13 []), (rl 0 13 []), (rl 0 13 []), (rl 0 21 []), (rl 0 22 []), (rl 0 23 []), (rl 0 24 []), (rl 0 25 []), (rl 0 26 [])])) []
  (.ret (rl 0 8 (rl 9 48 []))))
def A98 : AF := ⟨57, [.tmp 8],
  (.seq (.region 0 [o1 4 (bx 0 40 0), o1 5 (bx 1 40 1), o1 6 (bx 2 40 2), o1 7 (bx 3 40 3), o1 8 (sb false)] 4 none) []
  (.seq (.seq (.region 1 [o1 9 (ln 40 2 4), o1 10 (ln 40 2 5), o1 11 (ln 40 2 6), o1 12 (cs 92 [9, 10, 11] [40, 40, 40]), mv 13 12, og 14 (ln 40 2 4) 13 false, og 15 (ln 40 2 5) 13 false, og 16 (ln 40 2 7) 13 false, og 17 (cs 92 [14, 15, 16] [40, 40, 40]) 13 false, o1 18 (pa 13 17), mv 19 18, og 20 (ln 40 2 6) 19 false, og 21 (ln 40 2 7) 19 false, og 22 (ln 40 2 4) 19 false, og 23 (cs 92 [20, 21, 22] [40, 40, 40]) 19 false, o1 24 (pa 19 23), mv 25 24, og 26 (ln 40 2 6) 25 false, og 27 (ln 40 2 7) 25 false, og 28 (ln 40 2 5) 25 false, og 29 (cs 92 [26, 27, 28] [40, 40, 40]) 25 false, o1 30 (pa 25 29)] 0 none) []
  (.cond (tm 30)
  (.seq (.region 2 [o1 8 (sb true)] 0 none) []
    (.ret (rl 0 8 (rl 9 48 []))))
  .skip)) (rl 8 23 [])
  A98v1))⟩
def D80 {ρ : Type} (fuel : Nat) (x1 x2 x3 x4 x5 x6 x7 x8 : Int) (k : Bool → Option ρ) : Option ρ :=
  (ob (F81 fuel x1 x2 x3 x4 x5 x6) fun x9 => (bif (x9 == false) then (ob (F81 fuel x1 x2 x3 x4 x7 x8) fun x10 => (bif (x10 == false) then (ob (F81 fuel x5 x6 x7 x8 x1 x2) fun x11 => (bif (x11 == false) then (ob (F81 fuel x5 x6 x7 x8 x3 x4) fun x12 => (bif x12 then (k true) else (ob (F79 fuel x1 x2 x3 x4 x5 x6) fun x21 => (ob (F86 fuel x21) fun x22 => (ob (F79 fuel x1 x2 x3 x4 x7 x8) fun x23 => (ob (F86 fuel x23) fun x24 => (bif ((decide ((w64 (x22 * x24)) < 0)) == true) then (ob (F79 fuel x5 x6 x7 x8 x1 x2) fun x25 => (ob (F86 fuel x25) fun x26 => (ob (F79 fuel x5 x6 x7 x8 x3 x4) fun x27 => (ob (F86 fuel x27) fun x28 => (k (decide ((w64 (x26 * x28)) < 0))))))) else (k false)))))))) else (k true))) else (k true))) else (k true)))
def F80 (fuel : Nat) (x1 x2 x3 x4 x5 x6 x7 x8 : Int) : Option (Bool) := D80 fuel x1 x2 x3 x4 x5 x6 x7 x8 some
theorem f80 {ρ : Type} (fuel : Nat) (x1 x2 x3 x4 x5 x6 x7 x8 : Int) (k : (Bool) → Option ρ) : D80 fuel x1 x2 x3 x4 x5 x6 x7 x8 k = ob (F80 fuel x1 x2 x3 x4 x5 x6 x7 x8) k := by
  simp only [F80, D80, ob_bif, ob_ob, ob_none, ob_some]
theorem walk80 (fuel : Nat) (x1 x2 x3 x4 x5 x6 x7 x8 : Int) :
    evalF (C22 fuel) fuel A98 [.agg [(vi x1), (vi x2)], .agg [(vi x3), (vi x4)], .agg [(vi x5), (vi x6)], .agg [(vi x7), (vi x8)]] =
    (ob (F81 fuel x1 x2 x3 x4 x5 x6) fun x9 => (bif (x9 == false) then (ob (F81 fuel x1 x2 x3 x4 x7 x8) fun x10 => (bif (x10 == false) then (ob (F81 fuel x5 x6 x7 x8 x1 x2) fun x11 => (bif (x11 == false) then (ob (F81 fuel x5 x6 x7 x8 x3 x4) fun x12 => (bif x12 then (some [.v (.b true)]) else (ob (F79 fuel x1 x2 x3 x4 x5 x6) fun x21 => (ob (F86 fuel x21) fun x22 => (ob (F79 fuel x1 x2 x3 x4 x7 x8) fun x23 => (ob (F86 fuel x23) fun x24 => (bif ((decide ((w64 (x22 * x24)) < 0)) == true) then (ob (F79 fuel x5 x6 x7 x8 x1 x2) fun x25 => (ob (F86 fuel x25) fun x26 => (ob (F79 fuel x5 x6 x7 x8 x3 x4) fun x27 => (ob (F86 fuel x27) fun x28 => (some [.v (.b (decide ((w64 (x26 * x28)) < 0)))]))))) else (some [.v (.b false)])))))))) else (some [.v (.b true)]))) else (some [.v (.b true)]))) else (some [.v (.b true)]))) := by kernel_rfl
theorem e80 (fuel : Nat) (x1 x2 x3 x4 x5 x6 x7 x8 : Int) : evalF (C22 fuel) fuel A98 [.agg [(vi x1), (vi x2)], .agg [(vi x3), (vi x4)], .agg [(vi x5), (vi x6)], .agg [(vi x7), (vi x8)]] = ob (F80 fuel x1 x2 x3 x4 x5 x6 x7 x8) fun t => some [.v (.b t)] := by
  rw [walk80, ← f80]
  simp only [D80]
def O80 (fuel : Nat) : Ora where
  o := fun args {ρ} K =>
    wc args fun a1 l2 =>
    wagg a1 fun l3 =>
    wdI .i64 l3 fun y7 l5 =>
    wdI .i64 l5 fun y11 l9 =>
    wn l9 <|
    wc l2 fun a12 l13 =>
    wagg a12 fun l14 =>
    wdI .i64 l14 fun y18 l16 =>
    wdI .i64 l16 fun y22 l20 =>
    wn l20 <|
    wc l13 fun a23 l24 =>
    wagg a23 fun l25 =>
    wdI .i64 l25 fun y29 l27 =>
    wdI .i64 l27 fun y33 l31 =>
    wn l31 <|
    wc l24 fun a34 l35 =>
    wagg a34 fun l36 =>
    wdI .i64 l36 fun y40 l38 =>
    wdI .i64 l38 fun y44 l42 =>
    wn l42 <|
    wn l35 <|
    (ob (F80 fuel y7 y11 y18 y22 y29 y33 y40 y44) fun t => K [.v (.b t)])
  nat := fun args {ρ} K => by
    simp only [bind_wagg, bind_wc, bind_wdI, bind_wn, bind_ob, Option.bind_some]
theorem d80 {P : Program} (fuel : Nat) (hmix : P.follows .mixedOrders = true) (hC : Sound P (C22 fuel)) (hF : FFits P 98 A98) (args res : List A) (h : (O80 fuel).o args some = some res) : Den P 98 args res := by
  obtain ⟨a1, l2, rfl, z0⟩ := inv_wc h
  obtain ⟨l3, rfl, z1⟩ := inv_wagg z0
  obtain ⟨a4, y7, l5, rfl, h6, z2⟩ := inv_wdI z1
  obtain ⟨a8, y11, l9, rfl, h10, z3⟩ := inv_wdI z2
  obtain ⟨hn, z4⟩ := inv_wn z3
  cases hn
  obtain ⟨a12, l13, rfl, z5⟩ := inv_wc z4
  obtain ⟨l14, rfl, z6⟩ := inv_wagg z5
  obtain ⟨a15, y18, l16, rfl, h17, z7⟩ := inv_wdI z6
  obtain ⟨a19, y22, l20, rfl, h21, z8⟩ := inv_wdI z7
  obtain ⟨hn, z9⟩ := inv_wn z8
  cases hn
  obtain ⟨a23, l24, rfl, z10⟩ := inv_wc z9
  obtain ⟨l25, rfl, z11⟩ := inv_wagg z10
  obtain ⟨a26, y29, l27, rfl, h28, z12⟩ := inv_wdI z11
  obtain ⟨a30, y33, l31, rfl, h32, z13⟩ := inv_wdI z12
  obtain ⟨hn, z14⟩ := inv_wn z13
  cases hn
  obtain ⟨a34, l35, rfl, z15⟩ := inv_wc z14
  obtain ⟨l36, rfl, z16⟩ := inv_wagg z15
  obtain ⟨a37, y40, l38, rfl, h39, z17⟩ := inv_wdI z16
  obtain ⟨a41, y44, l42, rfl, h43, z18⟩ := inv_wdI z17
  obtain ⟨hn, z19⟩ := inv_wn z18
  cases hn
  obtain ⟨hn, z20⟩ := inv_wn z19
  cases hn
  exact Den.weaken (.cons (WkA.agg (.cons h6 (.cons h10 .nil))) (.cons (WkA.agg (.cons h17 (.cons h21 .nil))) (.cons (WkA.agg (.cons h28 (.cons h32 .nil))) (.cons (WkA.agg (.cons h39 (.cons h43 .nil))) .nil)))) (evalF_sound hmix hC hF ((e80 fuel y7 y11 y18 y22 y29 y33 y40 y44).trans z20))
def C23 (fuel : Nat) : Oracle := (C22 fuel).add 98 (fun _ => true) (O80 fuel)
def A87v1 : AC := (.region 13 [mv 73 8, o1 74 (bk .add 3 73 1), o1 8 (sg 74)] 0 none)
def A87v2 : AC := (.seq (.block 3
  (.seq (.region 14 [mv 75 8, o1 76 (bk .add 3 75 1), mv 77 3, o1 78 (bt .rem 3 76 77), mv 79 4, o1 80 (bt .neq 3 78 79), mv 81 80, og 82 (ln 40 2 5) 81 true, og 83 (ln 40 2 6) 81 true, og 84 (.move (tm 0)) 81 true, og 85 (.move (tm 8)) 81 true, og 86 (.indexAddr 22 40 2 (tm 84) (tm 85)) 81 true, og 87 (ln 40 2 86) 81 true, og 88 (.move (tm 0)) 81 true, og 89 (.move (tm 8)) 81 true, og 90 (bk .add 3 89 1) 81 true, og 91 (.move (tm 3)) 81 true, og 92 (bt .rem 3 90 91) 81 true, og 93 (.indexAddr 22 40 2 (tm 88) (tm 92)) 81 true, og 94 (ln 40 2 93) 81 true, og 95 (cs 98 [82, 83, 87, 94] [40, 40, 40, 40]) 81 true, o1 96 (po 81 95)] 0 (some [[], [0], [], [0, 1, 2], [], (rl 0 5 []), (rl 0 6 []), (rl 0 7 []), (rl 0 7 []), (rl 0 7 []), (rl 0 7 []), (rl 0 7 [9, 10]), (rl 0 7 [9, 10, 11]), (rl 0 7 []), (rl 0 7 []), (rl 0 7 [14]), (rl 0 7 []), (rl 0 7 [14, 15, 16]), (rl 0 7 (rl 13 5 [])), (rl 0 7 (rl 13 6 [])), (rl 0 20 []), (rl 0 21 [])])) []
    (.cond (tm 96)
    (.seq (.region 15 [o1 2 (sb false)] 0 none) []
      (.ret (0 :: 1 :: (rl 3 95 []))))
    .skip))) (2 :: (rl 75 22 []))
  A87v1)
def A87v3 : AC := (.seq (.seq (.region 12 [mv 70 8, mv 71 3, o1 72 (bt .lss 3 70 71)] 0 none) []
  (.cond (tm 72)
  .skip
  (.exit 2 (1 :: 2 :: (rl 4 8 (rl 14 84 [])))))) [70, 71, 72]
  A87v2)
def A87v4 : AC := (.seq (.region 11 [mv 68 4, o1 69 (bk .add 3 68 2), o1 8 (sg 69)] 0 none) []
  (.block 2
  (.loop [] (1 :: 2 :: 7 :: 9 :: 10 :: 11 :: (rl 14 84 []))
    A87v3)))
def A87v5 : AC := (.seq (.region 8 [mv 30 0, mv 31 4, o1 32 (bk .add 3 31 2), mv 33 3, o1 34 (bt .rem 3 32 33), o1 35 (.indexAddr 22 40 2 (tm 30) (tm 34)), o1 36 (ln 40 2 35), o1 7 (.alloc 0 40 [vci 0, vci 0]), o0 (.store 40 2 (tm 7) (tm 36))] 1 none) []
  (.seq (.seq (.region 9 [o1 37 (ln 40 2 5), o1 38 (ln 40 2 6), o1 39 (ln 40 2 7), o1 40 (cs 93 [37, 38, 39] [40, 40, 40]), o1 41 (bk .eql 3 40 0), mv 42 41, og 43 (fa 40 5 0 0) 42 true, og 44 (lo 3 43) 42 true, og 45 (fa 40 6 0 0) 42 true, og 46 (lo 3 45) 42 true, og 47 (bt .sub 3 44 46) 42 true, og 48 (fa 40 7 0 0) 42 true, og 49 (lo 3 48) 42 true, og 50 (fa 40 6 0 0) 42 true, og 51 (lo 3 50) 42 true, og 52 (bt .sub 3 49 51) 42 true, og 53 (bt .mul 3 47 52) 42 true, og 54 (fa 40 5 1 1) 42 true, og 55 (lo 3 54) 42 true, og 56 (fa 40 6 1 1) 42 true, og 57 (lo 3 56) 42 true, og 58 (bt .sub 3 55 57) 42 true, og 59 (fa 40 7 1 1) 42 true, og 60 (lo 3 59) 42 true, og 61 (fa 40 6 1 1) 42 true, og 62 (lo 3 61) 42 true, og 63 (bt .sub 3 60 62) 42 true, og 64 (bt .mul 3 58 63) 42 true, og 65 (bt .add 3 53 64) 42 true, og 66 (bk .gtr 3 65 0) 42 true, o1 67 (po 42 66)] 0 none) []
  (.cond (tm 67)
  (.seq (.region 10 [o1 2 (sb false)] 0 none) []
    (.ret (0 :: 1 :: (rl 3 95 []))))
  .skip)) (2 :: (rl 37 31 []))
  A87v4))
def A87v6 : AC := (.region 16 [o1 97 (bk .add 3 13 1), mv 13 97] 0 none)
def A87v7 : AC := (.seq (.block 1
  (.seq (.region 4 [mv 15 13, o1 4 (sg 15)] 0 none) []
    (.seq (.region 5 [mv 16 0, mv 17 4, o1 18 (.indexAddr 22 40 2 (tm 16) (tm 17)), o1 19 (ln 40 2 18), mv 20 0, mv 21 4, o1 22 (bk .add 3 21 1), mv 23 3, o1 24 (bt .rem 3 22 23), o1 25 (.indexAddr 22 40 2 (tm 20) (tm 24)), o1 26 (ln 40 2 25), o1 5 (.alloc 0 40 [vci 0, vci 0]), o1 6 (.alloc 1 40 [vci 0, vci 0]), o0 (.store 40 2 (tm 5) (tm 19)), o0 (.store 40 2 (tm 6) (tm 26))] 2 (some [[], [], [0, 1], [0, 1, 2], [], [], [5], [], [5, 6, 7], (rl 4 5 []), (rl 4 6 []), [], [], (rl 0 4 [11, 12]), (rl 0 14 [])])) []
    (.seq (.seq (.region 6 [o1 27 (ln 40 2 5), o1 28 (ln 40 2 6), o1 29 (.eqA false kP 40 (tm 27) (tm 28) 40)] 0 none) []
    (.cond (tm 29)
    (.seq (.region 7 [o1 2 (sb false)] 0 none) []
      (.ret (0 :: 1 :: (rl 3 95 []))))
    .skip)) [2, 27, 28, 29]
    A87v5)))) (2 :: (rl 4 5 (rl 15 82 [])))
  A87v6)
def A87v8 : AC := (.seq (.region 3 [o1 14 (bt .lss 3 13 12)] 0 none) []
  (.seq (.cond (tm 14)
  .skip
  (.exit 0 (rl 0 98 []))) []
  A87v7))
def A87v9 : AC := (.seq (.region 17 [o1 2 (sb true)] 0 none) []
  (.ret (0 :: 1 :: (rl 3 95 []))))
def A87 : AF := ⟨98, [.tmp 2],
  (.seq (.region 0 [o1 2 (sb false)] 0 none) []
  (.seq (.region 1 [mv 9 0, o1 10 (.len 22 false (tm 9)), o1 3 (sg 10)] 0 none) []
  (.seq (.seq (.region 2 [mv 11 0, o1 12 (.len 22 false (tm 11)), o1 13 (.move (ic 0))] 0 none) []
  (.block 0
  (.loop [] (1 :: 2 :: (rl 4 8 (rl 14 84 [])))
    A87v8))) (2 :: (rl 4 5 (rl 11 87 [])))
  A87v9)))⟩
def B62v2 (C : Oracle) (fuel : Nat) {ρ : Type} : St → (Ex → St → Option ρ) → Option ρ := fun st k => evalC C fuel A87v3 st k
def N62v2 : St → Option St := fun s => s.norm (1 :: 2 :: 7 :: 9 :: 10 :: 11 :: (rl 14 84 [])) 3
def s62v0 (x46 : Nat) (x47 : FF) (x48 x49 x50 x51 x52 x53 x54 x55 x56 : Int) : St := ⟨(.x (.c (.ro false kP x46 x47)) :: .u :: .u :: vxi x48 :: vxi x49 :: .x (.ptr 0 0) :: .x (.ptr 1 0) :: .u :: vxi x50 :: (us 3 (vxi x48 :: vxi x49 :: (us 84 [])))), [.box [(vci x51), (vci x52)], .box [(vci x53), (vci x54)], .box [(vci x55), (vci x56)]]⟩
def s62v1 (x51 x52 x53 x54 x55 x56 : Int) : St := ⟨(.u :: .u :: vxb false :: (us 95 [])), [.box [(vci x51), (vci x52)], .box [(vci x53), (vci x54)], .box [(vci x55), (vci x56)]]⟩
def s62v2 (x46 : Nat) (x47 : FF) (x48 x49 x51 x52 x53 x54 x55 x56 : Int) : St := ⟨(.x (.c (.ro false kP x46 x47)) :: .u :: .u :: vxi x48 :: (us 8 (vxi x48 :: vxi x49 :: (us 84 [])))), [.box [(vci x51), (vci x52)], .box [(vci x53), (vci x54)], .box [(vci x55), (vci x56)]]⟩
def L62v2 {ρ : Type} (fuel : Nat) (x46 : Nat) (x47 : FF) (x48 x49 x51 x52 x53 x54 x55 x56 : Int) : Nat → Int → (Option ρ) → (Option ρ) → Option ρ
  | 0, _, _, _ => none
  | m + 1, x50, k0, k1 =>
    (bif (decide (x50 < x48)) then (bif (x48 == 0) then none else (bif (((Int.tmod (w64 (x50 + 1)) x48) != x49) == true) then (bif (inb x50 x46) then (bif (x48 == 0) then none else (bif (inb (Int.tmod (w64 (x50 + 1)) x48) x46) then (ob (F80 fuel x51 x52 x53 x54 (CV.int (x47 (Int.toNat x50) 0)) (CV.int (x47 (Int.toNat x50) 1)) (CV.int (x47 (Int.toNat (Int.tmod (w64 (x50 + 1)) x48)) 0)) (CV.int (x47 (Int.toNat (Int.tmod (w64 (x50 + 1)) x48)) 1))) fun x57 => (bif x57 then k0 else (L62v2 fuel x46 x47 x48 x49 x51 x52 x53 x54 x55 x56 m (w64 (x50 + 1)) k0 k1))) else none)) else none) else (L62v2 fuel x46 x47 x48 x49 x51 x52 x53 x54 x55 x56 m (w64 (x50 + 1)) k0 k1))) else k1)
theorem nl62v2 {ρ σ : Type} (fuel : Nat) (x46 : Nat) (x47 : FF) (x48 x49 x51 x52 x53 x54 x55 x56 : Int) (g : ρ → Option σ) : ∀ (m : Nat) (x50 : Int) (k0 : Option ρ) (k1 : Option ρ), ob (L62v2 fuel x46 x47 x48 x49 x51 x52 x53 x54 x55 x56 m x50 k0 k1) g = L62v2 fuel x46 x47 x48 x49 x51 x52 x53 x54 x55 x56 m x50 (ob k0 g) (ob k1 g)
  | 0, _, _, _ => rfl
  | m + 1, x50, k0, k1 => by
    simp only [L62v2, ob_bif, ob_ob, ob_none, nl62v2 fuel x46 x47 x48 x49 x51 x52 x53 x54 x55 x56 g m]
theorem r62v2 (fuel : Nat) (m : Nat) {ρ : Type} (k : Ex → St → Option ρ) (x46 : Nat) (x47 : FF) (x48 x49 x51 x52 x53 x54 x55 x56 x50 : Int) :
    loopH (B62v2 (C23 fuel) fuel) N62v2 (m + 1) (s62v0 x46 x47 x48 x49 x50 x51 x52 x53 x54 x55 x56) k =
    (bif (decide (x50 < x48)) then (bif (x48 == 0) then none else (bif (((Int.tmod (w64 (x50 + 1)) x48) != x49) == true) then (bif (inb x50 x46) then (bif (x48 == 0) then none else (bif (inb (Int.tmod (w64 (x50 + 1)) x48) x46) then (ob (F80 fuel x51 x52 x53 x54 (CV.int (x47 (Int.toNat x50) 0)) (CV.int (x47 (Int.toNat x50) 1)) (CV.int (x47 (Int.toNat (Int.tmod (w64 (x50 + 1)) x48)) 0)) (CV.int (x47 (Int.toNat (Int.tmod (w64 (x50 + 1)) x48)) 1))) fun x57 => (bif x57 then (k .ret (s62v1 x51 x52 x53 x54 x55 x56)) else (loopH (B62v2 (C23 fuel) fuel) N62v2 m (s62v0 x46 x47 x48 x49 (w64 (x50 + 1)) x51 x52 x53 x54 x55 x56) k))) else none)) else none) else (loopH (B62v2 (C23 fuel) fuel) N62v2 m (s62v0 x46 x47 x48 x49 (w64 (x50 + 1)) x51 x52 x53 x54 x55 x56) k))) else (k (.exit 2) (s62v2 x46 x47 x48 x49 x51 x52 x53 x54 x55 x56))) := by kernel_rfl
theorem q62v2 (fuel : Nat) (x46 : Nat) (x47 : FF) (x48 x49 x51 x52 x53 x54 x55 x56 : Int) {ρ : Type} (k : Ex → St → Option ρ) : ∀ (m : Nat) (x50 : Int),
    loopH (B62v2 (C23 fuel) fuel) N62v2 m (s62v0 x46 x47 x48 x49 x50 x51 x52 x53 x54 x55 x56) k = L62v2 fuel x46 x47 x48 x49 x51 x52 x53 x54 x55 x56 m x50 (k .ret (s62v1 x51 x52 x53 x54 x55 x56)) (k (.exit 2) (s62v2 x46 x47 x48 x49 x51 x52 x53 x54 x55 x56))
  | 0, _ => rfl
  | m + 1, x50 => by
    rw [r62v2]
    simp only [L62v2, q62v2 fuel x46 x47 x48 x49 x51 x52 x53 x54 x55 x56 k m]
def B62v3 (C : Oracle) (fuel : Nat) {ρ : Type} : St → (Ex → St → Option ρ) → Option ρ := fun st k => evalC C fuel A87v8 st k
def N62v3 : St → Option St := fun s => s.norm (1 :: 2 :: (rl 4 8 (rl 14 84 []))) 0
def s62v3 (x29 : Nat) (x30 : FF) (x31 x32 : Int) : St := ⟨(.x (.c (.ro false kP x29 x30)) :: .u :: .u :: vxi x31 :: (us 8 (vxi x31 :: vxi x32 :: (us 84 [])))), []⟩
def s62v4 (x58 x59 x60 x61 : Int) : St := ⟨(.u :: .u :: vxb false :: (us 95 [])), [.box [(vci x58), (vci x59)], .box [(vci x60), (vci x61)]]⟩
def s62v5 (x62 x63 x64 x65 x66 x67 : Int) : St := ⟨(.u :: .u :: vxb false :: (us 95 [])), [.box [(vci x62), (vci x63)], .box [(vci x64), (vci x65)], .box [(vci x66), (vci x67)]]⟩
def s62v6 : St := ⟨(us 98 []), []⟩
def L62v3 {ρ : Type} (fuel : Nat) (x29 : Nat) (x30 : FF) (x31 : Int) : Nat → Int → (Int → Int → Int → Int → Option ρ) → (Int → Int → Int → Int → Int → Int → Option ρ) → (Option ρ) → Option ρ
  | 0, _, _, _, _ => none
  | m + 1, x32, k0, k1, k2 =>
    (bif (decide (x32 < x31)) then (bif (inb x32 x29) then (bif (x31 == 0) then none else (bif (inb (Int.tmod (w64 (x32 + 1)) x31) x29) then (bif (((CV.int (x30 (Int.toNat x32) 0)) == (CV.int (x30 (Int.toNat (Int.tmod (w64 (x32 + 1)) x31)) 0))) && (((CV.int (x30 (Int.toNat x32) 1)) == (CV.int (x30 (Int.toNat (Int.tmod (w64 (x32 + 1)) x31)) 1))) && true)) then (k0 (CV.int (x30 (Int.toNat x32) 0)) (CV.int (x30 (Int.toNat x32) 1)) (CV.int (x30 (Int.toNat (Int.tmod (w64 (x32 + 1)) x31)) 0)) (CV.int (x30 (Int.toNat (Int.tmod (w64 (x32 + 1)) x31)) 1))) else (bif (x31 == 0) then none else (bif (inb (Int.tmod (w64 (x32 + 2)) x31) x29) then (ob (F79 fuel (CV.int (x30 (Int.toNat x32) 0)) (CV.int (x30 (Int.toNat x32) 1)) (CV.int (x30 (Int.toNat (Int.tmod (w64 (x32 + 1)) x31)) 0)) (CV.int (x30 (Int.toNat (Int.tmod (w64 (x32 + 1)) x31)) 1)) (CV.int (x30 (Int.toNat (Int.tmod (w64 (x32 + 2)) x31)) 0)) (CV.int (x30 (Int.toNat (Int.tmod (w64 (x32 + 2)) x31)) 1))) fun x33 => (bif ((x33 == 0) == true) then (bif (decide ((w64 ((w64 ((w64 ((CV.int (x30 (Int.toNat x32) 0)) - (CV.int (x30 (Int.toNat (Int.tmod (w64 (x32 + 1)) x31)) 0)))) * (w64 ((CV.int (x30 (Int.toNat (Int.tmod (w64 (x32 + 2)) x31)) 0)) - (CV.int (x30 (Int.toNat (Int.tmod (w64 (x32 + 1)) x31)) 0)))))) + (w64 ((w64 ((CV.int (x30 (Int.toNat x32) 1)) - (CV.int (x30 (Int.toNat (Int.tmod (w64 (x32 + 1)) x31)) 1)))) * (w64 ((CV.int (x30 (Int.toNat (Int.tmod (w64 (x32 + 2)) x31)) 1)) - (CV.int (x30 (Int.toNat (Int.tmod (w64 (x32 + 1)) x31)) 1)))))))) > 0)) then (k1 (CV.int (x30 (Int.toNat x32) 0)) (CV.int (x30 (Int.toNat x32) 1)) (CV.int (x30 (Int.toNat (Int.tmod (w64 (x32 + 1)) x31)) 0)) (CV.int (x30 (Int.toNat (Int.tmod (w64 (x32 + 1)) x31)) 1)) (CV.int (x30 (Int.toNat (Int.tmod (w64 (x32 + 2)) x31)) 0)) (CV.int (x30 (Int.toNat (Int.tmod (w64 (x32 + 2)) x31)) 1))) else (L62v2 fuel x29 x30 x31 x32 (CV.int (x30 (Int.toNat x32) 0)) (CV.int (x30 (Int.toNat x32) 1)) (CV.int (x30 (Int.toNat (Int.tmod (w64 (x32 + 1)) x31)) 0)) (CV.int (x30 (Int.toNat (Int.tmod (w64 (x32 + 1)) x31)) 1)) (CV.int (x30 (Int.toNat (Int.tmod (w64 (x32 + 2)) x31)) 0)) (CV.int (x30 (Int.toNat (Int.tmod (w64 (x32 + 2)) x31)) 1)) fuel (w64 (x32 + 2))
    (k1 (CV.int (x30 (Int.toNat x32) 0)) (CV.int (x30 (Int.toNat x32) 1)) (CV.int (x30 (Int.toNat (Int.tmod (w64 (x32 + 1)) x31)) 0)) (CV.int (x30 (Int.toNat (Int.tmod (w64 (x32 + 1)) x31)) 1)) (CV.int (x30 (Int.toNat (Int.tmod (w64 (x32 + 2)) x31)) 0)) (CV.int (x30 (Int.toNat (Int.tmod (w64 (x32 + 2)) x31)) 1)))
    (L62v3 fuel x29 x30 x31 m (w64 (x32 + 1)) k0 k1 k2))) else (L62v2 fuel x29 x30 x31 x32 (CV.int (x30 (Int.toNat x32) 0)) (CV.int (x30 (Int.toNat x32) 1)) (CV.int (x30 (Int.toNat (Int.tmod (w64 (x32 + 1)) x31)) 0)) (CV.int (x30 (Int.toNat (Int.tmod (w64 (x32 + 1)) x31)) 1)) (CV.int (x30 (Int.toNat (Int.tmod (w64 (x32 + 2)) x31)) 0)) (CV.int (x30 (Int.toNat (Int.tmod (w64 (x32 + 2)) x31)) 1)) fuel (w64 (x32 + 2))
    (k1 (CV.int (x30 (Int.toNat x32) 0)) (CV.int (x30 (Int.toNat x32) 1)) (CV.int (x30 (Int.toNat (Int.tmod (w64 (x32 + 1)) x31)) 0)) (CV.int (x30 (Int.toNat (Int.tmod (w64 (x32 + 1)) x31)) 1)) (CV.int (x30 (Int.toNat (Int.tmod (w64 (x32 + 2)) x31)) 0)) (CV.int (x30 (Int.toNat (Int.tmod (w64 (x32 + 2)) x31)) 1)))
    (L62v3 fuel x29 x30 x31 m (w64 (x32 + 1)) k0 k1 k2)))) else none))) else none)) else none) else k2)
theorem nl62v3 {ρ σ : Type} (fuel : Nat) (x29 : Nat) (x30 : FF) (x31 : Int) (g : ρ → Option σ) : ∀ (m : Nat) (x32 : Int) (k0 : Int → Int → Int → Int → Option ρ) (k1 : Int → Int → Int → Int → Int → Int → Option ρ) (k2 : Option ρ), ob (L62v3 fuel x29 x30 x31 m x32 k0 k1 k2) g = L62v3 fuel x29 x30 x31 m x32 (fun x58 x59 x60 x61 => ob (k0 x58 x59 x60 x61) g) (fun x62 x63 x64 x65 x66 x67 => ob (k1 x62 x63 x64 x65 x66 x67) g) (ob k2 g)
  | 0, _, _, _, _ => rfl
  | m + 1, x32, k0, k1, k2 => by
    simp only [L62v3, ob_bif, ob_ob, ob_none, nl62v3 fuel x29 x30 x31 g m, nl62v2]
def s62v7 (x29 : Nat) (x30 : FF) (x31 x32 : Int) : St := ⟨(.x (.c (.ro false kP x29 x30)) :: .u :: .u :: vxi x31 :: vxi x32 :: .x (.ptr 0 0) :: .x (.ptr 1 0) :: .x (.ptr 2 0) :: vxi (w64 (x32 + 2)) :: (us 3 (vxi x31 :: vxi x32 :: vxb true :: vxi x32 :: .x (.c (.ro false kP x29 x30)) :: vxi x32 :: .x (.c (.rp kP (x30 (Int.toNat x32)))) :: .agg [(vci (CV.int (x30 (Int.toNat x32) 0))), (vci (CV.int (x30 (Int.toNat x32) 1)))] :: .x (.c (.ro false kP x29 x30)) :: vxi x32 :: vxi (w64 (x32 + 1)) :: vxi x31 :: vxi (Int.tmod (w64 (x32 + 1)) x31) :: .x (.c (.rp kP (x30 (Int.toNat (Int.tmod (w64 (x32 + 1)) x31))))) :: .agg [(vci (CV.int (x30 (Int.toNat (Int.tmod (w64 (x32 + 1)) x31)) 0))), (vci (CV.int (x30 (Int.toNat (Int.tmod (w64 (x32 + 1)) x31)) 1)))] :: (us 3 (.x (.c (.ro false kP x29 x30)) :: vxi x32 :: vxi (w64 (x32 + 2)) :: vxi x31 :: vxi (Int.tmod (w64 (x32 + 2)) x31) :: .x (.c (.rp kP (x30 (Int.toNat (Int.tmod (w64 (x32 + 2)) x31))))) :: .agg [(vci (CV.int (x30 (Int.toNat (Int.tmod (w64 (x32 + 2)) x31)) 0))), (vci (CV.int (x30 (Int.toNat (Int.tmod (w64 (x32 + 2)) x31)) 1)))] :: (us 31 (vxi x32 :: vxi (w64 (x32 + 2)) :: (us 28 [])))))))), [.box [(vci (CV.int (x30 (Int.toNat x32) 0))), (vci (CV.int (x30 (Int.toNat x32) 1)))], .box [(vci (CV.int (x30 (Int.toNat (Int.tmod (w64 (x32 + 1)) x31)) 0))), (vci (CV.int (x30 (Int.toNat (Int.tmod (w64 (x32 + 1)) x31)) 1)))], .box [(vci (CV.int (x30 (Int.toNat (Int.tmod (w64 (x32 + 2)) x31)) 0))), (vci (CV.int (x30 (Int.toNat (Int.tmod (w64 (x32 + 2)) x31)) 1)))]]⟩
theorem r62v3 (fuel : Nat) (m : Nat) {ρ : Type} (k : Ex → St → Option ρ) (x29 : Nat) (x30 : FF) (x31 x32 : Int) :
    loopH (B62v3 (C23 fuel) fuel) N62v3 (m + 1) (s62v3 x29 x30 x31 x32) k =
    (bif (decide (x32 < x31)) then (bif (inb x32 x29) then (bif (x31 == 0) then none else (bif (inb (Int.tmod (w64 (x32 + 1)) x31) x29) then (bif (((CV.int (x30 (Int.toNat x32) 0)) == (CV.int (x30 (Int.toNat (Int.tmod (w64 (x32 + 1)) x31)) 0))) && (((CV.int (x30 (Int.toNat x32) 1)) == (CV.int (x30 (Int.toNat (Int.tmod (w64 (x32 + 1)) x31)) 1))) && true)) then (k .ret (s62v4 (CV.int (x30 (Int.toNat x32) 0)) (CV.int (x30 (Int.toNat x32) 1)) (CV.int (x30 (Int.toNat (Int.tmod (w64 (x32 + 1)) x31)) 0)) (CV.int (x30 (Int.toNat (Int.tmod (w64 (x32 + 1)) x31)) 1)))) else (bif (x31 == 0) then none else (bif (inb (Int.tmod (w64 (x32 + 2)) x31) x29) then (ob (F79 fuel (CV.int (x30 (Int.toNat x32) 0)) (CV.int (x30 (Int.toNat x32) 1)) (CV.int (x30 (Int.toNat (Int.tmod (w64 (x32 + 1)) x31)) 0)) (CV.int (x30 (Int.toNat (Int.tmod (w64 (x32 + 1)) x31)) 1)) (CV.int (x30 (Int.toNat (Int.tmod (w64 (x32 + 2)) x31)) 0)) (CV.int (x30 (Int.toNat (Int.tmod (w64 (x32 + 2)) x31)) 1))) fun x33 => (bif ((x33 == 0) == true) then (bif (decide ((w64 ((w64 ((w64 ((CV.int (x30 (Int.toNat x32) 0)) - (CV.int (x30 (Int.toNat (Int.tmod (w64 (x32 + 1)) x31)) 0)))) * (w64 ((CV.int (x30 (Int.toNat (Int.tmod (w64 (x32 + 2)) x31)) 0)) - (CV.int (x30 (Int.toNat (Int.tmod (w64 (x32 + 1)) x31)) 0)))))) + (w64 ((w64 ((CV.int (x30 (Int.toNat x32) 1)) - (CV.int (x30 (Int.toNat (Int.tmod (w64 (x32 + 1)) x31)) 1)))) * (w64 ((CV.int (x30 (Int.toNat (Int.tmod (w64 (x32 + 2)) x31)) 1)) - (CV.int (x30 (Int.toNat (Int.tmod (w64 (x32 + 1)) x31)) 1)))))))) > 0)) then (k .ret (s62v5 (CV.int (x30 (Int.toNat x32) 0)) (CV.int (x30 (Int.toNat x32) 1)) (CV.int (x30 (Int.toNat (Int.tmod (w64 (x32 + 1)) x31)) 0)) (CV.int (x30 (Int.toNat (Int.tmod (w64 (x32 + 1)) x31)) 1)) (CV.int (x30 (Int.toNat (Int.tmod (w64 (x32 + 2)) x31)) 0)) (CV.int (x30 (Int.toNat (Int.tmod (w64 (x32 + 2)) x31)) 1)))) else (loopN (B62v2 (C23 fuel) fuel) N62v2 fuel (s62v7 x29 x30 x31 x32) (kBlk 2 (kBlk 1 (kSeq (C23 fuel) fuel (2 :: (rl 4 5 (rl 15 82 []))) A87v6 (kLoop (B62v3 (C23 fuel) fuel) N62v3 m k)))))) else (loopN (B62v2 (C23 fuel) fuel) N62v2 fuel (s62v7 x29 x30 x31 x32) (kBlk 2 (kBlk 1 (kSeq (C23 fuel) fuel (2 :: (rl 4 5 (rl 15 82 []))) A87v6 (kLoop (B62v3 (C23 fuel) fuel) N62v3 m k))))))) else none))) else none)) else none) else (k (.exit 0) s62v6)) := by kernel_rfl
theorem t62v1 (fuel : Nat) {ρ : Type} (k : Ex → St → Option ρ) (x29 : Nat) (x30 : FF) (x31 x32 : Int) :
    loopN (B62v2 (C23 fuel) fuel) N62v2 fuel (s62v7 x29 x30 x31 x32) k =
    L62v2 fuel x29 x30 x31 x32 (CV.int (x30 (Int.toNat x32) 0)) (CV.int (x30 (Int.toNat x32) 1)) (CV.int (x30 (Int.toNat (Int.tmod (w64 (x32 + 1)) x31)) 0)) (CV.int (x30 (Int.toNat (Int.tmod (w64 (x32 + 1)) x31)) 1)) (CV.int (x30 (Int.toNat (Int.tmod (w64 (x32 + 2)) x31)) 0)) (CV.int (x30 (Int.toNat (Int.tmod (w64 (x32 + 2)) x31)) 1)) fuel (w64 (x32 + 2)) (k .ret (s62v1 (CV.int (x30 (Int.toNat x32) 0)) (CV.int (x30 (Int.toNat x32) 1)) (CV.int (x30 (Int.toNat (Int.tmod (w64 (x32 + 1)) x31)) 0)) (CV.int (x30 (Int.toNat (Int.tmod (w64 (x32 + 1)) x31)) 1)) (CV.int (x30 (Int.toNat (Int.tmod (w64 (x32 + 2)) x31)) 0)) (CV.int (x30 (Int.toNat (Int.tmod (w64 (x32 + 2)) x31)) 1)))) (k (.exit 2) (s62v2 x29 x30 x31 x32 (CV.int (x30 (Int.toNat x32) 0)) (CV.int (x30 (Int.toNat x32) 1)) (CV.int (x30 (Int.toNat (Int.tmod (w64 (x32 + 1)) x31)) 0)) (CV.int (x30 (Int.toNat (Int.tmod (w64 (x32 + 1)) x31)) 1)) (CV.int (x30 (Int.toNat (Int.tmod (w64 (x32 + 2)) x31)) 0)) (CV.int (x30 (Int.toNat (Int.tmod (w64 (x32 + 2)) x31)) 1)))) :=
  (loopN_at (st' := (s62v0 x29 x30 x31 x32 (w64 (x32 + 2)) (CV.int (x30 (Int.toNat x32) 0)) (CV.int (x30 (Int.toNat x32) 1)) (CV.int (x30 (Int.toNat (Int.tmod (w64 (x32 + 1)) x31)) 0)) (CV.int (x30 (Int.toNat (Int.tmod (w64 (x32 + 1)) x31)) 1)) (CV.int (x30 (Int.toNat (Int.tmod (w64 (x32 + 2)) x31)) 0)) (CV.int (x30 (Int.toNat (Int.tmod (w64 (x32 + 2)) x31)) 1)))) (by kernel_rfl)).trans (q62v2 fuel x29 x30 x31 x32 (CV.int (x30 (Int.toNat x32) 0)) (CV.int (x30 (Int.toNat x32) 1)) (CV.int (x30 (Int.toNat (Int.tmod (w64 (x32 + 1)) x31)) 0)) (CV.int (x30 (Int.toNat (Int.tmod (w64 (x32 + 1)) x31)) 1)) (CV.int (x30 (Int.toNat (Int.tmod (w64 (x32 + 2)) x31)) 0)) (CV.int (x30 (Int.toNat (Int.tmod (w64 (x32 + 2)) x31)) 1)) k fuel (w64 (x32 + 2)))
theorem g62v2 (fuel : Nat) (m : Nat) {ρ : Type} (k : Ex → St → Option ρ) (x30 : FF) (x32 x31 : Int) :
    (kBlk 2 (kBlk 1 (kSeq (C23 fuel) fuel (2 :: (rl 4 5 (rl 15 82 []))) A87v6 (kLoop (B62v3 (C23 fuel) fuel) N62v3 m k)))) .ret (s62v1 (CV.int (x30 (Int.toNat x32) 0)) (CV.int (x30 (Int.toNat x32) 1)) (CV.int (x30 (Int.toNat (Int.tmod (w64 (x32 + 1)) x31)) 0)) (CV.int (x30 (Int.toNat (Int.tmod (w64 (x32 + 1)) x31)) 1)) (CV.int (x30 (Int.toNat (Int.tmod (w64 (x32 + 2)) x31)) 0)) (CV.int (x30 (Int.toNat (Int.tmod (w64 (x32 + 2)) x31)) 1))) =
    (k .ret (s62v5 (CV.int (x30 (Int.toNat x32) 0)) (CV.int (x30 (Int.toNat x32) 1)) (CV.int (x30 (Int.toNat (Int.tmod (w64 (x32 + 1)) x31)) 0)) (CV.int (x30 (Int.toNat (Int.tmod (w64 (x32 + 1)) x31)) 1)) (CV.int (x30 (Int.toNat (Int.tmod (w64 (x32 + 2)) x31)) 0)) (CV.int (x30 (Int.toNat (Int.tmod (w64 (x32 + 2)) x31)) 1)))) := by kernel_rfl
theorem g62v3 (fuel : Nat) (m : Nat) {ρ : Type} (k : Ex → St → Option ρ) (x29 : Nat) (x30 : FF) (x31 x32 : Int) :
    (kBlk 2 (kBlk 1 (kSeq (C23 fuel) fuel (2 :: (rl 4 5 (rl 15 82 []))) A87v6 (kLoop (B62v3 (C23 fuel) fuel) N62v3 m k)))) (.exit 2) (s62v2 x29 x30 x31 x32 (CV.int (x30 (Int.toNat x32) 0)) (CV.int (x30 (Int.toNat x32) 1)) (CV.int (x30 (Int.toNat (Int.tmod (w64 (x32 + 1)) x31)) 0)) (CV.int (x30 (Int.toNat (Int.tmod (w64 (x32 + 1)) x31)) 1)) (CV.int (x30 (Int.toNat (Int.tmod (w64 (x32 + 2)) x31)) 0)) (CV.int (x30 (Int.toNat (Int.tmod (w64 (x32 + 2)) x31)) 1))) =
    (loopH (B62v3 (C23 fuel) fuel) N62v3 m (s62v3 x29 x30 x31 (w64 (x32 + 1))) k) := by kernel_rfl
theorem t62v4 (fuel : Nat) {ρ : Type} (k : Ex → St → Option ρ) (x29 : Nat) (x30 : FF) (x31 x32 : Int) :
    loopN (B62v2 (C23 fuel) fuel) N62v2 fuel (s62v7 x29 x30 x31 x32) k =
    L62v2 fuel x29 x30 x31 x32 (CV.int (x30 (Int.toNat x32) 0)) (CV.int (x30 (Int.toNat x32) 1)) (CV.int (x30 (Int.toNat (Int.tmod (w64 (x32 + 1)) x31)) 0)) (CV.int (x30 (Int.toNat (Int.tmod (w64 (x32 + 1)) x31)) 1)) (CV.int (x30 (Int.toNat (Int.tmod (w64 (x32 + 2)) x31)) 0)) (CV.int (x30 (Int.toNat (Int.tmod (w64 (x32 + 2)) x31)) 1)) fuel (w64 (x32 + 2)) (k .ret (s62v1 (CV.int (x30 (Int.toNat x32) 0)) (CV.int (x30 (Int.toNat x32) 1)) (CV.int (x30 (Int.toNat (Int.tmod (w64 (x32 + 1)) x31)) 0)) (CV.int (x30 (Int.toNat (Int.tmod (w64 (x32 + 1)) x31)) 1)) (CV.int (x30 (Int.toNat (Int.tmod (w64 (x32 + 2)) x31)) 0)) (CV.int (x30 (Int.toNat (Int.tmod (w64 (x32 + 2)) x31)) 1)))) (k (.exit 2) (s62v2 x29 x30 x31 x32 (CV.int (x30 (Int.toNat x32) 0)) (CV.int (x30 (Int.toNat x32) 1)) (CV.int (x30 (Int.toNat (Int.tmod (w64 (x32 + 1)) x31)) 0)) (CV.int (x30 (Int.toNat (Int.tmod (w64 (x32 + 1)) x31)) 1)) (CV.int (x30 (Int.toNat (Int.tmod (w64 (x32 + 2)) x31)) 0)) (CV.int (x30 (Int.toNat (Int.tmod (w64 (x32 + 2)) x31)) 1)))) :=
  (loopN_at (st' := (s62v0 x29 x30 x31 x32 (w64 (x32 + 2)) (CV.int (x30 (Int.toNat x32) 0)) (CV.int (x30 (Int.toNat x32) 1)) (CV.int (x30 (Int.toNat (Int.tmod (w64 (x32 + 1)) x31)) 0)) (CV.int (x30 (Int.toNat (Int.tmod (w64 (x32 + 1)) x31)) 1)) (CV.int (x30 (Int.toNat (Int.tmod (w64 (x32 + 2)) x31)) 0)) (CV.int (x30 (Int.toNat (Int.tmod (w64 (x32 + 2)) x31)) 1)))) (by kernel_rfl)).trans (q62v2 fuel x29 x30 x31 x32 (CV.int (x30 (Int.toNat x32) 0)) (CV.int (x30 (Int.toNat x32) 1)) (CV.int (x30 (Int.toNat (Int.tmod (w64 (x32 + 1)) x31)) 0)) (CV.int (x30 (Int.toNat (Int.tmod (w64 (x32 + 1)) x31)) 1)) (CV.int (x30 (Int.toNat (Int.tmod (w64 (x32 + 2)) x31)) 0)) (CV.int (x30 (Int.toNat (Int.tmod (w64 (x32 + 2)) x31)) 1)) k fuel (w64 (x32 + 2)))
theorem g62v5 (fuel : Nat) (m : Nat) {ρ : Type} (k : Ex → St → Option ρ) (x30 : FF) (x32 x31 : Int) :
    (kBlk 2 (kBlk 1 (kSeq (C23 fuel) fuel (2 :: (rl 4 5 (rl 15 82 []))) A87v6 (kLoop (B62v3 (C23 fuel) fuel) N62v3 m k)))) .ret (s62v1 (CV.int (x30 (Int.toNat x32) 0)) (CV.int (x30 (Int.toNat x32) 1)) (CV.int (x30 (Int.toNat (Int.tmod (w64 (x32 + 1)) x31)) 0)) (CV.int (x30 (Int.toNat (Int.tmod (w64 (x32 + 1)) x31)) 1)) (CV.int (x30 (Int.toNat (Int.tmod (w64 (x32 + 2)) x31)) 0)) (CV.int (x30 (Int.toNat (Int.tmod (w64 (x32 + 2)) x31)) 1))) =
    (k .ret (s62v5 (CV.int (x30 (Int.toNat x32) 0)) (CV.int (x30 (Int.toNat x32) 1)) (CV.int (x30 (Int.toNat (Int.tmod (w64 (x32 + 1)) x31)) 0)) (CV.int (x30 (Int.toNat (Int.tmod (w64 (x32 + 1)) x31)) 1)) (CV.int (x30 (Int.toNat (Int.tmod (w64 (x32 + 2)) x31)) 0)) (CV.int (x30 (Int.toNat (Int.tmod (w64 (x32 + 2)) x31)) 1)))) := by kernel_rfl
theorem g62v6 (fuel : Nat) (m : Nat) {ρ : Type} (k : Ex → St → Option ρ) (x29 : Nat) (x30 : FF) (x31 x32 : Int) :
    (kBlk 2 (kBlk 1 (kSeq (C23 fuel) fuel (2 :: (rl 4 5 (rl 15 82 []))) A87v6 (kLoop (B62v3 (C23 fuel) fuel) N62v3 m k)))) (.exit 2) (s62v2 x29 x30 x31 x32 (CV.int (x30 (Int.toNat x32) 0)) (CV.int (x30 (Int.toNat x32) 1)) (CV.int (x30 (Int.toNat (Int.tmod (w64 (x32 + 1)) x31)) 0)) (CV.int (x30 (Int.toNat (Int.tmod (w64 (x32 + 1)) x31)) 1)) (CV.int (x30 (Int.toNat (Int.tmod (w64 (x32 + 2)) x31)) 0)) (CV.int (x30 (Int.toNat (Int.tmod (w64 (x32 + 2)) x31)) 1))) =
    (loopH (B62v3 (C23 fuel) fuel) N62v3 m (s62v3 x29 x30 x31 (w64 (x32 + 1))) k) := by kernel_rfl
theorem q62v3 (fuel : Nat) (x29 : Nat) (x30 : FF) (x31 : Int) {ρ : Type} (k : Ex → St → Option ρ) : ∀ (m : Nat) (x32 : Int),
    loopH (B62v3 (C23 fuel) fuel) N62v3 m (s62v3 x29 x30 x31 x32) k = L62v3 fuel x29 x30 x31 m x32 (fun x58 x59 x60 x61 => k .ret (s62v4 x58 x59 x60 x61)) (fun x62 x63 x64 x65 x66 x67 => k .ret (s62v5 x62 x63 x64 x65 x66 x67)) (k (.exit 0) s62v6)
  | 0, _ => rfl
  | m + 1, x32 => by
    rw [r62v3]
    simp only [L62v3, q62v3 fuel x29 x30 x31 k m, t62v1, g62v2, g62v3, t62v4, g62v5, g62v6]
def D62 {ρ : Type} (fuel : Nat) (x1 : Nat) (x2 : FF) (k : Bool → Option ρ) : Option ρ :=
  (L62v3 fuel x1 x2 (Int.ofNat x1) fuel 0
    (fun x68 x69 x70 x71 => (k false))
    (fun x72 x73 x74 x75 x76 x77 => (k false))
    (k true))
def F62 (fuel : Nat) (x1 : Nat) (x2 : FF) : Option (Bool) := D62 fuel x1 x2 some
theorem f62 {ρ : Type} (fuel : Nat) (x1 : Nat) (x2 : FF) (k : (Bool) → Option ρ) : D62 fuel x1 x2 k = ob (F62 fuel x1 x2) k := by
  simp only [F62, D62, ob_bif, ob_ob, ob_none, ob_some, nl62v3]
def s62v8 (x1 : Nat) (x2 : FF) : St := ⟨[.x (.c (.ro false kP x1 x2)), .undef, vxb false, vxi (Int.ofNat x1), .undef, .undef, .undef, .undef, .undef, .x (.c (.ro false kP x1 x2)), vxi (Int.ofNat x1), .x (.c (.ro false kP x1 x2)), vxi (Int.ofNat x1), vxi 0, .undef, .undef, .undef, .undef, .undef, .undef, .undef, .undef, .undef, .undef, .undef, .undef, .undef, .undef, .undef, .undef, .undef, .undef, .undef, .undef, .undef, .undef, .undef, .undef, .undef, .undef, .undef, .undef, .undef, .undef, .undef, .undef, .undef, .undef, .undef, .undef, .undef, .undef, .undef, .undef, .undef, .undef, .undef, .undef, .undef, .undef, .undef, .undef, .undef, .undef, .undef, .undef, .undef, .undef, .undef, .undef, .undef, .undef, .undef, .undef, .undef, .undef, .undef, .undef, .undef, .undef, .undef, .undef, .undef, .undef, .undef, .undef, .undef, .undef, .undef, .undef, .undef, .undef, .undef, .undef, .undef, .undef, .undef, .undef], []⟩
theorem walk62 (fuel : Nat) (x1 : Nat) (x2 : FF) :
    evalF (C23 fuel) fuel A87 [.v (.ro false kP x1 x2)] =
    (loopN (B62v3 (C23 fuel) fuel) N62v3 fuel (s62v8 x1 x2) (kBlk 0 (kSeq (C23 fuel) fuel (2 :: (rl 4 5 (rl 11 87 []))) A87v9 (finish A87)))) := by kernel_rfl
theorem t62v7 (fuel : Nat) {ρ : Type} (k : Ex → St → Option ρ) (x1 : Nat) (x2 : FF) :
    loopN (B62v3 (C23 fuel) fuel) N62v3 fuel (s62v8 x1 x2) k =
    L62v3 fuel x1 x2 (Int.ofNat x1) fuel 0 (fun x58 x59 x60 x61 => k .ret (s62v4 x58 x59 x60 x61)) (fun x62 x63 x64 x65 x66 x67 => k .ret (s62v5 x62 x63 x64 x65 x66 x67)) (k (.exit 0) s62v6) :=
  (loopN_at (st' := (s62v3 x1 x2 (Int.ofNat x1) 0)) (by kernel_rfl)).trans (q62v3 fuel x1 x2 (Int.ofNat x1) k fuel 0)
theorem g62v8 (fuel : Nat) (x68 x69 x70 x71 : Int) :
    (kBlk 0 (kSeq (C23 fuel) fuel (2 :: (rl 4 5 (rl 11 87 []))) A87v9 (finish A87))) .ret (s62v4 x68 x69 x70 x71) =
    (some [.v (.b false)]) := by kernel_rfl
theorem g62v9 (fuel : Nat) (x72 x73 x74 x75 x76 x77 : Int) :
    (kBlk 0 (kSeq (C23 fuel) fuel (2 :: (rl 4 5 (rl 11 87 []))) A87v9 (finish A87))) .ret (s62v5 x72 x73 x74 x75 x76 x77) =
    (some [.v (.b false)]) := by kernel_rfl
theorem g62v10 (fuel : Nat) :
    (kBlk 0 (kSeq (C23 fuel) fuel (2 :: (rl 4 5 (rl 11 87 []))) A87v9 (finish A87))) (.exit 0) s62v6 =
    (some [.v (.b true)]) := by kernel_rfl
theorem e62 (fuel : Nat) (x1 : Nat) (x2 : FF) : evalF (C23 fuel) fuel A87 [.v (.ro false kP x1 x2)] = ob (F62 fuel x1 x2) fun t => some [.v (.b t)] := by
  rw [walk62, ← f62]
  simp only [D62, t62v7, g62v8, g62v9, g62v10]
def O62 (fuel : Nat) : Ora where
  o := fun args {ρ} K =>
    wcL kP args fun y4 y5 l2 =>
    wn l2 <|
    (ob (F62 fuel y4 y5) fun t => K [.v (.b t)])
  nat := fun args {ρ} K => by
    simp only [bind_wcL, bind_wn, bind_ob, Option.bind_some]
theorem d62 {P : Program} (fuel : Nat) (hmix : P.follows .mixedOrders = true) (hC : Sound P (C23 fuel)) (hF : FFits P 87 A87) (args res : List A) (h : (O62 fuel).o args some = some res) : Den P 87 args res := by
  obtain ⟨a1, y4, y5, l2, rfl, h3, z0⟩ := inv_wcL h
  obtain ⟨hn, z1⟩ := inv_wn z0
  cases hn
  exact Den.weaken (.cons h3 .nil) (evalF_sound hmix hC hF ((e62 fuel y4 y5).trans z1))
def C24 (fuel : Nat) : Oracle := (C23 fuel).add 87 (fun _ => true) (O62 fuel)
def A88v1 : AC := (.seq (.block 1
  (.seq (.region 4 [mv 11 9, o1 12 (.indexAddr 22 40 2 (tm 7) (tm 9)), o1 13 (ln 40 2 12), o1 5 (.alloc 0 40 [vci 0, vci 0]), o1 4 (sg 11), o0 (.store 40 2 (tm 5) (tm 13))] 1 none) []
    (.seq (.region 5 [mv 14 0, mv 15 4, o1 16 (bk .add 3 15 1), mv 17 0, o1 18 (.len 22 false (tm 17)), o1 19 (bt .rem 3 16 18), o1 20 (.indexAddr 22 40 2 (tm 14) (tm 19)), o1 21 (ln 40 2 20), o1 6 (.alloc 0 40 [vci 0, vci 0]), o0 (.store 40 2 (tm 6) (tm 21))] 1 none) []
    (.region 6 [mv 22 3, o1 23 (fa 40 5 0 0), o1 24 (lo 3 23), o1 25 (fa 40 6 1 1), o1 26 (lo 3 25), o1 27 (bt .mul 3 24 26), o1 28 (fa 40 6 0 0), o1 29 (lo 3 28), o1 30 (fa 40 5 1 1), o1 31 (lo 3 30), o1 32 (bt .mul 3 29 31), o1 33 (bt .sub 3 27 32), o1 34 (bt .add 3 22 33), o1 3 (sg 34)] 0 none)))) []
  (.region 7 [o1 35 (bk .add 3 9 1), mv 9 35] 0 none))
def A88v2 : AC := (.seq (.region 3 [o1 10 (bt .lss 3 9 8)] 0 none) []
  (.seq (.cond (tm 10)
  .skip
  (.exit 0 (0 :: 1 :: 2 :: (rl 4 33 [])))) []
  A88v1))
def A88v3 : AC := (.seq (.region 8 [mv 36 3, o1 2 (sg 36)] 0 none) []
  (.ret (0 :: 1 :: (rl 3 34 []))))
def A88 : AF := ⟨37, [.tmp 2],
  (.seq (.region 0 [o1 2 (sk 0)] 0 none) []
  (.seq (.region 1 [o1 3 (sk 0)] 0 none) []
  (.seq (.seq (.region 2 [mv 7 0, o1 8 (.len 22 false (tm 7)), o1 9 (.move (ic 0))] 0 none) []
  (.block 0
  (.loop [] (1 :: 2 :: 4 :: 5 :: 6 :: (rl 10 27 []))
    A88v2))) (rl 4 32 [])
  A88v3)))⟩
def B63v1 (C : Oracle) (fuel : Nat) {ρ : Type} : St → (Ex → St → Option ρ) → Option ρ := fun st k => evalC C fuel A88v2 st k
def N63v1 : St → Option St := fun s => s.norm (1 :: 2 :: 4 :: 5 :: 6 :: (rl 10 27 [])) 0
def s63v0 (x6 : Nat) (x7 : FF) (x8 x9 x10 : Int) : St := ⟨(.x (.c (.ro false kP x6 x7)) :: .u :: .u :: vxi x8 :: (us 3 (.x (.c (.ro false kP x6 x7)) :: vxi x9 :: vxi x10 :: (us 27 [])))), []⟩
def s63v1 (x11 : Int) : St := ⟨(us 3 (vxi x11 :: (us 33 []))), []⟩
def L63v1 {ρ : Type} (fuel : Nat) (x6 : Nat) (x7 : FF) (x9 : Int) : Nat → Int → Int → (Int → Option ρ) → Option ρ
  | 0, _, _, _ => none
  | m + 1, x8, x10, k0 =>
    (bif (decide (x10 < x9)) then (bif (inb x10 x6) then (bif ((Int.ofNat x6) == 0) then none else (bif (inb (Int.tmod (w64 (x10 + 1)) (Int.ofNat x6)) x6) then (L63v1 fuel x6 x7 x9 m (w64 (x8 + (w64 ((w64 ((CV.int (x7 (Int.toNat x10) 0)) * (CV.int (x7 (Int.toNat (Int.tmod (w64 (x10 + 1)) (Int.ofNat x6))) 1)))) - (w64 ((CV.int (x7 (Int.toNat (Int.tmod (w64 (x10 + 1)) (Int.ofNat x6))) 0)) * (CV.int (x7 (Int.toNat x10) 1)))))))) (w64 (x10 + 1)) k0) else none)) else none) else (k0 x8))
theorem nl63v1 {ρ σ : Type} (fuel : Nat) (x6 : Nat) (x7 : FF) (x9 : Int) (g : ρ → Option σ) : ∀ (m : Nat) (x8 x10 : Int) (k0 : Int → Option ρ), ob (L63v1 fuel x6 x7 x9 m x8 x10 k0) g = L63v1 fuel x6 x7 x9 m x8 x10 (fun x11 => ob (k0 x11) g)
  | 0, _, _, _ => rfl
  | m + 1, x8, x10, k0 => by
    simp only [L63v1, ob_bif, ob_ob, ob_none, nl63v1 fuel x6 x7 x9 g m]
theorem r63v1 (fuel : Nat) (m : Nat) {ρ : Type} (k : Ex → St → Option ρ) (x6 : Nat) (x7 : FF) (x9 x8 x10 : Int) :
    loopH (B63v1 (C24 fuel) fuel) N63v1 (m + 1) (s63v0 x6 x7 x8 x9 x10) k =
    (bif (decide (x10 < x9)) then (bif (inb x10 x6) then (bif ((Int.ofNat x6) == 0) then none else (bif (inb (Int.tmod (w64 (x10 + 1)) (Int.ofNat x6)) x6) then (loopH (B63v1 (C24 fuel) fuel) N63v1 m (s63v0 x6 x7 (w64 (x8 + (w64 ((w64 ((CV.int (x7 (Int.toNat x10) 0)) * (CV.int (x7 (Int.toNat (Int.tmod (w64 (x10 + 1)) (Int.ofNat x6))) 1)))) - (w64 ((CV.int (x7 (Int.toNat (Int.tmod (w64 (x10 + 1)) (Int.ofNat x6))) 0)) * (CV.int (x7 (Int.toNat x10) 1)))))))) x9 (w64 (x10 + 1))) k) else none)) else none) else (k (.exit 0) (s63v1 x8))) := by kernel_rfl
theorem q63v1 (fuel : Nat) (x6 : Nat) (x7 : FF) (x9 : Int) {ρ : Type} (k : Ex → St → Option ρ) : ∀ (m : Nat) (x8 x10 : Int),
    loopH (B63v1 (C24 fuel) fuel) N63v1 m (s63v0 x6 x7 x8 x9 x10) k = L63v1 fuel x6 x7 x9 m x8 x10 (fun x11 => k (.exit 0) (s63v1 x11))
  | 0, _, _ => rfl
  | m + 1, x8, x10 => by
    rw [r63v1]
    simp only [L63v1, q63v1 fuel x6 x7 x9 k m]
def D63 {ρ : Type} (fuel : Nat) (x1 : Nat) (x2 : FF) (k : Int → Option ρ) : Option ρ :=
  (L63v1 fuel x1 x2 (Int.ofNat x1) fuel 0 0
    (fun x12 => (k x12)))
def F63 (fuel : Nat) (x1 : Nat) (x2 : FF) : Option (Int) := D63 fuel x1 x2 some
theorem f63 {ρ : Type} (fuel : Nat) (x1 : Nat) (x2 : FF) (k : (Int) → Option ρ) : D63 fuel x1 x2 k = ob (F63 fuel x1 x2) k := by
  simp only [F63, D63, ob_bif, ob_ob, ob_none, ob_some, nl63v1]
def s63v2 (x1 : Nat) (x2 : FF) : St := ⟨[.x (.c (.ro false kP x1 x2)), .undef, vxi 0, vxi 0, .undef, .undef, .undef, .x (.c (.ro false kP x1 x2)), vxi (Int.ofNat x1), vxi 0, .undef, .undef, .undef, .undef, .undef, .undef, .undef, .undef, .undef, .undef, .undef, .undef, .undef, .undef, .undef, .undef, .undef, .undef, .undef, .undef, .undef, .undef, .undef, .undef, .undef, .undef, .undef], []⟩
theorem walk63 (fuel : Nat) (x1 : Nat) (x2 : FF) :
    evalF (C24 fuel) fuel A88 [.v (.ro false kP x1 x2)] =
    (loopN (B63v1 (C24 fuel) fuel) N63v1 fuel (s63v2 x1 x2) (kBlk 0 (kSeq (C24 fuel) fuel (rl 4 32 []) A88v3 (finish A88)))) := by kernel_rfl
theorem t63v1 (fuel : Nat) {ρ : Type} (k : Ex → St → Option ρ) (x1 : Nat) (x2 : FF) :
    loopN (B63v1 (C24 fuel) fuel) N63v1 fuel (s63v2 x1 x2) k =
    L63v1 fuel x1 x2 (Int.ofNat x1) fuel 0 0 (fun x11 => k (.exit 0) (s63v1 x11)) :=
  (loopN_at (st' := (s63v0 x1 x2 0 (Int.ofNat x1) 0)) (by kernel_rfl)).trans (q63v1 fuel x1 x2 (Int.ofNat x1) k fuel 0 0)
theorem g63v2 (fuel : Nat) (x12 : Int) :
    (kBlk 0 (kSeq (C24 fuel) fuel (rl 4 32 []) A88v3 (finish A88))) (.exit 0) (s63v1 x12) =
    (some [.v (vi x12)]) := by kernel_rfl
theorem e63 (fuel : Nat) (x1 : Nat) (x2 : FF) : evalF (C24 fuel) fuel A88 [.v (.ro false kP x1 x2)] = ob (F63 fuel x1 x2) fun t => some [.v (vi t)] := by
  rw [walk63, ← f63]
  simp only [D63, t63v1, g63v2]
def O63 (fuel : Nat) : Ora where
  o := fun args {ρ} K =>
    wcL kP args fun y4 y5 l2 =>
    wn l2 <|
    (ob (F63 fuel y4 y5) fun t => K [.v (vi t)])
  nat := fun args {ρ} K => by
    simp only [bind_wcL, bind_wn, bind_ob, Option.bind_some]
theorem d63 {P : Program} (fuel : Nat) (hmix : P.follows .mixedOrders = true) (hC : Sound P (C24 fuel)) (hF : FFits P 88 A88) (args res : List A) (h : (O63 fuel).o args some = some res) : Den P 88 args res := by
  obtain ⟨a1, y4, y5, l2, rfl, h3, z0⟩ := inv_wcL h
  obtain ⟨hn, z1⟩ := inv_wn z0
  cases hn
  exact Den.weaken (.cons h3 .nil) (evalF_sound hmix hC hF ((e63 fuel y4 y5).trans z1))
def C25 (fuel : Nat) : Oracle := (C24 fuel).add 88 (fun _ => true) (O63 fuel)
def A70v1 : AC := (.seq (.region 9 [o1 2 (sk 0)] 0 none) []
  (.ret (0 :: 1 :: (rl 3 20 []))))
def A70 : AF := ⟨23, [.tmp 2],
  (.seq (.region 0 [o1 2 (sk 0)] 0 none) []
  (.seq (.block 0
  (.seq (.region 1 [mv 4 0, o1 5 (.len 22 false (tm 4)), o1 6 (bk .lss 3 5 3), o1 3 (sg 6)] 0 none) []
    (.cond (tm 3)
    (.seq (.region 2 [o1 2 (sk 3)] 0 none) []
      (.ret (0 :: 1 :: (rl 3 20 []))))
    (.seq (.region 3 [mv 8 0, o1 9 (.len 22 false (tm 8)), o1 10 (bk .gtr 3 9 32), o1 7 (sg 10)] 0 none) []
      (.cond (tm 7)
      (.seq (.region 4 [o1 2 (sk 4)] 0 none) []
        (.ret (0 :: 1 :: (rl 3 20 []))))
      (.seq (.region 5 [mv 12 0, o1 13 (.call 85 [(tm 12), (.func 86)] [22, 97] .snap), o1 11 (sg 13)] 0 none) []
        (.cond (tm 11)
        (.seq (.region 6 [o1 2 (sk 9)] 0 none) []
          (.ret (0 :: 1 :: (rl 3 20 []))))
        (.seq (.region 7 [mv 15 0, o1 16 (cs 87 [15] [22]), o1 17 (.unOp .not 4 (tm 16)), mv 18 17, og 19 (.move (tm 0)) 18 false, og 20 (cs 88 [19] [22]) 18 false, og 21 (bk .eql 3 20 0) 18 false, o1 22 (pa 18 21), o1 14 (sg 22)] 0 none) []
          (.cond (tm 14)
          (.seq (.region 8 [o1 2 (sk 17)] 0 none) []
            (.ret (0 :: 1 :: (rl 3 20 []))))
          .skip))))))))) (rl 2 21 [])
  A70v1))⟩
def D33 {ρ : Type} (fuel : Nat) (x1 : Nat) (x2 : FF) (k : Int → Option ρ) : Option ρ :=
  (bif (decide ((Int.ofNat x1) < 3)) then (k 3) else (bif (decide ((Int.ofNat x1) > 32)) then (k 4) else (ob (F50 fuel x1 x2) fun x3 => (bif x3 then (k 9) else (ob (F62 fuel x1 x2) fun x4 => (bif ((!x4) == false) then (ob (F63 fuel x1 x2) fun x5 => (bif (x5 == 0) then (k 17) else (k 0))) else (k 17)))))))
def F33 (fuel : Nat) (x1 : Nat) (x2 : FF) : Option (Int) := D33 fuel x1 x2 some
theorem f33 {ρ : Type} (fuel : Nat) (x1 : Nat) (x2 : FF) (k : (Int) → Option ρ) : D33 fuel x1 x2 k = ob (F33 fuel x1 x2) k := by
  simp only [F33, D33, ob_bif, ob_ob, ob_none, ob_some]
theorem walk33 (fuel : Nat) (x1 : Nat) (x2 : FF) :
    evalF (C25 fuel) fuel A70 [.v (.ro false kP x1 x2)] =
    (bif (decide ((Int.ofNat x1) < 3)) then (some [.v (vi 3)]) else (bif (decide ((Int.ofNat x1) > 32)) then (some [.v (vi 4)]) else (ob (F50 fuel x1 x2) fun x3 => (bif x3 then (some [.v (vi 9)]) else (ob (F62 fuel x1 x2) fun x4 => (bif ((!x4) == false) then (ob (F63 fuel x1 x2) fun x5 => (bif (x5 == 0) then (some [.v (vi 17)]) else (some [.v (vi 0)]))) else (some [.v (vi 17)]))))))) := by kernel_rfl
theorem e33 (fuel : Nat) (x1 : Nat) (x2 : FF) : evalF (C25 fuel) fuel A70 [.v (.ro false kP x1 x2)] = ob (F33 fuel x1 x2) fun t => some [.v (vi t)] := by
  rw [walk33, ← f33]
  simp only [D33]
def O33 (fuel : Nat) : Ora where
  o := fun args {ρ} K =>
    wcL kP args fun y4 y5 l2 =>
    wn l2 <|
    (ob (F33 fuel y4 y5) fun t => K [.v (vi t)])
  nat := fun args {ρ} K => by
    simp only [bind_wcL, bind_wn, bind_ob, Option.bind_some]
theorem d33 {P : Program} (fuel : Nat) (hmix : P.follows .mixedOrders = true) (hC : Sound P (C25 fuel)) (hF : FFits P 70 A70) (args res : List A) (h : (O33 fuel).o args some = some res) : Den P 70 args res := by
  obtain ⟨a1, y4, y5, l2, rfl, h3, z0⟩ := inv_wcL h
  obtain ⟨hn, z1⟩ := inv_wn z0
  cases hn
  exact Den.weaken (.cons h3 .nil) (evalF_sound hmix hC hF ((e33 fuel y4 y5).trans z1))
def C26 (fuel : Nat) : Oracle := (C25 fuel).add 70 (fun _ => true) (O33 fuel)
def A71v1 : AC := (.seq (.region 3 [mv 6 0, o1 7 (cs 88 [6] [22]), o1 2 (sg 7)] 0 none) []
  (.ret (0 :: 1 :: (rl 3 5 []))))
def A71 : AF := ⟨8, [.tmp 2],
  (.seq (.region 0 [o1 2 (sk 0)] 0 none) []
  (.seq (.seq (.region 1 [mv 3 0, o1 4 (cs 70 [3] [22]), o1 5 (bk .neq 79 4 0)] 0 none) []
  (.cond (tm 5)
  (.seq (.region 2 [o1 2 (sk 0)] 0 none) []
    (.ret (0 :: 1 :: (rl 3 5 []))))
  .skip)) (rl 2 4 [])
  A71v1))⟩
def D34 {ρ : Type} (fuel : Nat) (x1 : Nat) (x2 : FF) (k : Int → Option ρ) : Option ρ :=
  (ob (F33 fuel x1 x2) fun x3 => (bif (x3 != 0) then (k 0) else (ob (F63 fuel x1 x2) fun x4 => (k x4))))
def F34 (fuel : Nat) (x1 : Nat) (x2 : FF) : Option (Int) := D34 fuel x1 x2 some
theorem f34 {ρ : Type} (fuel : Nat) (x1 : Nat) (x2 : FF) (k : (Int) → Option ρ) : D34 fuel x1 x2 k = ob (F34 fuel x1 x2) k := by
  simp only [F34, D34, ob_bif, ob_ob, ob_none, ob_some]
theorem walk34 (fuel : Nat) (x1 : Nat) (x2 : FF) :
    evalF (C26 fuel) fuel A71 [.v (.ro false kP x1 x2)] =
    (ob (F33 fuel x1 x2) fun x3 => (bif (x3 != 0) then (some [.v (vi 0)]) else (ob (F63 fuel x1 x2) fun x4 => (some [.v (vi x4)])))) := by kernel_rfl
theorem e34 (fuel : Nat) (x1 : Nat) (x2 : FF) : evalF (C26 fuel) fuel A71 [.v (.ro false kP x1 x2)] = ob (F34 fuel x1 x2) fun t => some [.v (vi t)] := by
  rw [walk34, ← f34]
  simp only [D34]
def O34 (fuel : Nat) : Ora where
  o := fun args {ρ} K =>
    wcL kP args fun y4 y5 l2 =>
    wn l2 <|
    (ob (F34 fuel y4 y5) fun t => K [.v (vi t)])
  nat := fun args {ρ} K => by
    simp only [bind_wcL, bind_wn, bind_ob, Option.bind_some]
theorem d34 {P : Program} (fuel : Nat) (hmix : P.follows .mixedOrders = true) (hC : Sound P (C26 fuel)) (hF : FFits P 71 A71) (args res : List A) (h : (O34 fuel).o args some = some res) : Den P 71 args res := by
  obtain ⟨a1, y4, y5, l2, rfl, h3, z0⟩ := inv_wcL h
  obtain ⟨hn, z1⟩ := inv_wn z0
  cases hn
  exact Den.weaken (.cons h3 .nil) (evalF_sound hmix hC hF ((e34 fuel y4 y5).trans z1))
def C27 (fuel : Nat) : Oracle := (C26 fuel).add 71 (fun _ => true) (O34 fuel)
def A100 : AF := ⟨30, [.tmp 6],
  (.seq (.region 0 [o1 3 (bx 0 40 0), o1 4 (bx 1 40 1), o1 5 (bx 2 40 2), o1 6 (sk 0)] 3 none) []
  (.seq (.region 1 [o1 7 (fa 40 4 0 0), o1 8 (lo 3 7), o1 9 (fa 40 3 0 0), o1 10 (lo 3 9), o1 11 (bt .sub 3 8 10), o1 12 (fa 40 5 1 1), o1 13 (lo 3 12), o1 14 (fa 40 3 1 1), o1 15 (lo 3 14), o1 16 (bt .sub 3 13 15), o1 17 (bt .mul 3 11 16), o1 18 (fa 40 4 1 1), o1 19 (lo 3 18), o1 20 (fa 40 3 1 1), o1 21 (lo 3 20), o1 22 (bt .sub 3 19 21), o1 23 (fa 40 5 0 0), o1 24 (lo 3 23), o1 25 (fa 40 3 0 0), o1 26 (lo 3 25), o1 27 (bt .sub 3 24 26), o1 28 (bt .mul 3 22 27), o1 29 (bt .sub 3 17 28), o1 6 (sg 29)] 0 none) []
  (.ret (rl 0 6 (rl 7 23 [])))))⟩
def D75 {ρ : Type} (fuel : Nat) (x1 x2 x3 x4 x5 x6 : Int) (k : Int → Option ρ) : Option ρ :=
  (k (w64 ((w64 ((w64 (x3 - x1)) * (w64 (x6 - x2)))) - (w64 ((w64 (x4 - x2)) * (w64 (x5 - x1)))))))
def F75 (fuel : Nat) (x1 x2 x3 x4 x5 x6 : Int) : Option (Int) := D75 fuel x1 x2 x3 x4 x5 x6 some
theorem f75 {ρ : Type} (fuel : Nat) (x1 x2 x3 x4 x5 x6 : Int) (k : (Int) → Option ρ) : D75 fuel x1 x2 x3 x4 x5 x6 k = ob (F75 fuel x1 x2 x3 x4 x5 x6) k := by
  simp only [F75, D75, ob_bif, ob_ob, ob_none, ob_some]
theorem walk75 (fuel : Nat) (x1 x2 x3 x4 x5 x6 : Int) :
    evalF (C27 fuel) fuel A100 [.agg [(vi x1), (vi x2)], .agg [(vi x3), (vi x4)], .agg [(vi x5), (vi x6)]] =
    (some [.v (vi (w64 ((w64 ((w64 (x3 - x1)) * (w64 (x6 - x2)))) - (w64 ((w64 (x4 - x2)) * (w64 (x5 - x1)))))))]) := by kernel_rfl
theorem e75 (fuel : Nat) (x1 x2 x3 x4 x5 x6 : Int) : evalF (C27 fuel) fuel A100 [.agg [(vi x1), (vi x2)], .agg [(vi x3), (vi x4)], .agg [(vi x5), (vi x6)]] = ob (F75 fuel x1 x2 x3 x4 x5 x6) fun t => some [.v (vi t)] := by
  rw [walk75, ← f75]
  simp only [D75]
def O75 (fuel : Nat) : Ora where
  o := fun args {ρ} K =>
    wc args fun a1 l2 =>
    wagg a1 fun l3 =>
    wdI .i64 l3 fun y7 l5 =>
    wdI .i64 l5 fun y11 l9 =>
    wn l9 <|
    wc l2 fun a12 l13 =>
    wagg a12 fun l14 =>
    wdI .i64 l14 fun y18 l16 =>
    wdI .i64 l16 fun y22 l20 =>
    wn l20 <|
    wc l13 fun a23 l24 =>
    wagg a23 fun l25 =>
    wdI .i64 l25 fun y29 l27 =>
    wdI .i64 l27 fun y33 l31 =>
    wn l31 <|
    wn l24 <|
    (ob (F75 fuel y7 y11 y18 y22 y29 y33) fun t => K [.v (vi t)])
  nat := fun args {ρ} K => by
    simp only [bind_wagg, bind_wc, bind_wdI, bind_wn, bind_ob, Option.bind_some]
theorem d75 {P : Program} (fuel : Nat) (hmix : P.follows .mixedOrders = true) (hC : Sound P (C27 fuel)) (hF : FFits P 100 A100) (args res : List A) (h : (O75 fuel).o args some = some res) : Den P 100 args res := by
  obtain ⟨a1, l2, rfl, z0⟩ := inv_wc h
  obtain ⟨l3, rfl, z1⟩ := inv_wagg z0
  obtain ⟨a4, y7, l5, rfl, h6, z2⟩ := inv_wdI z1
  obtain ⟨a8, y11, l9, rfl, h10, z3⟩ := inv_wdI z2
  obtain ⟨hn, z4⟩ := inv_wn z3
  cases hn
  obtain ⟨a12, l13, rfl, z5⟩ := inv_wc z4
  obtain ⟨l14, rfl, z6⟩ := inv_wagg z5
  obtain ⟨a15, y18, l16, rfl, h17, z7⟩ := inv_wdI z6
  obtain ⟨a19, y22, l20, rfl, h21, z8⟩ := inv_wdI z7
  obtain ⟨hn, z9⟩ := inv_wn z8
  cases hn
  obtain ⟨a23, l24, rfl, z10⟩ := inv_wc z9
  obtain ⟨l25, rfl, z11⟩ := inv_wagg z10
  obtain ⟨a26, y29, l27, rfl, h28, z12⟩ := inv_wdI z11
  obtain ⟨a30, y33, l31, rfl, h32, z13⟩ := inv_wdI z12
  obtain ⟨hn, z14⟩ := inv_wn z13
  cases hn
  obtain ⟨hn, z15⟩ := inv_wn z14
  cases hn
  exact Den.weaken (.cons (WkA.agg (.cons h6 (.cons h10 .nil))) (.cons (WkA.agg (.cons h17 (.cons h21 .nil))) (.cons (WkA.agg (.cons h28 (.cons h32 .nil))) .nil))) (evalF_sound hmix hC hF ((e75 fuel y7 y11 y18 y22 y29 y33).trans z15))
def C28 (fuel : Nat) : Oracle := (C27 fuel).add 100 (fun _ => true) (O75 fuel)
def A99 : AF := ⟨6, [.tmp 2],
  (.seq (.region 0 [o1 2 (sk 0)] 0 none) []
  (.seq (.region 1 [mv 3 0, o1 4 (.mm true [(tm 3), (ic (-1))] [3, 3]), o1 5 (.mm false [(tm 4), (ic 1)] [3, 3]), o1 2 (sg 5)] 0 none) []
  (.ret [0, 1, 3, 4, 5])))⟩
def D74 {ρ : Type} (fuel : Nat) (x1 : Int) (k : Int → Option ρ) : Option ρ :=
  (k (if 1 < (if (-1) > x1 then (-1) else x1) then 1 else (if (-1) > x1 then (-1) else x1)))
def F74 (fuel : Nat) (x1 : Int) : Option (Int) := D74 fuel x1 some
theorem f74 {ρ : Type} (fuel : Nat) (x1 : Int) (k : (Int) → Option ρ) : D74 fuel x1 k = ob (F74 fuel x1) k := by
  simp only [F74, D74, ob_bif, ob_ob, ob_none, ob_some]
theorem walk74 (fuel : Nat) (x1 : Int) :
    evalF (C28 fuel) fuel A99 [.v (vi x1)] =
    (some [.v (vi (if 1 < (if (-1) > x1 then (-1) else x1) then 1 else (if (-1) > x1 then (-1) else x1)))]) := by kernel_rfl
theorem e74 (fuel : Nat) (x1 : Int) : evalF (C28 fuel) fuel A99 [.v (vi x1)] = ob (F74 fuel x1) fun t => some [.v (vi t)] := by
  rw [walk74, ← f74]
  simp only [D74]
def O74 (fuel : Nat) : Ora where
  o := fun args {ρ} K =>
    wcI .i64 args fun y4 l2 =>
    wn l2 <|
    (ob (F74 fuel y4) fun t => K [.v (vi t)])
  nat := fun args {ρ} K => by
    simp only [bind_wcI, bind_wn, bind_ob, Option.bind_some]
theorem d74 {P : Program} (fuel : Nat) (hmix : P.follows .mixedOrders = true) (hC : Sound P (C28 fuel)) (hF : FFits P 99 A99) (args res : List A) (h : (O74 fuel).o args some = some res) : Den P 99 args res := by
  obtain ⟨a1, y4, l2, rfl, h3, z0⟩ := inv_wcI h
  obtain ⟨hn, z1⟩ := inv_wn z0
  cases hn
  exact Den.weaken (.cons h3 .nil) (evalF_sound hmix hC hF ((e74 fuel y4).trans z1))
def C29 (fuel : Nat) : Oracle := (C28 fuel).add 99 (fun _ => true) (O74 fuel)
def A101 : AF := ⟨45, [.tmp 6],
  (.seq (.region 0 [o1 3 (bx 0 40 0), o1 4 (bx 1 40 1), o1 5 (bx 2 40 2), o1 6 (sb false)] 3 none) []
  (.seq (.region 1 [o1 7 (fa 40 5 0 0), o1 8 (lo 3 7), o1 9 (fa 40 3 0 0), o1 10 (lo 3 9), o1 11 (fa 40 4 0 0), o1 12 (lo 3 11), o1 13 (.mm false [(tm 10), (tm 12)] [3, 3]), o1 14 (bt .geq 3 8 13), mv 15 14, og 16 (fa 40 5 0 0) 15 true, og 17 (lo 3 16) 15 true, og 18 (fa 40 3 0 0) 15 true, og 19 (lo 3 18) 15 true, og 20 (fa 40 4 0 0) 15 true, og 21 (lo 3 20) 15 true, og 22 (.mm true [(tm 19), (tm 21)] [3, 3]) 15 true, og 23 (bt .leq 3 17 22) 15 true, o1 24 (po 15 23), mv 25 24, og 26 (fa 40 5 1 1) 25 true, og 27 (lo 3 26) 25 true, og 28 (fa 40 3 1 1) 25 true, og 29 (lo 3 28) 25 true, og 30 (fa 40 4 1 1) 25 true, og 31 (lo 3 30) 25 true, og 32 (.mm false [(tm 29), (tm 31)] [3, 3]) 25 true, og 33 (bt .geq 3 27 32) 25 true, o1 34 (po 25 33), mv 35 34, og 36 (fa 40 5 1 1) 35 true, og 37 (lo 3 36) 35 true, og 38 (fa 40 3 1 1) 35 true, og 39 (lo 3 38) 35 true, og 40 (fa 40 4 1 1) 35 true, og 41 (lo 3 40) 35 true, og 42 (.mm true [(tm 39), (tm 41)] [3, 3]) 35 true, og 43 (bt .leq 3 37 42) 35 true, o1 44 (po 35 43), o1 6 (sg 44)] 0 none) []
  (.ret (rl 0 6 (rl 7 38 [])))))⟩
def D76 {ρ : Type} (fuel : Nat) (x1 x2 x3 x4 x5 x6 : Int) (k : Bool → Option ρ) : Option ρ :=
  (bif ((decide (x5 ≥ (if x3 < x1 then x3 else x1))) == true) then (bif ((decide (x5 ≤ (if x3 > x1 then x3 else x1))) == true) then (bif ((decide (x6 ≥ (if x4 < x2 then x4 else x2))) == true) then (k (decide (x6 ≤ (if x4 > x2 then x4 else x2)))) else (k false)) else (k false)) else (k false))
def F76 (fuel : Nat) (x1 x2 x3 x4 x5 x6 : Int) : Option (Bool) := D76 fuel x1 x2 x3 x4 x5 x6 some
theorem f76 {ρ : Type} (fuel : Nat) (x1 x2 x3 x4 x5 x6 : Int) (k : (Bool) → Option ρ) : D76 fuel x1 x2 x3 x4 x5 x6 k = ob (F76 fuel x1 x2 x3 x4 x5 x6) k := by
  simp only [F76, D76, ob_bif, ob_ob, ob_none, ob_some]
theorem walk76 (fuel : Nat) (x1 x2 x3 x4 x5 x6 : Int) :
    evalF (C29 fuel) fuel A101 [.agg [(vi x1), (vi x2)], .agg [(vi x3), (vi x4)], .agg [(vi x5), (vi x6)]] =
    (bif ((decide (x5 ≥ (if x3 < x1 then x3 else x1))) == true) then (bif ((decide (x5 ≤ (if x3 > x1 then x3 else x1))) == true) then (bif ((decide (x6 ≥ (if x4 < x2 then x4 else x2))) == true) then (some [.v (.b (decide (x6 ≤ (if x4 > x2 then x4 else x2))))]) else (some [.v (.b false)])) else (some [.v (.b false)])) else (some [.v (.b false)])) := by kernel_rfl
theorem e76 (fuel : Nat) (x1 x2 x3 x4 x5 x6 : Int) : evalF (C29 fuel) fuel A101 [.agg [(vi x1), (vi x2)], .agg [(vi x3), (vi x4)], .agg [(vi x5), (vi x6)]] = ob (F76 fuel x1 x2 x3 x4 x5 x6) fun t => some [.v (.b t)] := by
  rw [walk76, ← f76]
  simp only [D76]
def O76 (fuel : Nat) : Ora where
  o := fun args {ρ} K =>
    wc args fun a1 l2 =>
    wagg a1 fun l3 =>
    wdI .i64 l3 fun y7 l5 =>
    wdI .i64 l5 fun y11 l9 =>
    wn l9 <|
    wc l2 fun a12 l13 =>
    wagg a12 fun l14 =>
    wdI .i64 l14 fun y18 l16 =>
    wdI .i64 l16 fun y22 l20 =>
    wn l20 <|
    wc l13 fun a23 l24 =>
    wagg a23 fun l25 =>
    wdI .i64 l25 fun y29 l27 =>
    wdI .i64 l27 fun y33 l31 =>
    wn l31 <|
    wn l24 <|
    (ob (F76 fuel y7 y11 y18 y22 y29 y33) fun t => K [.v (.b t)])
  nat := fun args {ρ} K => by
    simp only [bind_wagg, bind_wc, bind_wdI, bind_wn, bind_ob, Option.bind_some]
theorem d76 {P : Program} (fuel : Nat) (hmix : P.follows .mixedOrders = true) (hC : Sound P (C29 fuel)) (hF : FFits P 101 A101) (args res : List A) (h : (O76 fuel).o args some = some res) : Den P 101 args res := by
  obtain ⟨a1, l2, rfl, z0⟩ := inv_wc h
  obtain ⟨l3, rfl, z1⟩ := inv_wagg z0
  obtain ⟨a4, y7, l5, rfl, h6, z2⟩ := inv_wdI z1
  obtain ⟨a8, y11, l9, rfl, h10, z3⟩ := inv_wdI z2
  obtain ⟨hn, z4⟩ := inv_wn z3
  cases hn
  obtain ⟨a12, l13, rfl, z5⟩ := inv_wc z4
  obtain ⟨l14, rfl, z6⟩ := inv_wagg z5
  obtain ⟨a15, y18, l16, rfl, h17, z7⟩ := inv_wdI z6
  obtain ⟨a19, y22, l20, rfl, h21, z8⟩ := inv_wdI z7
  obtain ⟨hn, z9⟩ := inv_wn z8
  cases hn
  obtain ⟨a23, l24, rfl, z10⟩ := inv_wc z9
  obtain ⟨l25, rfl, z11⟩ := inv_wagg z10
  obtain ⟨a26, y29, l27, rfl, h28, z12⟩ := inv_wdI z11
  obtain ⟨a30, y33, l31, rfl, h32, z13⟩ := inv_wdI z12
  obtain ⟨hn, z14⟩ := inv_wn z13
  cases hn
  obtain ⟨hn, z15⟩ := inv_wn z14
  cases hn
  exact Den.weaken (.cons (WkA.agg (.cons h6 (.cons h10 .nil))) (.cons (WkA.agg (.cons h17 (.cons h21 .nil))) (.cons (WkA.agg (.cons h28 (.cons h32 .nil))) .nil))) (evalF_sound hmix hC hF ((e76 fuel y7 y11 y18 y22 y29 y33).trans z15))
def C30 (fuel : Nat) : Oracle := (C29 fuel).add 101 (fun _ => true) (O76 fuel)
def A90v1 : AC := (.seq (.region 5 [mv 43 9, o1 44 (bk .eql 3 43 0), mv 45 44, og 46 (ln 40 2 4) 45 true, og 47 (ln 40 2 5) 45 true, og 48 (ln 40 2 6) 45 true, og 49 (cs 101 [46, 47, 48] [40, 40, 40]) 45 true, o1 50 (po 45 49), mv 51 50, og 52 (.move (tm 10)) 51 false, og 53 (bk .eql 3 52 0) 51 false, og 54 (.move (tm 53)) 51 false, og 55 (ln 40 2 4) 54 true, og 56 (ln 40 2 5) 54 true, og 57 (ln 40 2 7) 54 true, og 58 (cs 101 [55, 56, 57] [40, 40, 40]) 54 true, og 59 (po 54 58) 51 false, o1 60 (pa 51 59), mv 61 60, og 62 (.move (tm 11)) 61 false, og 63 (bk .eql 3 62 0) 61 false, og 64 (.move (tm 63)) 61 false, og 65 (ln 40 2 6) 64 true, og 66 (ln 40 2 7) 64 true, og 67 (ln 40 2 4) 64 true, og 68 (cs 101 [65, 66, 67] [40, 40, 40]) 64 true, og 69 (po 64 68) 61 false, o1 70 (pa 61 69), mv 71 70, og 72 (.move (tm 12)) 71 false, og 73 (bk .eql 3 72 0) 71 false, og 74 (.move (tm 73)) 71 false, og 75 (ln 40 2 6) 74 true, og 76 (ln 40 2 7) 74 true, og 77 (ln 40 2 5) 74 true, og 78 (cs 101 [75, 76, 77] [40, 40, 40]) 74 true, og 79 (po 74 78) 71 false, o1 80 (pa 71 79), o1 8 (sg 80)] 0 none) []
  (.ret (rl 0 8 (rl 9 72 []))))
def A90 : AF := ⟨81, [.tmp 8],
  (.seq (.region 0 [o1 4 (bx 0 40 0), o1 5 (bx 1 40 1), o1 6 (bx 2 40 2), o1 7 (bx 3 40 3), o1 8 (sb false)] 4 none) []
  (.seq (.region 1 [o1 13 (ln 40 2 4), o1 14 (ln 40 2 5), o1 15 (ln 40 2 6), o1 16 (cs 100 [13, 14, 15] [40, 40, 40]), o1 17 (cs 99 [16] [3]), o1 18 (ln 40 2 4), o1 19 (ln 40 2 5), o1 20 (ln 40 2 7), o1 21 (cs 100 [18, 19, 20] [40, 40, 40]), o1 22 (cs 99 [21] [3]), o1 9 (sg 17), o1 10 (sg 22)] 0 (some [[], [], [], [0, 1, 2], (rl 0 4 []), [], [], [], (rl 0 8 []), (rl 0 9 []), (rl 0 10 []), (rl 0 11 [])])) []
  (.seq (.region 2 [o1 23 (ln 40 2 6), o1 24 (ln 40 2 7), o1 25 (ln 40 2 4), o1 26 (cs 100 [23, 24, 25] [40, 40, 40]), o1 27 (cs 99 [26] [3]), o1 28 (ln 40 2 6), o1 29 (ln 40 2 7), o1 30 (ln 40 2 5), o1 31 (cs 100 [28, 29, 30] [40, 40, 40]), o1 32 (cs 99 [31] [3]), o1 11 (sg 27), o1 12 (sg 32)] 0 (some [[], [], [], [0, 1, 2], (rl 0 4 []), [], [], [], (rl 0 8 []), (rl 0 9 []), (rl 0 10 []), (rl 0 11 [])])) []
  (.seq (.seq (.region 3 [mv 33 9, mv 34 10, o1 35 (bt .mul 3 33 34), o1 36 (bk .lss 3 35 0), mv 37 36, og 38 (.move (tm 11)) 37 true, og 39 (.move (tm 12)) 37 true, og 40 (bt .mul 3 38 39) 37 true, og 41 (bk .lss 3 40 0) 37 true, o1 42 (po 37 41)] 0 none) []
  (.cond (tm 42)
  (.seq (.region 4 [o1 8 (sb true)] 0 none) []
    (.ret (rl 0 8 (rl 9 72 []))))
  .skip)) (8 :: (rl 33 10 []))
  A90v1))))⟩
def D56 {ρ : Type} (fuel : Nat) (x1 x2 x3 x4 x5 x6 x7 x8 : Int) (k : Bool → Option ρ) : Option ρ :=
  (ob (F75 fuel x1 x2 x3 x4 x5 x6) fun x13 => (ob (F74 fuel x13) fun x14 => (ob (F75 fuel x1 x2 x3 x4 x7 x8) fun x15 => (ob (F74 fuel x15) fun x16 => (ob (F75 fuel x5 x6 x7 x8 x1 x2) fun x21 => (ob (F74 fuel x21) fun x22 => (ob (F75 fuel x5 x6 x7 x8 x3 x4) fun x23 => (ob (F74 fuel x23) fun x24 => (bif ((decide ((w64 (x14 * x16)) < 0)) == true) then (bif (decide ((w64 (x22 * x24)) < 0)) then (k true) else (bif ((x14 == 0) == true) then (ob (F76 fuel x1 x2 x3 x4 x5 x6) fun x25 => (bif (x25 == false) then (bif ((x16 == 0) == true) then (ob (F76 fuel x1 x2 x3 x4 x7 x8) fun x26 => (bif (x26 == false) then (bif ((x22 == 0) == true) then (ob (F76 fuel x5 x6 x7 x8 x1 x2) fun x27 => (bif (x27 == false) then (bif ((x24 == 0) == true) then (ob (F76 fuel x5 x6 x7 x8 x3 x4) fun x28 => (k x28)) else (k false)) else (k true))) else (bif ((x24 == 0) == true) then (ob (F76 fuel x5 x6 x7 x8 x3 x4) fun x29 => (k x29)) else (k false))) else (k true))) else (bif ((x22 == 0) == true) then (ob (F76 fuel x5 x6 x7 x8 x1 x2) fun x30 => (bif (x30 == false) then (bif ((x24 == 0) == true) then (ob (F76 fuel x5 x6 x7 x8 x3 x4) fun x31 => (k x31)) else (k false)) else (k true))) else (bif ((x24 == 0) == true) then (ob (F76 fuel x5 x6 x7 x8 x3 x4) fun x32 => (k x32)) else (k false)))) else (k true))) else (bif ((x16 == 0) == true) then (ob (F76 fuel x1 x2 x3 x4 x7 x8) fun x33 => (bif (x33 == false) then (bif ((x22 == 0) == true) then (ob (F76 fuel x5 x6 x7 x8 x1 x2) fun x34 => (bif (x34 == false) then (bif ((x24 == 0) == true) then (ob (F76 fuel x5 x6 x7 x8 x3 x4) fun x35 => (k x35)) else (k false)) else (k true))) else (bif ((x24 == 0) == true) then (ob (F76 fuel x5 x6 x7 x8 x3 x4) fun x36 => (k x36)) else (k false))) else (k true))) else (bif ((x22 == 0) == true) then (ob (F76 fuel x5 x6 x7 x8 x1 x2) fun x37 => (bif (x37 == false) then (bif ((x24 == 0) == true) then (ob (F76 fuel x5 x6 x7 x8 x3 x4) fun x38 => (k x38)) else (k false)) else (k true))) else (bif ((x24 == 0) == true) then (ob (F76 fuel x5 x6 x7 x8 x3 x4) fun x39 => (k x39)) else (k false)))))) else (bif ((x14 == 0) == true) then (ob (F76 fuel x1 x2 x3 x4 x5 x6) fun x40 => (bif (x40 == false) then (bif ((x16 == 0) == true) then (ob (F76 fuel x1 x2 x3 x4 x7 x8) fun x41 => (bif (x41 == false) then (bif ((x22 == 0) == true) then (ob (F76 fuel x5 x6 x7 x8 x1 x2) fun x42 => (bif (x42 == false) then (bif ((x24 == 0) == true) then (ob (F76 fuel x5 x6 x7 x8 x3 x4) fun x43 => (k x43)) else (k false)) else (k true))) else (bif ((x24 == 0) == true) then (ob (F76 fuel x5 x6 x7 x8 x3 x4) fun x44 => (k x44)) else (k false))) else (k true))) else (bif ((x22 == 0) == true) then (ob (F76 fuel x5 x6 x7 x8 x1 x2) fun x45 => (bif (x45 == false) then (bif ((x24 == 0) == true) then (ob (F76 fuel x5 x6 x7 x8 x3 x4) fun x46 => (k x46)) else (k false)) else (k true))) else (bif ((x24 == 0) == true) then (ob (F76 fuel x5 x6 x7 x8 x3 x4) fun x47 => (k x47)) else (k false)))) else (k true))) else (bif ((x16 == 0) == true) then (ob (F76 fuel x1 x2 x3 x4 x7 x8) fun x48 => (bif (x48 == false) then (bif ((x22 == 0) == true) then (ob (F76 fuel x5 x6 x7 x8 x1 x2) fun x49 => (bif (x49 == false) then (bif ((x24 == 0) == true) then (ob (F76 fuel x5 x6 x7 x8 x3 x4) fun x50 => (k x50)) else (k false)) else (k true))) else (bif ((x24 == 0) == true) then (ob (F76 fuel x5 x6 x7 x8 x3 x4) fun x51 => (k x51)) else (k false))) else (k true))) else (bif ((x22 == 0) == true) then (ob (F76 fuel x5 x6 x7 x8 x1 x2) fun x52 => (bif (x52 == false) then (bif ((x24 == 0) == true) then (ob (F76 fuel x5 x6 x7 x8 x3 x4) fun x53 => (k x53)) else (k false)) else (k true))) else (bif ((x24 == 0) == true) then (ob (F76 fuel x5 x6 x7 x8 x3 x4) fun x54 => (k x54)) else (k false))))))))))))))
def F56 (fuel : Nat) (x1 x2 x3 x4 x5 x6 x7 x8 : Int) : Option (Bool) := D56 fuel x1 x2 x3 x4 x5 x6 x7 x8 some
theorem f56 {ρ : Type} (fuel : Nat) (x1 x2 x3 x4 x5 x6 x7 x8 : Int) (k : (Bool) → Option ρ) : D56 fuel x1 x2 x3 x4 x5 x6 x7 x8 k = ob (F56 fuel x1 x2 x3 x4 x5 x6 x7 x8) k := by
  simp only [F56, D56, ob_bif, ob_ob, ob_none, ob_some]
theorem walk56 (fuel : Nat) (x1 x2 x3 x4 x5 x6 x7 x8 : Int) :
    evalF (C30 fuel) fuel A90 [.agg [(vi x1), (vi x2)], .agg [(vi x3), (vi x4)], .agg [(vi x5), (vi x6)], .agg [(vi x7), (vi x8)]] =
    (ob (F75 fuel x1 x2 x3 x4 x5 x6) fun x13 => (ob (F74 fuel x13) fun x14 => (ob (F75 fuel x1 x2 x3 x4 x7 x8) fun x15 => (ob (F74 fuel x15) fun x16 => (ob (F75 fuel x5 x6 x7 x8 x1 x2) fun x21 => (ob (F74 fuel x21) fun x22 => (ob (F75 fuel x5 x6 x7 x8 x3 x4) fun x23 => (ob (F74 fuel x23) fun x24 => (bif ((decide ((w64 (x14 * x16)) < 0)) == true) then (bif (decide ((w64 (x22 * x24)) < 0)) then (some [.v (.b true)]) else (bif ((x14 == 0) == true) then (ob (F76 fuel x1 x2 x3 x4 x5 x6) fun x25 => (bif (x25 == false) then (bif ((x16 == 0) == true) then (ob (F76 fuel x1 x2 x3 x4 x7 x8) fun x26 => (bif (x26 == false) then (bif ((x22 == 0) == true) then (ob (F76 fuel x5 x6 x7 x8 x1 x2) fun x27 => (bif (x27 == false) then (bif ((x24 == 0) == true) then (ob (F76 fuel x5 x6 x7 x8 x3 x4) fun x28 => (some [.v (.b x28)])) else (some [.v (.b false)])) else (some [.v (.b true)]))) else (bif ((x24 == 0) == true) then (ob (F76 fuel x5 x6 x7 x8 x3 x4) fun x29 => (some [.v (.b x29)])) else (some [.v (.b false)]))) else (some [.v (.b true)]))) else (bif ((x22 == 0) == true) then (ob (F76 fuel x5 x6 x7 x8 x1 x2) fun x30 => (bif (x30 == false) then (bif ((x24 == 0) == true) then (ob (F76 fuel x5 x6 x7 x8 x3 x4) fun x31 => (some [.v (.b x31)])) else (some [.v (.b false)])) else (some [.v (.b true)]))) else (bif ((x24 == 0) == true) then (ob (F76 fuel x5 x6 x7 x8 x3 x4) fun x32 => (some [.v (.b x32)])) else (some [.v (.b false)])))) else (some [.v (.b true)]))) else (bif ((x16 == 0) == true) then (ob (F76 fuel x1 x2 x3 x4 x7 x8) fun x33 => (bif (x33 == false) then (bif ((x22 == 0) == true) then (ob (F76 fuel x5 x6 x7 x8 x1 x2) fun x34 => (bif (x34 == false) then (bif ((x24 == 0) == true) then (ob (F76 fuel x5 x6 x7 x8 x3 x4) fun x35 => (some [.v (.b x35)])) else (some [.v (.b false)])) else (some [.v (.b true)]))) else (bif ((x24 == 0) == true) then (ob (F76 fuel x5 x6 x7 x8 x3 x4) fun x36 => (some [.v (.b x36)])) else (some [.v (.b false)]))) else (some [.v (.b true)]))) else (bif ((x22 == 0) == true) then (ob (F76 fuel x5 x6 x7 x8 x1 x2) fun x37 => (bif (x37 == false) then (bif ((x24 == 0) == true) then (ob (F76 fuel x5 x6 x7 x8 x3 x4) fun x38 => (some [.v (.b x38)])) else (some [.v (.b false)])) else (some [.v (.b true)]))) else (bif ((x24 == 0) == true) then (ob (F76 fuel x5 x6 x7 x8 x3 x4) fun x39 => (some [.v (.b x39)])) else (some [.v (.b false)])))))) else (bif ((x14 == 0) == true) then (ob (F76 fuel x1 x2 x3 x4 x5 x6) fun x40 => (bif (x40 == false) then (bif ((x16 == 0) == true) then (ob (F76 fuel x1 x2 x3 x4 x7 x8) fun x41 => (bif (x41 == false) then (bif ((x22 == 0) == true) then (ob (F76 fuel x5 x6 x7 x8 x1 x2) fun x42 => (bif (x42 == false) then (bif ((x24 == 0) == true) then (ob (F76 fuel x5 x6 x7 x8 x3 x4) fun x43 => (some [.v (.b x43)])) else (some [.v (.b false)])) else (some [.v (.b true)]))) else (bif ((x24 == 0) == true) then (ob (F76 fuel x5 x6 x7 x8 x3 x4) fun x44 => (some [.v (.b x44)])) else (some [.v (.b false)]))) else (some [.v (.b true)]))) else (bif ((x22 == 0) == true) then (ob (F76 fuel x5 x6 x7 x8 x1 x2) fun x45 => (bif (x45 == false) then (bif ((x24 == 0) == true) then (ob (F76 fuel x5 x6 x7 x8 x3 x4) fun x46 => (some [.v (.b x46)])) else (some [.v (.b false)])) else (some [.v (.b true)]))) else (bif ((x24 == 0) == true) then (ob (F76 fuel x5 x6 x7 x8 x3 x4) fun x47 => (some [.v (.b x47)])) else (some [.v (.b false)])))) else (some [.v (.b true)]))) else (bif ((x16 == 0) == true) then (ob (F76 fuel x1 x2 x3 x4 x7 x8) fun x48 => (bif (x48 == false) then (bif ((x22 == 0) == true) then (ob (F76 fuel x5 x6 x7 x8 x1 x2) fun x49 => (bif (x49 == false) then (bif ((x24 == 0) == true) then (ob (F76 fuel x5 x6 x7 x8 x3 x4) fun x50 => (some [.v (.b x50)])) else (some [.v (.b false)])) else (some [.v (.b true)]))) else (bif ((x24 == 0) == true) then (ob (F76 fuel x5 x6 x7 x8 x3 x4) fun x51 => (some [.v (.b x51)])) else (some [.v (.b false)]))) else (some [.v (.b true)]))) else (bif ((x22 == 0) == true) then (ob (F76 fuel x5 x6 x7 x8 x1 x2) fun x52 => (bif (x52 == false) then (bif ((x24 == 0) == true) then (ob (F76 fuel x5 x6 x7 x8 x3 x4) fun x53 => (some [.v (.b x53)])) else (some [.v (.b false)])) else (some [.v (.b true)]))) else (bif ((x24 == 0) == true) then (ob (F76 fuel x5 x6 x7 x8 x3 x4) fun x54 => (some [.v (.b x54)])) else (some [.v (.b false)])))))))))))))) := by kernel_rfl
theorem e56 (fuel : Nat) (x1 x2 x3 x4 x5 x6 x7 x8 : Int) : evalF (C30 fuel) fuel A90 [.agg [(vi x1), (vi x2)], .agg [(vi x3), (vi x4)], .agg [(vi x5), (vi x6)], .agg [(vi x7), (vi x8)]] = ob (F56 fuel x1 x2 x3 x4 x5 x6 x7 x8) fun t => some [.v (.b t)] := by
  rw [walk56, ← f56]
  simp only [D56]
def O56 (fuel : Nat) : Ora where
  o := fun args {ρ} K =>
    wc args fun a1 l2 =>
    wagg a1 fun l3 =>
    wdI .i64 l3 fun y7 l5 =>
    wdI .i64 l5 fun y11 l9 =>
    wn l9 <|
    wc l2 fun a12 l13 =>
    wagg a12 fun l14 =>
    wdI .i64 l14 fun y18 l16 =>
    wdI .i64 l16 fun y22 l20 =>
    wn l20 <|
    wc l13 fun a23 l24 =>
    wagg a23 fun l25 =>
    wdI .i64 l25 fun y29 l27 =>
    wdI .i64 l27 fun y33 l31 =>
    wn l31 <|
    wc l24 fun a34 l35 =>
    wagg a34 fun l36 =>
    wdI .i64 l36 fun y40 l38 =>
    wdI .i64 l38 fun y44 l42 =>
    wn l42 <|
    wn l35 <|
    (ob (F56 fuel y7 y11 y18 y22 y29 y33 y40 y44) fun t => K [.v (.b t)])
  nat := fun args {ρ} K => by
    simp only [bind_wagg, bind_wc, bind_wdI, bind_wn, bind_ob, Option.bind_some]
theorem d56 {P : Program} (fuel : Nat) (hmix : P.follows .mixedOrders = true) (hC : Sound P (C30 fuel)) (hF : FFits P 90 A90) (args res : List A) (h : (O56 fuel).o args some = some res) : Den P 90 args res := by
  obtain ⟨a1, l2, rfl, z0⟩ := inv_wc h
  obtain ⟨l3, rfl, z1⟩ := inv_wagg z0
  obtain ⟨a4, y7, l5, rfl, h6, z2⟩ := inv_wdI z1
  obtain ⟨a8, y11, l9, rfl, h10, z3⟩ := inv_wdI z2
  obtain ⟨hn, z4⟩ := inv_wn z3
  cases hn
  obtain ⟨a12, l13, rfl, z5⟩ := inv_wc z4
  obtain ⟨l14, rfl, z6⟩ := inv_wagg z5
  obtain ⟨a15, y18, l16, rfl, h17, z7⟩ := inv_wdI z6
  obtain ⟨a19, y22, l20, rfl, h21, z8⟩ := inv_wdI z7
  obtain ⟨hn, z9⟩ := inv_wn z8
  cases hn
  obtain ⟨a23, l24, rfl, z10⟩ := inv_wc z9
  obtain ⟨l25, rfl, z11⟩ := inv_wagg z10
  obtain ⟨a26, y29, l27, rfl, h28, z12⟩ := inv_wdI z11
  obtain ⟨a30, y33, l31, rfl, h32, z13⟩ := inv_wdI z12
  obtain ⟨hn, z14⟩ := inv_wn z13
  cases hn
  obtain ⟨a34, l35, rfl, z15⟩ := inv_wc z14
  obtain ⟨l36, rfl, z16⟩ := inv_wagg z15
  obtain ⟨a37, y40, l38, rfl, h39, z17⟩ := inv_wdI z16
  obtain ⟨a41, y44, l42, rfl, h43, z18⟩ := inv_wdI z17
  obtain ⟨hn, z19⟩ := inv_wn z18
  cases hn
  obtain ⟨hn, z20⟩ := inv_wn z19
  cases hn
  exact Den.weaken (.cons (WkA.agg (.cons h6 (.cons h10 .nil))) (.cons (WkA.agg (.cons h17 (.cons h21 .nil))) (.cons (WkA.agg (.cons h28 (.cons h32 .nil))) (.cons (WkA.agg (.cons h39 (.cons h43 .nil))) .nil)))) (evalF_sound hmix hC hF ((e56 fuel y7 y11 y18 y22 y29 y33 y40 y44).trans z20))
def C31 (fuel : Nat) : Oracle := (C30 fuel).add 90 (fun _ => true) (O56 fuel)
def A89v1 : AC := (.region 9 [o1 45 (bk .add 3 20 1), mv 20 45] 0 none)
def A89v2 : AC := (.seq (.block 3
  (.seq (.region 6 [mv 22 20, o1 23 (.indexAddr 22 40 2 (tm 18) (tm 20)), o1 24 (ln 40 2 23), o1 10 (.alloc 0 40 [vci 0, vci 0]), o1 9 (sg 22), o0 (.store 40 2 (tm 10) (tm 24))] 1 none) []
    (.seq (.region 7 [mv 25 2, o1 26 (ln 40 2 8), mv 27 0, mv 28 7, o1 29 (bk .add 3 28 1), mv 30 0, o1 31 (.len 22 false (tm 30)), o1 32 (bt .rem 3 29 31), o1 33 (.indexAddr 22 40 2 (tm 27) (tm 32)), o1 34 (ln 40 2 33), o1 35 (ln 40 2 10), mv 36 1, mv 37 9, o1 38 (bk .add 3 37 1), mv 39 1, o1 40 (.len 22 false (tm 39)), o1 41 (bt .rem 3 38 40), o1 42 (.indexAddr 22 40 2 (tm 36) (tm 41)), o1 43 (ln 40 2 42), o1 44 (.callv (tm 25) [(tm 26), (tm 34), (tm 35), (tm 43)] [40, 40, 40, 40] .snap)] 0 (some [[], [], [], [], [3], [], [5], (rl 3 4 []), (rl 2 6 []), (rl 2 7 []), [], [], [], [12], [], [14], (rl 12 4 []), (rl 11 6 []), (rl 11 7 []), (rl 0 19 [])])) []
    (.cond (tm 44)
    (.seq (.region 8 [o1 6 (sb true)] 0 none) []
      (.ret (rl 0 6 (rl 7 40 []))))
    .skip)))) (6 :: 9 :: 10 :: (rl 22 23 []))
  A89v1)
def A89v3 : AC := (.seq (.region 5 [o1 21 (bt .lss 3 20 19)] 0 none) []
  (.seq (.cond (tm 21)
  .skip
  (.exit 2 (rl 3 8 (rl 14 33 [])))) []
  A89v2))
def A89v4 : AC := (.region 10 [o1 46 (bk .add 3 13 1), mv 13 46] 0 none)
def A89v5 : AC := (.seq (.block 1
  (.seq (.region 3 [mv 15 13, o1 16 (.indexAddr 22 40 2 (tm 11) (tm 13)), o1 17 (ln 40 2 16), o1 8 (.alloc 0 40 [vci 0, vci 0]), o1 7 (sg 15), o0 (.store 40 2 (tm 8) (tm 17))] 1 none) []
    (.seq (.region 4 [mv 18 1, o1 19 (.len 22 false (tm 18)), o1 20 (.move (ic 0))] 0 none) []
    (.block 2
    (.loop [] (rl 3 4 (9 :: 10 :: (rl 14 4 (rl 21 26 []))))
      A89v3))))) (rl 6 5 (rl 15 31 []))
  A89v4)
def A89v6 : AC := (.seq (.region 2 [o1 14 (bt .lss 3 13 12)] 0 none) []
  (.seq (.cond (tm 14)
  .skip
  (.exit 0 (rl 0 47 []))) []
  A89v5))
def A89v7 : AC := (.seq (.region 11 [o1 6 (sb false)] 0 none) []
  (.ret (rl 0 6 (rl 7 40 []))))
def A89 : AF := ⟨47, [.tmp 6],
  (.seq (.region 0 [o1 6 (sb false)] 0 none) []
  (.seq (.seq (.region 1 [mv 11 0, o1 12 (.len 22 false (tm 11)), o1 13 (.move (ic 0))] 0 none) []
  (.block 0
  (.loop [] (rl 3 8 (rl 14 33 []))
    A89v6))) (rl 6 41 [])
  A89v7))⟩
def B58v2 (C : Oracle) (fuel : Nat) {ρ : Type} : St → (Ex → St → Option ρ) → Option ρ := fun st k => evalC C fuel A89v3 st k
def N58v2 : St → Option St := fun s => s.norm (rl 3 4 (9 :: 10 :: (rl 14 4 (rl 21 26 [])))) 1
def s58v0 (x50 : Nat) (x51 : FF) (x52 : Nat) (x53 : FF) (x54 x55 x56 x57 x58 x59 : Int) : St := ⟨(.x (.c (.ro false kP x50 x51)) :: .x (.c (.ro false kP x52 x53)) :: .x (.c (.fn 90 0 (listF []))) :: (us 4 (vxi x54 :: .x (.ptr 0 0) :: .u :: .u :: .x (.c (.ro false kP x50 x51)) :: vxi x55 :: vxi x54 :: (us 4 (.x (.c (.ro false kP x52 x53)) :: vxi x56 :: vxi x57 :: (us 26 [])))))), [.box [(vci x58), (vci x59)]]⟩
def s58v1 (x58 x59 x61 x62 : Int) : St := ⟨(us 6 (vxb true :: (us 40 []))), [.box [(vci x58), (vci x59)], .box [(vci x61), (vci x62)]]⟩
def s58v2 (x50 : Nat) (x51 : FF) (x52 : Nat) (x53 : FF) (x55 x54 x58 x59 : Int) : St := ⟨(.x (.c (.ro false kP x50 x51)) :: .x (.c (.ro false kP x52 x53)) :: .x (.c (.fn 90 0 (listF []))) :: (us 8 (.x (.c (.ro false kP x50 x51)) :: vxi x55 :: vxi x54 :: (us 33 [])))), [.box [(vci x58), (vci x59)]]⟩
def L58v2 {ρ : Type} (fuel : Nat) (x50 : Nat) (x51 : FF) (x52 : Nat) (x53 : FF) (x54 x55 x56 x58 x59 : Int) : Nat → Int → (Int → Int → Option ρ) → (Option ρ) → Option ρ
  | 0, _, _, _ => none
  | m + 1, x57, k0, k1 =>
    (bif (decide (x57 < x56)) then (bif (inb x57 x52) then (bif ((Int.ofNat x50) == 0) then none else (bif (inb (Int.tmod (w64 (x54 + 1)) (Int.ofNat x50)) x50) then (bif ((Int.ofNat x52) == 0) then none else (bif (inb (Int.tmod (w64 (x57 + 1)) (Int.ofNat x52)) x52) then (ob (F56 fuel x58 x59 (CV.int (x51 (Int.toNat (Int.tmod (w64 (x54 + 1)) (Int.ofNat x50))) 0)) (CV.int (x51 (Int.toNat (Int.tmod (w64 (x54 + 1)) (Int.ofNat x50))) 1)) (CV.int (x53 (Int.toNat x57) 0)) (CV.int (x53 (Int.toNat x57) 1)) (CV.int (x53 (Int.toNat (Int.tmod (w64 (x57 + 1)) (Int.ofNat x52))) 0)) (CV.int (x53 (Int.toNat (Int.tmod (w64 (x57 + 1)) (Int.ofNat x52))) 1))) fun x60 => (bif x60 then (k0 (CV.int (x53 (Int.toNat x57) 0)) (CV.int (x53 (Int.toNat x57) 1))) else (L58v2 fuel x50 x51 x52 x53 x54 x55 x56 x58 x59 m (w64 (x57 + 1)) k0 k1))) else none)) else none)) else none) else k1)
theorem nl58v2 {ρ σ : Type} (fuel : Nat) (x50 : Nat) (x51 : FF) (x52 : Nat) (x53 : FF) (x54 x55 x56 x58 x59 : Int) (g : ρ → Option σ) : ∀ (m : Nat) (x57 : Int) (k0 : Int → Int → Option ρ) (k1 : Option ρ), ob (L58v2 fuel x50 x51 x52 x53 x54 x55 x56 x58 x59 m x57 k0 k1) g = L58v2 fuel x50 x51 x52 x53 x54 x55 x56 x58 x59 m x57 (fun x61 x62 => ob (k0 x61 x62) g) (ob k1 g)
  | 0, _, _, _ => rfl
  | m + 1, x57, k0, k1 => by
    simp only [L58v2, ob_bif, ob_ob, ob_none, nl58v2 fuel x50 x51 x52 x53 x54 x55 x56 x58 x59 g m]
theorem r58v2 (fuel : Nat) (m : Nat) {ρ : Type} (k : Ex → St → Option ρ) (x50 : Nat) (x51 : FF) (x52 : Nat) (x53 : FF) (x54 x55 x56 x58 x59 x57 : Int) :
    loopH (B58v2 (C31 fuel) fuel) N58v2 (m + 1) (s58v0 x50 x51 x52 x53 x54 x55 x56 x57 x58 x59) k =
    (bif (decide (x57 < x56)) then (bif (inb x57 x52) then (bif ((Int.ofNat x50) == 0) then none else (bif (inb (Int.tmod (w64 (x54 + 1)) (Int.ofNat x50)) x50) then (bif ((Int.ofNat x52) == 0) then none else (bif (inb (Int.tmod (w64 (x57 + 1)) (Int.ofNat x52)) x52) then (ob (F56 fuel x58 x59 (CV.int (x51 (Int.toNat (Int.tmod (w64 (x54 + 1)) (Int.ofNat x50))) 0)) (CV.int (x51 (Int.toNat (Int.tmod (w64 (x54 + 1)) (Int.ofNat x50))) 1)) (CV.int (x53 (Int.toNat x57) 0)) (CV.int (x53 (Int.toNat x57) 1)) (CV.int (x53 (Int.toNat (Int.tmod (w64 (x57 + 1)) (Int.ofNat x52))) 0)) (CV.int (x53 (Int.toNat (Int.tmod (w64 (x57 + 1)) (Int.ofNat x52))) 1))) fun x60 => (bif x60 then (k .ret (s58v1 x58 x59 (CV.int (x53 (Int.toNat x57) 0)) (CV.int (x53 (Int.toNat x57) 1)))) else (loopH (B58v2 (C31 fuel) fuel) N58v2 m (s58v0 x50 x51 x52 x53 x54 x55 x56 (w64 (x57 + 1)) x58 x59) k))) else none)) else none)) else none) else (k (.exit 2) (s58v2 x50 x51 x52 x53 x55 x54 x58 x59))) := by kernel_rfl
theorem q58v2 (fuel : Nat) (x50 : Nat) (x51 : FF) (x52 : Nat) (x53 : FF) (x54 x55 x56 x58 x59 : Int) {ρ : Type} (k : Ex → St → Option ρ) : ∀ (m : Nat) (x57 : Int),
    loopH (B58v2 (C31 fuel) fuel) N58v2 m (s58v0 x50 x51 x52 x53 x54 x55 x56 x57 x58 x59) k = L58v2 fuel x50 x51 x52 x53 x54 x55 x56 x58 x59 m x57 (fun x61 x62 => k .ret (s58v1 x58 x59 x61 x62)) (k (.exit 2) (s58v2 x50 x51 x52 x53 x55 x54 x58 x59))
  | 0, _ => rfl
  | m + 1, x57 => by
    rw [r58v2]
    simp only [L58v2, q58v2 fuel x50 x51 x52 x53 x54 x55 x56 x58 x59 k m]
def B58v3 (C : Oracle) (fuel : Nat) {ρ : Type} : St → (Ex → St → Option ρ) → Option ρ := fun st k => evalC C fuel A89v6 st k
def N58v3 : St → Option St := fun s => s.norm (rl 3 8 (rl 14 33 [])) 0
def s58v3 (x34 : Nat) (x35 : FF) (x36 : Nat) (x37 : FF) (x38 x39 : Int) : St := ⟨(.x (.c (.ro false kP x34 x35)) :: .x (.c (.ro false kP x36 x37)) :: .x (.c (.fn 90 0 (listF []))) :: (us 8 (.x (.c (.ro false kP x34 x35)) :: vxi x38 :: vxi x39 :: (us 33 [])))), []⟩
def s58v4 (x65 x66 x67 x68 : Int) : St := ⟨(us 6 (vxb true :: (us 40 []))), [.box [(vci x65), (vci x66)], .box [(vci x67), (vci x68)]]⟩
def s58v5 : St := ⟨(us 47 []), []⟩
def L58v3 {ρ : Type} (fuel : Nat) (x34 : Nat) (x35 : FF) (x36 : Nat) (x37 : FF) (x38 : Int) : Nat → Int → (Int → Int → Int → Int → Option ρ) → (Option ρ) → Option ρ
  | 0, _, _, _ => none
  | m + 1, x39, k0, k1 =>
    (bif (decide (x39 < x38)) then (bif (inb x39 x34) then (L58v2 fuel x34 x35 x36 x37 x39 x38 (Int.ofNat x36) (CV.int (x35 (Int.toNat x39) 0)) (CV.int (x35 (Int.toNat x39) 1)) fuel 0
    (fun x63 x64 => (k0 (CV.int (x35 (Int.toNat x39) 0)) (CV.int (x35 (Int.toNat x39) 1)) x63 x64))
    (L58v3 fuel x34 x35 x36 x37 x38 m (w64 (x39 + 1)) k0 k1)) else none) else k1)
theorem nl58v3 {ρ σ : Type} (fuel : Nat) (x34 : Nat) (x35 : FF) (x36 : Nat) (x37 : FF) (x38 : Int) (g : ρ → Option σ) : ∀ (m : Nat) (x39 : Int) (k0 : Int → Int → Int → Int → Option ρ) (k1 : Option ρ), ob (L58v3 fuel x34 x35 x36 x37 x38 m x39 k0 k1) g = L58v3 fuel x34 x35 x36 x37 x38 m x39 (fun x65 x66 x67 x68 => ob (k0 x65 x66 x67 x68) g) (ob k1 g)
  | 0, _, _, _ => rfl
  | m + 1, x39, k0, k1 => by
    simp only [L58v3, ob_bif, ob_ob, ob_none, nl58v3 fuel x34 x35 x36 x37 x38 g m, nl58v2]
def s58v6 (x34 : Nat) (x35 : FF) (x36 : Nat) (x37 : FF) (x39 x38 : Int) : St := ⟨(.x (.c (.ro false kP x34 x35)) :: .x (.c (.ro false kP x36 x37)) :: .x (.c (.fn 90 0 (listF []))) :: (us 4 (vxi x39 :: .x (.ptr 0 0) :: .u :: .u :: .x (.c (.ro false kP x34 x35)) :: vxi x38 :: vxi x39 :: vxb true :: vxi x39 :: .x (.c (.rp kP (x35 (Int.toNat x39)))) :: .agg [(vci (CV.int (x35 (Int.toNat x39) 0))), (vci (CV.int (x35 (Int.toNat x39) 1)))] :: .x (.c (.ro false kP x36 x37)) :: vxi (Int.ofNat x36) :: vxi 0 :: (us 26 [])))), [.box [(vci (CV.int (x35 (Int.toNat x39) 0))), (vci (CV.int (x35 (Int.toNat x39) 1)))]]⟩
theorem r58v3 (fuel : Nat) (m : Nat) {ρ : Type} (k : Ex → St → Option ρ) (x34 : Nat) (x35 : FF) (x36 : Nat) (x37 : FF) (x38 x39 : Int) :
    loopH (B58v3 (C31 fuel) fuel) N58v3 (m + 1) (s58v3 x34 x35 x36 x37 x38 x39) k =
    (bif (decide (x39 < x38)) then (bif (inb x39 x34) then (loopN (B58v2 (C31 fuel) fuel) N58v2 fuel (s58v6 x34 x35 x36 x37 x39 x38) (kBlk 2 (kBlk 1 (kSeq (C31 fuel) fuel (rl 6 5 (rl 15 31 [])) A89v4 (kLoop (B58v3 (C31 fuel) fuel) N58v3 m k))))) else none) else (k (.exit 0) s58v5)) := by kernel_rfl
theorem t58v1 (fuel : Nat) {ρ : Type} (k : Ex → St → Option ρ) (x34 : Nat) (x35 : FF) (x36 : Nat) (x37 : FF) (x39 x38 : Int) :
    loopN (B58v2 (C31 fuel) fuel) N58v2 fuel (s58v6 x34 x35 x36 x37 x39 x38) k =
    L58v2 fuel x34 x35 x36 x37 x39 x38 (Int.ofNat x36) (CV.int (x35 (Int.toNat x39) 0)) (CV.int (x35 (Int.toNat x39) 1)) fuel 0 (fun x61 x62 => k .ret (s58v1 (CV.int (x35 (Int.toNat x39) 0)) (CV.int (x35 (Int.toNat x39) 1)) x61 x62)) (k (.exit 2) (s58v2 x34 x35 x36 x37 x38 x39 (CV.int (x35 (Int.toNat x39) 0)) (CV.int (x35 (Int.toNat x39) 1)))) :=
  (loopN_at (st' := (s58v0 x34 x35 x36 x37 x39 x38 (Int.ofNat x36) 0 (CV.int (x35 (Int.toNat x39) 0)) (CV.int (x35 (Int.toNat x39) 1)))) (by kernel_rfl)).trans (q58v2 fuel x34 x35 x36 x37 x39 x38 (Int.ofNat x36) (CV.int (x35 (Int.toNat x39) 0)) (CV.int (x35 (Int.toNat x39) 1)) k fuel 0)
theorem g58v2 (fuel : Nat) (m : Nat) {ρ : Type} (k : Ex → St → Option ρ) (x35 : FF) (x39 x63 x64 : Int) :
    (kBlk 2 (kBlk 1 (kSeq (C31 fuel) fuel (rl 6 5 (rl 15 31 [])) A89v4 (kLoop (B58v3 (C31 fuel) fuel) N58v3 m k)))) .ret (s58v1 (CV.int (x35 (Int.toNat x39) 0)) (CV.int (x35 (Int.toNat x39) 1)) x63 x64) =
    (k .ret (s58v4 (CV.int (x35 (Int.toNat x39) 0)) (CV.int (x35 (Int.toNat x39) 1)) x63 x64)) := by kernel_rfl
theorem g58v3 (fuel : Nat) (m : Nat) {ρ : Type} (k : Ex → St → Option ρ) (x34 : Nat) (x35 : FF) (x36 : Nat) (x37 : FF) (x38 x39 : Int) :
    (kBlk 2 (kBlk 1 (kSeq (C31 fuel) fuel (rl 6 5 (rl 15 31 [])) A89v4 (kLoop (B58v3 (C31 fuel) fuel) N58v3 m k)))) (.exit 2) (s58v2 x34 x35 x36 x37 x38 x39 (CV.int (x35 (Int.toNat x39) 0)) (CV.int (x35 (Int.toNat x39) 1))) =
    (loopH (B58v3 (C31 fuel) fuel) N58v3 m (s58v3 x34 x35 x36 x37 x38 (w64 (x39 + 1))) k) := by kernel_rfl
theorem q58v3 (fuel : Nat) (x34 : Nat) (x35 : FF) (x36 : Nat) (x37 : FF) (x38 : Int) {ρ : Type} (k : Ex → St → Option ρ) : ∀ (m : Nat) (x39 : Int),
    loopH (B58v3 (C31 fuel) fuel) N58v3 m (s58v3 x34 x35 x36 x37 x38 x39) k = L58v3 fuel x34 x35 x36 x37 x38 m x39 (fun x65 x66 x67 x68 => k .ret (s58v4 x65 x66 x67 x68)) (k (.exit 0) s58v5)
  | 0, _ => rfl
  | m + 1, x39 => by
    rw [r58v3]
    simp only [L58v3, q58v3 fuel x34 x35 x36 x37 x38 k m, t58v1, g58v2, g58v3]
def D58 {ρ : Type} (fuel : Nat) (x1 : Nat) (x2 : FF) (x3 : Nat) (x4 : FF) (k : Bool → Option ρ) : Option ρ :=
  (L58v3 fuel x1 x2 x3 x4 (Int.ofNat x1) fuel 0
    (fun x69 x70 x71 x72 => (k true))
    (k false))
def F58 (fuel : Nat) (x1 : Nat) (x2 : FF) (x3 : Nat) (x4 : FF) : Option (Bool) := D58 fuel x1 x2 x3 x4 some
theorem f58 {ρ : Type} (fuel : Nat) (x1 : Nat) (x2 : FF) (x3 : Nat) (x4 : FF) (k : (Bool) → Option ρ) : D58 fuel x1 x2 x3 x4 k = ob (F58 fuel x1 x2 x3 x4) k := by
  simp only [F58, D58, ob_bif, ob_ob, ob_none, ob_some, nl58v3]
def s58v7 (x1 : Nat) (x2 : FF) (x3 : Nat) (x4 : FF) : St := ⟨[.x (.c (.ro false kP x1 x2)), .x (.c (.ro false kP x3 x4)), .x (.c (.fn 90 0 (listF []))), .undef, .undef, .undef, vxb false, .undef, .undef, .undef, .undef, .x (.c (.ro false kP x1 x2)), vxi (Int.ofNat x1), vxi 0, .undef, .undef, .undef, .undef, .undef, .undef, .undef, .undef, .undef, .undef, .undef, .undef, .undef, .undef, .undef, .undef, .undef, .undef, .undef, .undef, .undef, .undef, .undef, .undef, .undef, .undef, .undef, .undef, .undef, .undef, .undef, .undef, .undef], []⟩
theorem walk58 (fuel : Nat) (x1 : Nat) (x2 : FF) (x3 : Nat) (x4 : FF) :
    evalF (C31 fuel) fuel A89 [.v (.ro false kP x1 x2), .v (.ro false kP x3 x4), .v (.fn 90 0 (listF []))] =
    (loopN (B58v3 (C31 fuel) fuel) N58v3 fuel (s58v7 x1 x2 x3 x4) (kBlk 0 (kSeq (C31 fuel) fuel (rl 6 41 []) A89v7 (finish A89)))) := by kernel_rfl
theorem t58v4 (fuel : Nat) {ρ : Type} (k : Ex → St → Option ρ) (x1 : Nat) (x2 : FF) (x3 : Nat) (x4 : FF) :
    loopN (B58v3 (C31 fuel) fuel) N58v3 fuel (s58v7 x1 x2 x3 x4) k =
    L58v3 fuel x1 x2 x3 x4 (Int.ofNat x1) fuel 0 (fun x65 x66 x67 x68 => k .ret (s58v4 x65 x66 x67 x68)) (k (.exit 0) s58v5) :=
  (loopN_at (st' := (s58v3 x1 x2 x3 x4 (Int.ofNat x1) 0)) (by kernel_rfl)).trans (q58v3 fuel x1 x2 x3 x4 (Int.ofNat x1) k fuel 0)
theorem g58v5 (fuel : Nat) (x69 x70 x71 x72 : Int) :
    (kBlk 0 (kSeq (C31 fuel) fuel (rl 6 41 []) A89v7 (finish A89))) .ret (s58v4 x69 x70 x71 x72) =
    (some [.v (.b true)]) := by kernel_rfl
theorem g58v6 (fuel : Nat) :
    (kBlk 0 (kSeq (C31 fuel) fuel (rl 6 41 []) A89v7 (finish A89))) (.exit 0) s58v5 =
    (some [.v (.b false)]) := by kernel_rfl
theorem e58 (fuel : Nat) (x1 : Nat) (x2 : FF) (x3 : Nat) (x4 : FF) : evalF (C31 fuel) fuel A89 [.v (.ro false kP x1 x2), .v (.ro false kP x3 x4), .v (.fn 90 0 (listF []))] = ob (F58 fuel x1 x2 x3 x4) fun t => some [.v (.b t)] := by
  rw [walk58, ← f58]
  simp only [D58, t58v4, g58v5, g58v6]
def O58 (fuel : Nat) : Ora where
  o := fun args {ρ} K =>
    wcL kP args fun y4 y5 l2 =>
    wcL kP l2 fun y9 y10 l7 =>
    wc l7 fun a11 l12 =>
    wv a11 fun c13 =>
    wFn 90 0 c13 fun y14 =>
    wn l12 <|
    (ob (F58 fuel y4 y5 y9 y10) fun t => K [.v (.b t)])
  nat := fun args {ρ} K => by
    simp only [bind_wFn, bind_wc, bind_wcL, bind_wn, bind_wv, bind_ob, Option.bind_some]
theorem d58 {P : Program} (fuel : Nat) (hmix : P.follows .mixedOrders = true) (hC : Sound P (C31 fuel)) (hF : FFits P 89 A89) (args res : List A) (h : (O58 fuel).o args some = some res) : Den P 89 args res := by
  obtain ⟨a1, y4, y5, l2, rfl, h3, z0⟩ := inv_wcL h
  obtain ⟨a6, y9, y10, l7, rfl, h8, z1⟩ := inv_wcL z0
  obtain ⟨a11, l12, rfl, z2⟩ := inv_wc z1
  obtain ⟨c13, rfl, z3⟩ := inv_wv z2
  obtain ⟨y14, h15, z4⟩ := inv_wFn z3
  obtain ⟨hn, z5⟩ := inv_wn z4
  cases hn
  exact Den.weaken (.cons h3 (.cons h8 (.cons (WkA.v (wk_fn0 h15)) .nil))) (evalF_sound hmix hC hF ((e58 fuel y4 y5 y9 y10).trans z5))
def C32 (fuel : Nat) : Oracle := (C31 fuel).add 89 (fun l => isFn 90 l 2) (O58 fuel)
def A74v1 : AC := (.seq (.region 11 [o1 47 (ln 40 2 7), o1 48 (ln 40 2 8), o1 49 (ln 40 2 3), o1 50 (cs 93 [47, 48, 49] [40, 40, 40]), o1 51 (bk .gtr 3 50 0), o1 9 (sg 51)] 0 none) []
  (.seq (.region 12 [mv 52 9, o1 53 (fa 40 8 1 1), o1 54 (lo 3 53), o1 55 (fa 40 7 1 1), o1 56 (lo 3 55), o1 57 (bt .gtr 3 54 56), o1 58 (.eqB false 4 (tm 52) (tm 57) 4)] 0 none) []
  (.cond (tm 58)
  (.region 13 [mv 59 5, o1 60 (.unOp .not 4 (tm 59)), o1 5 (sg 60)] 0 none)
  .skip)))
def A74v2 : AC := (.seq (.seq (.region 10 [o1 36 (fa 40 7 1 1), o1 37 (lo 3 36), o1 38 (fa 40 3 1 1), o1 39 (lo 3 38), o1 40 (bt .gtr 3 37 39), o1 41 (fa 40 8 1 1), o1 42 (lo 3 41), o1 43 (fa 40 3 1 1), o1 44 (lo 3 43), o1 45 (bt .gtr 3 42 44), o1 46 (.eqB false 4 (tm 40) (tm 45) 4)] 0 none) []
  (.cond (tm 46)
  (.exit 1 (1 :: 2 :: 4 :: (rl 6 11 (rl 20 43 []))))
  .skip)) (rl 36 11 [])
  A74v1)
def A74v3 : AC := (.region 14 [o1 61 (bk .add 3 19 1), mv 19 61] 0 none)
def A74v4 : AC := (.seq (.block 1
  (.seq (.region 6 [mv 21 19, o1 22 (.indexAddr 22 40 2 (tm 17) (tm 19)), o1 23 (ln 40 2 22), o1 7 (.alloc 0 40 [vci 0, vci 0]), o1 6 (sg 21), o0 (.store 40 2 (tm 7) (tm 23))] 1 none) []
    (.seq (.region 7 [mv 24 0, mv 25 6, o1 26 (bk .add 3 25 1), mv 27 0, o1 28 (.len 22 false (tm 27)), o1 29 (bt .rem 3 26 28), o1 30 (.indexAddr 22 40 2 (tm 24) (tm 29)), o1 31 (ln 40 2 30), o1 8 (.alloc 0 40 [vci 0, vci 0]), o0 (.store 40 2 (tm 8) (tm 31))] 1 none) []
    (.seq (.seq (.region 8 [o1 32 (ln 40 2 7), o1 33 (ln 40 2 8), o1 34 (ln 40 2 3), o1 35 (cs 92 [32, 33, 34] [40, 40, 40])] 0 none) []
    (.cond (tm 35)
    (.seq (.region 9 [o1 4 (sk 0)] 0 none) []
      (.ret (rl 0 4 (rl 5 58 []))))
    .skip)) (4 :: (rl 32 4 []))
    A74v2)))) (4 :: (rl 6 4 (rl 21 40 [])))
  A74v3)
def A74v5 : AC := (.seq (.region 5 [o1 20 (bt .lss 3 19 18)] 0 none) []
  (.seq (.cond (tm 20)
  .skip
  (.exit 0 (rl 0 5 (rl 6 57 [])))) []
  A74v4))
def A74v6 : AC := (.seq (.region 17 [o1 4 (sk (-1))] 0 none) []
  (.ret (rl 0 4 (rl 5 58 []))))
def A74v7 : AC := (.seq (.seq (.region 15 [mv 62 5] 0 none) []
  (.cond (tm 62)
  (.seq (.region 16 [o1 4 (sk 1)] 0 none) []
    (.ret (rl 0 4 (rl 5 58 []))))
  .skip)) [4, 62]
  A74v6)
def A74v8 : AC := (.seq (.region 3 [o1 5 (sb false)] 0 none) []
  (.seq (.seq (.region 4 [mv 17 0, o1 18 (.len 22 false (tm 17)), o1 19 (.move (ic 0))] 0 none) []
  (.block 0
  (.loop [] (1 :: 2 :: 4 :: (rl 6 11 (rl 20 43 [])))
    A74v5))) (4 :: (rl 6 4 (rl 17 45 [])))
  A74v7))
def A74 : AF := ⟨63, [.tmp 4],
  (.seq (.region 0 [o1 3 (bx 0 40 1), o1 4 (sk 0)] 1 none) []
  (.seq (.seq (.region 1 [o1 10 (ln 40 2 3), o1 11 (cs 86 [10] [40]), mv 12 11, og 13 (.move (tm 0)) 12 false, og 14 (cs 70 [13] [22]) 12 false, og 15 (bk .neq 79 14 0) 12 false, o1 16 (pa 12 15)] 0 none) []
  (.cond (tm 16)
  (.seq (.region 2 [o1 4 (sk (-1))] 0 none) []
    (.ret (rl 0 4 (rl 5 58 []))))
  .skip)) (4 :: (rl 10 7 []))
  A74v8))⟩
def B65v1 (C : Oracle) (fuel : Nat) {ρ : Type} : St → (Ex → St → Option ρ) → Option ρ := fun st k => evalC C fuel A74v5 st k
def N65v1 : St → Option St := fun s => s.norm (1 :: 2 :: 4 :: (rl 6 11 (rl 20 43 []))) 1
def s65v0 (x14 : Nat) (x15 : FF) (x16 : Bool) (x17 x18 x19 x20 : Int) : St := ⟨(.x (.c (.ro false kP x14 x15)) :: .u :: .u :: .x (.ptr 0 0) :: .u :: vxb x16 :: (us 11 (.x (.c (.ro false kP x14 x15)) :: vxi x17 :: vxi x18 :: (us 43 [])))), [.box [(vci x19), (vci x20)]]⟩
def s65v1 (x19 x20 x23 x24 x25 x26 : Int) : St := ⟨(us 4 (vxi 0 :: (us 58 []))), [.box [(vci x19), (vci x20)], .box [(vci x23), (vci x24)], .box [(vci x25), (vci x26)]]⟩
def s65v2 (x27 : Bool) (x19 x20 : Int) : St := ⟨(us 5 (vxb x27 :: (us 57 []))), [.box [(vci x19), (vci x20)]]⟩
def L65v1 {ρ : Type} (fuel : Nat) (x14 : Nat) (x15 : FF) (x17 x19 x20 : Int) : Nat → Bool → Int → (Int → Int → Int → Int → Option ρ) → (Bool → Option ρ) → Option ρ
  | 0, _, _, _, _ => none
  | m + 1, x16, x18, k0, k1 =>
    (bif (decide (x18 < x17)) then (bif (inb x18 x14) then (bif ((Int.ofNat x14) == 0) then none else (bif (inb (Int.tmod (w64 (x18 + 1)) (Int.ofNat x14)) x14) then (ob (F81 fuel (CV.int (x15 (Int.toNat x18) 0)) (CV.int (x15 (Int.toNat x18) 1)) (CV.int (x15 (Int.toNat (Int.tmod (w64 (x18 + 1)) (Int.ofNat x14))) 0)) (CV.int (x15 (Int.toNat (Int.tmod (w64 (x18 + 1)) (Int.ofNat x14))) 1)) x19 x20) fun x21 => (bif x21 then (k0 (CV.int (x15 (Int.toNat x18) 0)) (CV.int (x15 (Int.toNat x18) 1)) (CV.int (x15 (Int.toNat (Int.tmod (w64 (x18 + 1)) (Int.ofNat x14))) 0)) (CV.int (x15 (Int.toNat (Int.tmod (w64 (x18 + 1)) (Int.ofNat x14))) 1))) else (bif ((decide ((CV.int (x15 (Int.toNat x18) 1)) > x20)) == (decide ((CV.int (x15 (Int.toNat (Int.tmod (w64 (x18 + 1)) (Int.ofNat x14))) 1)) > x20))) then (L65v1 fuel x14 x15 x17 x19 x20 m x16 (w64 (x18 + 1)) k0 k1) else (ob (F79 fuel (CV.int (x15 (Int.toNat x18) 0)) (CV.int (x15 (Int.toNat x18) 1)) (CV.int (x15 (Int.toNat (Int.tmod (w64 (x18 + 1)) (Int.ofNat x14))) 0)) (CV.int (x15 (Int.toNat (Int.tmod (w64 (x18 + 1)) (Int.ofNat x14))) 1)) x19 x20) fun x22 => (bif ((decide (x22 > 0)) == (decide ((CV.int (x15 (Int.toNat (Int.tmod (w64 (x18 + 1)) (Int.ofNat x14))) 1)) > (CV.int (x15 (Int.toNat x18) 1))))) then (L65v1 fuel x14 x15 x17 x19 x20 m (!x16) (w64 (x18 + 1)) k0 k1) else (L65v1 fuel x14 x15 x17 x19 x20 m x16 (w64 (x18 + 1)) k0 k1)))))) else none)) else none) else (k1 x16))
theorem nl65v1 {ρ σ : Type} (fuel : Nat) (x14 : Nat) (x15 : FF) (x17 x19 x20 : Int) (g : ρ → Option σ) : ∀ (m : Nat) (x16 : Bool) (x18 : Int) (k0 : Int → Int → Int → Int → Option ρ) (k1 : Bool → Option ρ), ob (L65v1 fuel x14 x15 x17 x19 x20 m x16 x18 k0 k1) g = L65v1 fuel x14 x15 x17 x19 x20 m x16 x18 (fun x23 x24 x25 x26 => ob (k0 x23 x24 x25 x26) g) (fun x27 => ob (k1 x27) g)
  | 0, _, _, _, _ => rfl
  | m + 1, x16, x18, k0, k1 => by
    simp only [L65v1, ob_bif, ob_ob, ob_none, nl65v1 fuel x14 x15 x17 x19 x20 g m]
theorem r65v1 (fuel : Nat) (m : Nat) {ρ : Type} (k : Ex → St → Option ρ) (x14 : Nat) (x15 : FF) (x17 x19 x20 : Int) (x16 : Bool) (x18 : Int) :
    loopH (B65v1 (C32 fuel) fuel) N65v1 (m + 1) (s65v0 x14 x15 x16 x17 x18 x19 x20) k =
    (bif (decide (x18 < x17)) then (bif (inb x18 x14) then (bif ((Int.ofNat x14) == 0) then none else (bif (inb (Int.tmod (w64 (x18 + 1)) (Int.ofNat x14)) x14) then (ob (F81 fuel (CV.int (x15 (Int.toNat x18) 0)) (CV.int (x15 (Int.toNat x18) 1)) (CV.int (x15 (Int.toNat (Int.tmod (w64 (x18 + 1)) (Int.ofNat x14))) 0)) (CV.int (x15 (Int.toNat (Int.tmod (w64 (x18 + 1)) (Int.ofNat x14))) 1)) x19 x20) fun x21 => (bif x21 then (k .ret (s65v1 x19 x20 (CV.int (x15 (Int.toNat x18) 0)) (CV.int (x15 (Int.toNat x18) 1)) (CV.int (x15 (Int.toNat (Int.tmod (w64 (x18 + 1)) (Int.ofNat x14))) 0)) (CV.int (x15 (Int.toNat (Int.tmod (w64 (x18 + 1)) (Int.ofNat x14))) 1)))) else (bif ((decide ((CV.int (x15 (Int.toNat x18) 1)) > x20)) == (decide ((CV.int (x15 (Int.toNat (Int.tmod (w64 (x18 + 1)) (Int.ofNat x14))) 1)) > x20))) then (loopH (B65v1 (C32 fuel) fuel) N65v1 m (s65v0 x14 x15 x16 x17 (w64 (x18 + 1)) x19 x20) k) else (ob (F79 fuel (CV.int (x15 (Int.toNat x18) 0)) (CV.int (x15 (Int.toNat x18) 1)) (CV.int (x15 (Int.toNat (Int.tmod (w64 (x18 + 1)) (Int.ofNat x14))) 0)) (CV.int (x15 (Int.toNat (Int.tmod (w64 (x18 + 1)) (Int.ofNat x14))) 1)) x19 x20) fun x22 => (bif ((decide (x22 > 0)) == (decide ((CV.int (x15 (Int.toNat (Int.tmod (w64 (x18 + 1)) (Int.ofNat x14))) 1)) > (CV.int (x15 (Int.toNat x18) 1))))) then (loopH (B65v1 (C32 fuel) fuel) N65v1 m (s65v0 x14 x15 (!x16) x17 (w64 (x18 + 1)) x19 x20) k) else (loopH (B65v1 (C32 fuel) fuel) N65v1 m (s65v0 x14 x15 x16 x17 (w64 (x18 + 1)) x19 x20) k)))))) else none)) else none) else (k (.exit 0) (s65v2 x16 x19 x20))) := by kernel_rfl
theorem q65v1 (fuel : Nat) (x14 : Nat) (x15 : FF) (x17 x19 x20 : Int) {ρ : Type} (k : Ex → St → Option ρ) : ∀ (m : Nat) (x16 : Bool) (x18 : Int),
    loopH (B65v1 (C32 fuel) fuel) N65v1 m (s65v0 x14 x15 x16 x17 x18 x19 x20) k = L65v1 fuel x14 x15 x17 x19 x20 m x16 x18 (fun x23 x24 x25 x26 => k .ret (s65v1 x19 x20 x23 x24 x25 x26)) (fun x27 => k (.exit 0) (s65v2 x27 x19 x20))
  | 0, _, _ => rfl
  | m + 1, x16, x18 => by
    rw [r65v1]
    simp only [L65v1, q65v1 fuel x14 x15 x17 x19 x20 k m]
def D65 {ρ : Type} (fuel : Nat) (x1 : Nat) (x2 : FF) (x3 x4 : Int) (k : Int → Option ρ) : Option ρ :=
  (ob (F61 fuel x3 x4) fun x5 => (bif (x5 == false) then (ob (F33 fuel x1 x2) fun x6 => (bif (x6 != 0) then (k (-1)) else (L65v1 fuel x1 x2 (Int.ofNat x1) x3 x4 fuel false 0
    (fun x28 x29 x30 x31 => (k 0))
    (fun x32 => (bif x32 then (k 1) else (k (-1))))))) else (k (-1))))
def F65 (fuel : Nat) (x1 : Nat) (x2 : FF) (x3 x4 : Int) : Option (Int) := D65 fuel x1 x2 x3 x4 some
theorem f65 {ρ : Type} (fuel : Nat) (x1 : Nat) (x2 : FF) (x3 x4 : Int) (k : (Int) → Option ρ) : D65 fuel x1 x2 x3 x4 k = ob (F65 fuel x1 x2 x3 x4) k := by
  simp only [F65, D65, ob_bif, ob_ob, ob_none, ob_some, nl65v1]
def s65v3 (x1 : Nat) (x2 : FF) (x3 x4 : Int) : St := ⟨(.x (.c (.ro false kP x1 x2)) :: .agg [(vci x3), (vci x4)] :: .undef :: .x (.ptr 0 0) :: .u :: vxb false :: .undef :: .undef :: .undef :: .undef :: (us 7 [.x (.c (.ro false kP x1 x2)), vxi (Int.ofNat x1), vxi 0, .undef, .undef, .undef, .undef, .undef, .undef, .undef, .undef, .undef, .undef, .undef, .undef, .undef, .undef, .undef, .undef, .undef, .undef, .undef, .undef, .undef, .undef, .undef, .undef, .undef, .undef, .undef, .undef, .undef, .undef, .undef, .undef, .undef, .undef, .undef, .undef, .undef, .undef, .undef, .undef, .undef, .undef, .undef])), [.box [(vci x3), (vci x4)]]⟩
theorem walk65 (fuel : Nat) (x1 : Nat) (x2 : FF) (x3 x4 : Int) :
    evalF (C32 fuel) fuel A74 [.v (.ro false kP x1 x2), .agg [(vi x3), (vi x4)]] =
    (ob (F61 fuel x3 x4) fun x5 => (bif (x5 == false) then (ob (F33 fuel x1 x2) fun x6 => (bif (x6 != 0) then (some [.v (vi (-1))]) else (loopN (B65v1 (C32 fuel) fuel) N65v1 fuel (s65v3 x1 x2 x3 x4) (kBlk 0 (kSeq (C32 fuel) fuel (4 :: (rl 6 4 (rl 17 45 []))) A74v7 (finish A74)))))) else (some [.v (vi (-1))]))) := by kernel_rfl
theorem t65v1 (fuel : Nat) {ρ : Type} (k : Ex → St → Option ρ) (x1 : Nat) (x2 : FF) (x3 x4 : Int) :
    loopN (B65v1 (C32 fuel) fuel) N65v1 fuel (s65v3 x1 x2 x3 x4) k =
    L65v1 fuel x1 x2 (Int.ofNat x1) x3 x4 fuel false 0 (fun x23 x24 x25 x26 => k .ret (s65v1 x3 x4 x23 x24 x25 x26)) (fun x27 => k (.exit 0) (s65v2 x27 x3 x4)) :=
  (loopN_at (st' := (s65v0 x1 x2 false (Int.ofNat x1) 0 x3 x4)) (by kernel_rfl)).trans (q65v1 fuel x1 x2 (Int.ofNat x1) x3 x4 k fuel false 0)
theorem g65v2 (fuel : Nat) (x3 x4 x28 x29 x30 x31 : Int) :
    (kBlk 0 (kSeq (C32 fuel) fuel (4 :: (rl 6 4 (rl 17 45 []))) A74v7 (finish A74))) .ret (s65v1 x3 x4 x28 x29 x30 x31) =
    (some [.v (vi 0)]) := by kernel_rfl
theorem g65v3 (fuel : Nat) (x32 : Bool) (x3 x4 : Int) :
    (kBlk 0 (kSeq (C32 fuel) fuel (4 :: (rl 6 4 (rl 17 45 []))) A74v7 (finish A74))) (.exit 0) (s65v2 x32 x3 x4) =
    (bif x32 then (some [.v (vi 1)]) else (some [.v (vi (-1))])) := by kernel_rfl
theorem e65 (fuel : Nat) (x1 : Nat) (x2 : FF) (x3 x4 : Int) : evalF (C32 fuel) fuel A74 [.v (.ro false kP x1 x2), .agg [(vi x3), (vi x4)]] = ob (F65 fuel x1 x2 x3 x4) fun t => some [.v (vi t)] := by
  rw [walk65, ← f65]
  simp only [D65, t65v1, g65v2, g65v3]
def O65 (fuel : Nat) : Ora where
  o := fun args {ρ} K =>
    wcL kP args fun y4 y5 l2 =>
    wc l2 fun a6 l7 =>
    wagg a6 fun l8 =>
    wdI .i64 l8 fun y12 l10 =>
    wdI .i64 l10 fun y16 l14 =>
    wn l14 <|
    wn l7 <|
    (ob (F65 fuel y4 y5 y12 y16) fun t => K [.v (vi t)])
  nat := fun args {ρ} K => by
    simp only [bind_wagg, bind_wc, bind_wcL, bind_wdI, bind_wn, bind_ob, Option.bind_some]
theorem d65 {P : Program} (fuel : Nat) (hmix : P.follows .mixedOrders = true) (hC : Sound P (C32 fuel)) (hF : FFits P 74 A74) (args res : List A) (h : (O65 fuel).o args some = some res) : Den P 74 args res := by
  obtain ⟨a1, y4, y5, l2, rfl, h3, z0⟩ := inv_wcL h
  obtain ⟨a6, l7, rfl, z1⟩ := inv_wc z0
  obtain ⟨l8, rfl, z2⟩ := inv_wagg z1
  obtain ⟨a9, y12, l10, rfl, h11, z3⟩ := inv_wdI z2
  obtain ⟨a13, y16, l14, rfl, h15, z4⟩ := inv_wdI z3
  obtain ⟨hn, z5⟩ := inv_wn z4
  cases hn
  obtain ⟨hn, z6⟩ := inv_wn z5
  cases hn
  exact Den.weaken (.cons h3 (.cons (WkA.agg (.cons h11 (.cons h15 .nil))) .nil)) (evalF_sound hmix hC hF ((e65 fuel y4 y5 y12 y16).trans z6))
def C33 (fuel : Nat) : Oracle := (C32 fuel).add 74 (fun _ => true) (O65 fuel)
def A91 : AF := ⟨8, [.tmp 3],
  (.seq (.region 0 [o1 2 (bx 0 40 0), o1 3 (sb false)] 1 none) []
  (.seq (.region 1 [o1 4 (lo 22 1), o1 5 (ln 40 2 2), o1 6 (cs 74 [4, 5] [22, 40]), o1 7 (bk .neq 3 6 1), o1 3 (sg 7)] 0 none) []
  (.ret (0 :: 1 :: 2 :: (rl 4 4 [])))))⟩
def D64 {ρ : Type} (fuel : Nat) (x1 x2 : Int) (x3 : Nat → CV) (k : Bool → Option ρ) : Option ρ :=
  (ob (F65 fuel (CV.len (x3 0)) (CV.el (x3 0)) x1 x2) fun x4 => (k (x4 != 1)))
def F64 (fuel : Nat) (x1 x2 : Int) (x3 : Nat → CV) : Option (Bool) := D64 fuel x1 x2 x3 some
theorem f64 {ρ : Type} (fuel : Nat) (x1 x2 : Int) (x3 : Nat → CV) (k : (Bool) → Option ρ) : D64 fuel x1 x2 x3 k = ob (F64 fuel x1 x2 x3) k := by
  simp only [F64, D64, ob_bif, ob_ob, ob_none, ob_some]
theorem walk64 (fuel : Nat) (x1 x2 : Int) (x3 : Nat → CV) :
    evalF (C33 fuel) fuel A91 [.agg [(vi x1), (vi x2)], .v (.rp (.pr (.sl kP) .nil) x3)] =
    (ob (F65 fuel (CV.len (x3 0)) (CV.el (x3 0)) x1 x2) fun x4 => (some [.v (.b (x4 != 1))])) := by kernel_rfl
theorem e64 (fuel : Nat) (x1 x2 : Int) (x3 : Nat → CV) : evalF (C33 fuel) fuel A91 [.agg [(vi x1), (vi x2)], .v (.rp (.pr (.sl kP) .nil) x3)] = ob (F64 fuel x1 x2 x3) fun t => some [.v (.b t)] := by
  rw [walk64, ← f64]
  simp only [D64]
def O64 (fuel : Nat) : Ora where
  o := fun args {ρ} K =>
    wc args fun a1 l2 =>
    wagg a1 fun l3 =>
    wdI .i64 l3 fun y7 l5 =>
    wdI .i64 l5 fun y11 l9 =>
    wn l9 <|
    wc l2 fun a12 l13 =>
    wv a12 fun c14 =>
    wP (.pr (.sl kP) .nil) c14 fun y15 =>
    wn l13 <|
    (ob (F64 fuel y7 y11 y15) fun t => K [.v (.b t)])
  nat := fun args {ρ} K => by
    simp only [bind_wP, bind_wagg, bind_wc, bind_wdI, bind_wn, bind_wv, bind_ob, Option.bind_some]
theorem d64 {P : Program} (fuel : Nat) (hmix : P.follows .mixedOrders = true) (hC : Sound P (C33 fuel)) (hF : FFits P 91 A91) (args res : List A) (h : (O64 fuel).o args some = some res) : Den P 91 args res := by
  obtain ⟨a1, l2, rfl, z0⟩ := inv_wc h
  obtain ⟨l3, rfl, z1⟩ := inv_wagg z0
  obtain ⟨a4, y7, l5, rfl, h6, z2⟩ := inv_wdI z1
  obtain ⟨a8, y11, l9, rfl, h10, z3⟩ := inv_wdI z2
  obtain ⟨hn, z4⟩ := inv_wn z3
  cases hn
  obtain ⟨a12, l13, rfl, z5⟩ := inv_wc z4
  obtain ⟨c14, rfl, z6⟩ := inv_wv z5
  obtain ⟨y15, h16, z7⟩ := inv_wP z6
  obtain ⟨hn, z8⟩ := inv_wn z7
  cases hn
  exact Den.weaken (.cons (WkA.agg (.cons h6 (.cons h10 .nil))) (.cons (WkA.v (wk_rp h16)) .nil)) (evalF_sound hmix hC hF ((e64 fuel y7 y11 y15).trans z8))
def C34 (fuel : Nat) : Oracle := (C33 fuel).add 91 (fun _ => true) (O64 fuel)
def B73bv1 (C : Oracle) (fuel : Nat) {ρ : Type} : St → (Ex → St → Option ρ) → Option ρ := fun st k => evalC C fuel A97v3 st k
def N73bv1 : St → Option St := fun s => s.norm (rl 2 5 (rl 9 10 [])) 0
def s73bv0 (x9 : Nat) (x10 : FF) (x11 : Nat → CV) (x12 x13 : Int) : St := ⟨(.x (.c (.ro false kP x9 x10)) :: .x (.c (.fn 91 1 (listF [(.rp (.pr (.sl kP) .nil) x11)]))) :: (us 5 (vxi x12 :: vxi x13 :: (us 10 [])))), []⟩
def s73bv1 (x15 : Int) : St := ⟨(us 4 (vxi x15 :: (us 14 []))), []⟩
def s73bv2 : St := ⟨(us 19 []), []⟩
def L73bv1 {ρ : Type} (fuel : Nat) (x9 : Nat) (x10 : FF) (x11 : Nat → CV) (x12 : Int) : Nat → Int → (Int → Option ρ) → (Option ρ) → Option ρ
  | 0, _, _, _ => none
  | m + 1, x13, k0, k1 =>
    (bif (decide (x13 < x12)) then (bif (inb x13 x9) then (ob (F64 fuel (CV.int (x10 (Int.toNat x13) 0)) (CV.int (x10 (Int.toNat x13) 1)) x11) fun x14 => (bif x14 then (k0 x13) else (L73bv1 fuel x9 x10 x11 x12 m (w64 (x13 + 1)) k0 k1))) else none) else k1)
theorem nl73bv1 {ρ σ : Type} (fuel : Nat) (x9 : Nat) (x10 : FF) (x11 : Nat → CV) (x12 : Int) (g : ρ → Option σ) : ∀ (m : Nat) (x13 : Int) (k0 : Int → Option ρ) (k1 : Option ρ), ob (L73bv1 fuel x9 x10 x11 x12 m x13 k0 k1) g = L73bv1 fuel x9 x10 x11 x12 m x13 (fun x15 => ob (k0 x15) g) (ob k1 g)
  | 0, _, _, _ => rfl
  | m + 1, x13, k0, k1 => by
    simp only [L73bv1, ob_bif, ob_ob, ob_none, nl73bv1 fuel x9 x10 x11 x12 g m]
theorem r73bv1 (fuel : Nat) (m : Nat) {ρ : Type} (k : Ex → St → Option ρ) (x9 : Nat) (x10 : FF) (x11 : Nat → CV) (x12 x13 : Int) :
    loopH (B73bv1 (C34 fuel) fuel) N73bv1 (m + 1) (s73bv0 x9 x10 x11 x12 x13) k =
    (bif (decide (x13 < x12)) then (bif (inb x13 x9) then (ob (F64 fuel (CV.int (x10 (Int.toNat x13) 0)) (CV.int (x10 (Int.toNat x13) 1)) x11) fun x14 => (bif x14 then (k .ret (s73bv1 x13)) else (loopH (B73bv1 (C34 fuel) fuel) N73bv1 m (s73bv0 x9 x10 x11 x12 (w64 (x13 + 1))) k))) else none) else (k (.exit 0) s73bv2)) := by kernel_rfl
theorem q73bv1 (fuel : Nat) (x9 : Nat) (x10 : FF) (x11 : Nat → CV) (x12 : Int) {ρ : Type} (k : Ex → St → Option ρ) : ∀ (m : Nat) (x13 : Int),
    loopH (B73bv1 (C34 fuel) fuel) N73bv1 m (s73bv0 x9 x10 x11 x12 x13) k = L73bv1 fuel x9 x10 x11 x12 m x13 (fun x15 => k .ret (s73bv1 x15)) (k (.exit 0) s73bv2)
  | 0, _ => rfl
  | m + 1, x13 => by
    rw [r73bv1]
    simp only [L73bv1, q73bv1 fuel x9 x10 x11 x12 k m]
def D73b {ρ : Type} (fuel : Nat) (x1 : Nat) (x2 : FF) (x3 : Nat → CV) (k : Int → Option ρ) : Option ρ :=
  (L73bv1 fuel x1 x2 x3 (Int.ofNat x1) fuel 0
    (fun x16 => (k x16))
    (k (-1)))
def F73b (fuel : Nat) (x1 : Nat) (x2 : FF) (x3 : Nat → CV) : Option (Int) := D73b fuel x1 x2 x3 some
theorem f73b {ρ : Type} (fuel : Nat) (x1 : Nat) (x2 : FF) (x3 : Nat → CV) (k : (Int) → Option ρ) : D73b fuel x1 x2 x3 k = ob (F73b fuel x1 x2 x3) k := by
  simp only [F73b, D73b, ob_bif, ob_ob, ob_none, ob_some, nl73bv1]
def s73bv3 (x1 : Nat) (x2 : FF) (x3 : Nat → CV) : St := ⟨[.x (.c (.ro false kP x1 x2)), .x (.c (.fn 91 1 (listF [(.rp (.pr (.sl kP) .nil) x3)]))), .undef, .undef, vxi 0, .undef, .x (.c (.ro false kP x1 x2)), vxi (Int.ofNat x1), vxi 0, .undef, .undef, .undef, .undef, .undef, .undef, .undef, .undef, .undef, .undef], []⟩
theorem walk73b (fuel : Nat) (x1 : Nat) (x2 : FF) (x3 : Nat → CV) :
    evalF (C34 fuel) fuel A97 [.v (.ro false kP x1 x2), .v (.fn 91 1 (listF [(.rp (.pr (.sl kP) .nil) x3)]))] =
    (loopN (B73bv1 (C34 fuel) fuel) N73bv1 fuel (s73bv3 x1 x2 x3) (kBlk 0 (kSeq (C34 fuel) fuel (rl 4 15 []) A97v4 (finish A97)))) := by kernel_rfl
theorem t73bv1 (fuel : Nat) {ρ : Type} (k : Ex → St → Option ρ) (x1 : Nat) (x2 : FF) (x3 : Nat → CV) :
    loopN (B73bv1 (C34 fuel) fuel) N73bv1 fuel (s73bv3 x1 x2 x3) k =
    L73bv1 fuel x1 x2 x3 (Int.ofNat x1) fuel 0 (fun x15 => k .ret (s73bv1 x15)) (k (.exit 0) s73bv2) :=
  (loopN_at (st' := (s73bv0 x1 x2 x3 (Int.ofNat x1) 0)) (by kernel_rfl)).trans (q73bv1 fuel x1 x2 x3 (Int.ofNat x1) k fuel 0)
theorem g73bv2 (fuel : Nat) (x16 : Int) :
    (kBlk 0 (kSeq (C34 fuel) fuel (rl 4 15 []) A97v4 (finish A97))) .ret (s73bv1 x16) =
    (some [.v (vi x16)]) := by kernel_rfl
theorem g73bv3 (fuel : Nat) :
    (kBlk 0 (kSeq (C34 fuel) fuel (rl 4 15 []) A97v4 (finish A97))) (.exit 0) s73bv2 =
    (some [.v (vi (-1))]) := by kernel_rfl
theorem e73b (fuel : Nat) (x1 : Nat) (x2 : FF) (x3 : Nat → CV) : evalF (C34 fuel) fuel A97 [.v (.ro false kP x1 x2), .v (.fn 91 1 (listF [(.rp (.pr (.sl kP) .nil) x3)]))] = ob (F73b fuel x1 x2 x3) fun t => some [.v (vi t)] := by
  rw [walk73b, ← f73b]
  simp only [D73b, t73bv1, g73bv2, g73bv3]
def O73b (fuel : Nat) : Ora where
  o := fun args {ρ} K =>
    wcL kP args fun y4 y5 l2 =>
    wc l2 fun a6 l7 =>
    wv a6 fun c8 =>
    wFn 91 1 c8 fun y9 =>
    wP (.pr (.sl kP) .nil) (y9 0) fun y11 =>
    wn l7 <|
    (ob (F73b fuel y4 y5 y11) fun t => K [.v (vi t)])
  nat := fun args {ρ} K => by
    simp only [bind_wFn, bind_wP, bind_wc, bind_wcL, bind_wn, bind_wv, bind_ob, Option.bind_some]
theorem d73b {P : Program} (fuel : Nat) (hmix : P.follows .mixedOrders = true) (hC : Sound P (C34 fuel)) (hF : FFits P 97 A97) (args res : List A) (h : (O73b fuel).o args some = some res) : Den P 97 args res := by
  obtain ⟨a1, y4, y5, l2, rfl, h3, z0⟩ := inv_wcL h
  obtain ⟨a6, l7, rfl, z1⟩ := inv_wc z0
  obtain ⟨c8, rfl, z2⟩ := inv_wv z1
  obtain ⟨y9, h10, z3⟩ := inv_wFn z2
  obtain ⟨y11, h12, z4⟩ := inv_wP z3
  obtain ⟨hn, z5⟩ := inv_wn z4
  cases hn
  exact Den.weaken (.cons h3 (.cons (WkA.v (wk_fn1 h10 (wk_rp h12))) .nil)) (evalF_sound hmix hC hF ((e73b fuel y4 y5 y11).trans z5))
def C35 (fuel : Nat) : Oracle := (C34 fuel).add 97 (fun l => isFn 91 l 1) (O73b fuel)
def D50b {ρ : Type} (fuel : Nat) (x1 : Nat) (x2 : FF) (x3 : Nat → CV) (k : Bool → Option ρ) : Option ρ :=
  (ob (F73b fuel x1 x2 x3) fun x4 => (k (decide (x4 ≥ 0))))
def F50b (fuel : Nat) (x1 : Nat) (x2 : FF) (x3 : Nat → CV) : Option (Bool) := D50b fuel x1 x2 x3 some
theorem f50b {ρ : Type} (fuel : Nat) (x1 : Nat) (x2 : FF) (x3 : Nat → CV) (k : (Bool) → Option ρ) : D50b fuel x1 x2 x3 k = ob (F50b fuel x1 x2 x3) k := by
  simp only [F50b, D50b, ob_bif, ob_ob, ob_none, ob_some]
theorem walk50b (fuel : Nat) (x1 : Nat) (x2 : FF) (x3 : Nat → CV) :
    evalF (C35 fuel) fuel A85 [.v (.ro false kP x1 x2), .v (.fn 91 1 (listF [(.rp (.pr (.sl kP) .nil) x3)]))] =
    (ob (F73b fuel x1 x2 x3) fun x4 => (some [.v (.b (decide (x4 ≥ 0)))])) := by kernel_rfl
theorem e50b (fuel : Nat) (x1 : Nat) (x2 : FF) (x3 : Nat → CV) : evalF (C35 fuel) fuel A85 [.v (.ro false kP x1 x2), .v (.fn 91 1 (listF [(.rp (.pr (.sl kP) .nil) x3)]))] = ob (F50b fuel x1 x2 x3) fun t => some [.v (.b t)] := by
  rw [walk50b, ← f50b]
  simp only [D50b]
def O50b (fuel : Nat) : Ora where
  o := fun args {ρ} K =>
    wcL kP args fun y4 y5 l2 =>
    wc l2 fun a6 l7 =>
    wv a6 fun c8 =>
    wFn 91 1 c8 fun y9 =>
    wP (.pr (.sl kP) .nil) (y9 0) fun y11 =>
    wn l7 <|
    (ob (F50b fuel y4 y5 y11) fun t => K [.v (.b t)])
  nat := fun args {ρ} K => by
    simp only [bind_wFn, bind_wP, bind_wc, bind_wcL, bind_wn, bind_wv, bind_ob, Option.bind_some]
theorem d50b {P : Program} (fuel : Nat) (hmix : P.follows .mixedOrders = true) (hC : Sound P (C35 fuel)) (hF : FFits P 85 A85) (args res : List A) (h : (O50b fuel).o args some = some res) : Den P 85 args res := by
  obtain ⟨a1, y4, y5, l2, rfl, h3, z0⟩ := inv_wcL h
  obtain ⟨a6, l7, rfl, z1⟩ := inv_wc z0
  obtain ⟨c8, rfl, z2⟩ := inv_wv z1
  obtain ⟨y9, h10, z3⟩ := inv_wFn z2
  obtain ⟨y11, h12, z4⟩ := inv_wP z3
  obtain ⟨hn, z5⟩ := inv_wn z4
  cases hn
  exact Den.weaken (.cons h3 (.cons (WkA.v (wk_fn1 h10 (wk_rp h12))) .nil)) (evalF_sound hmix hC hF ((e50b fuel y4 y5 y11).trans z5))
def C36 (fuel : Nat) : Oracle := (C35 fuel).add 85 (fun l => isFn 91 l 1) (O50b fuel)
def A72 : AF := ⟨15, [.tmp 4],
  (.seq (.region 0 [o1 3 (bx 0 22 1), o1 4 (sb false)] 1 none) []
  (.seq (.region 1 [mv 5 0, o1 6 (lo 22 3), o1 7 (.call 89 [(tm 5), (tm 6), (.func 90)] [22, 22, 91] .snap), o1 8 (.unOp .not 4 (tm 7)), mv 9 8, og 10 (.move (tm 0)) 9 true, og 11 (.mkfn 91 [(tm 3)]) 9 true, og 12 (cs 85 [10, 11] [22, 97]) 9 true, og 13 (.unOp .not 4 (tm 12)) 9 true, o1 14 (po 9 13), o1 4 (sg 14)] 0 none) []
  (.ret (rl 0 4 (rl 5 10 [])))))⟩
def D35 {ρ : Type} (fuel : Nat) (x1 : Nat) (x2 : FF) (x3 : Nat) (x4 : FF) (k : Bool → Option ρ) : Option ρ :=
  (ob (F58 fuel x1 x2 x3 x4) fun x5 => (bif ((!x5) == true) then (ob (F50b fuel x1 x2 (listF [(.ro false (.pr (.int .i64) (.pr (.int .i64) .nil)) x3 x4)])) fun x6 => (k (!x6))) else (k false)))
def F35 (fuel : Nat) (x1 : Nat) (x2 : FF) (x3 : Nat) (x4 : FF) : Option (Bool) := D35 fuel x1 x2 x3 x4 some
theorem f35 {ρ : Type} (fuel : Nat) (x1 : Nat) (x2 : FF) (x3 : Nat) (x4 : FF) (k : (Bool) → Option ρ) : D35 fuel x1 x2 x3 x4 k = ob (F35 fuel x1 x2 x3 x4) k := by
  simp only [F35, D35, ob_bif, ob_ob, ob_none, ob_some]
theorem walk35 (fuel : Nat) (x1 : Nat) (x2 : FF) (x3 : Nat) (x4 : FF) :
    evalF (C36 fuel) fuel A72 [.v (.ro false kP x1 x2), .v (.ro false kP x3 x4)] =
    (ob (F58 fuel x1 x2 x3 x4) fun x5 => (bif ((!x5) == true) then (ob (F50b fuel x1 x2 (listF [(.ro false kP x3 x4)])) fun x6 => (some [.v (.b (!x6))])) else (some [.v (.b false)]))) := by kernel_rfl
theorem e35 (fuel : Nat) (x1 : Nat) (x2 : FF) (x3 : Nat) (x4 : FF) : evalF (C36 fuel) fuel A72 [.v (.ro false kP x1 x2), .v (.ro false kP x3 x4)] = ob (F35 fuel x1 x2 x3 x4) fun t => some [.v (.b t)] := by
  rw [walk35, ← f35]
  simp only [D35]
def O35 (fuel : Nat) : Ora where
  o := fun args {ρ} K =>
    wcL kP args fun y4 y5 l2 =>
    wcL kP l2 fun y9 y10 l7 =>
    wn l7 <|
    (ob (F35 fuel y4 y5 y9 y10) fun t => K [.v (.b t)])
  nat := fun args {ρ} K => by
    simp only [bind_wcL, bind_wn, bind_ob, Option.bind_some]
theorem d35 {P : Program} (fuel : Nat) (hmix : P.follows .mixedOrders = true) (hC : Sound P (C36 fuel)) (hF : FFits P 72 A72) (args res : List A) (h : (O35 fuel).o args some = some res) : Den P 72 args res := by
  obtain ⟨a1, y4, y5, l2, rfl, h3, z0⟩ := inv_wcL h
  obtain ⟨a6, y9, y10, l7, rfl, h8, z1⟩ := inv_wcL z0
  obtain ⟨hn, z2⟩ := inv_wn z1
  cases hn
  exact Den.weaken (.cons h3 (.cons h8 .nil)) (evalF_sound hmix hC hF ((e35 fuel y4 y5 y9 y10).trans z2))
def C37 (fuel : Nat) : Oracle := (C36 fuel).add 72 (fun _ => true) (O35 fuel)
def A73 : AF := ⟨25, [.tmp 4],
  (.seq (.region 0 [o1 4 (sb false)] 0 none) []
  (.seq (.region 1 [mv 5 0, mv 6 1, o1 7 (.call 89 [(tm 5), (tm 6), (.func 90)] [22, 22, 91] .snap), o1 8 (.unOp .not 4 (tm 7)), mv 9 8, og 10 (.move (tm 0)) 9 true, og 11 (.move (tm 1)) 9 true, og 12 (.indexAddr 22 40 2 (tm 11) (ic 0)) 9 true, og 13 (ln 40 2 12) 9 true, og 14 (cs 74 [10, 13] [22, 40]) 9 true, og 15 (bk .lss 3 14 0) 9 true, o1 16 (po 9 15), mv 17 16, og 18 (.move (tm 1)) 17 true, og 19 (.move (tm 0)) 17 true, og 20 (.indexAddr 22 40 2 (tm 19) (ic 0)) 17 true, og 21 (ln 40 2 20) 17 true, og 22 (cs 74 [18, 21] [22, 40]) 17 true, og 23 (bk .lss 3 22 0) 17 true, o1 24 (po 17 23), o1 4 (sg 24)] 0 none) []
  (.ret (rl 0 4 (rl 5 20 [])))))⟩
def D36 {ρ : Type} (fuel : Nat) (x1 : Nat) (x2 : FF) (x3 : Nat) (x4 : FF) (k : Bool → Option ρ) : Option ρ :=
  (ob (F58 fuel x1 x2 x3 x4) fun x5 => (bif ((!x5) == true) then (bif (inb 0 x3) then (ob (F65 fuel x1 x2 (CV.int (x4 0 0)) (CV.int (x4 0 1))) fun x6 => (bif ((decide (x6 < 0)) == true) then (bif (inb 0 x1) then (ob (F65 fuel x3 x4 (CV.int (x2 0 0)) (CV.int (x2 0 1))) fun x7 => (k (decide (x7 < 0)))) else none) else (k false))) else none) else (k false)))
def F36 (fuel : Nat) (x1 : Nat) (x2 : FF) (x3 : Nat) (x4 : FF) : Option (Bool) := D36 fuel x1 x2 x3 x4 some
theorem f36 {ρ : Type} (fuel : Nat) (x1 : Nat) (x2 : FF) (x3 : Nat) (x4 : FF) (k : (Bool) → Option ρ) : D36 fuel x1 x2 x3 x4 k = ob (F36 fuel x1 x2 x3 x4) k := by
  simp only [F36, D36, ob_bif, ob_ob, ob_none, ob_some]
theorem walk36 (fuel : Nat) (x1 : Nat) (x2 : FF) (x3 : Nat) (x4 : FF) :
    evalF (C37 fuel) fuel A73 [.v (.ro false kP x1 x2), .v (.ro false kP x3 x4)] =
    (ob (F58 fuel x1 x2 x3 x4) fun x5 => (bif ((!x5) == true) then (bif (inb 0 x3) then (ob (F65 fuel x1 x2 (CV.int (x4 0 0)) (CV.int (x4 0 1))) fun x6 => (bif ((decide (x6 < 0)) == true) then (bif (inb 0 x1) then (ob (F65 fuel x3 x4 (CV.int (x2 0 0)) (CV.int (x2 0 1))) fun x7 => (some [.v (.b (decide (x7 < 0)))])) else none) else (some [.v (.b false)]))) else none) else (some [.v (.b false)]))) := by kernel_rfl
theorem e36 (fuel : Nat) (x1 : Nat) (x2 : FF) (x3 : Nat) (x4 : FF) : evalF (C37 fuel) fuel A73 [.v (.ro false kP x1 x2), .v (.ro false kP x3 x4)] = ob (F36 fuel x1 x2 x3 x4) fun t => some [.v (.b t)] := by
  rw [walk36, ← f36]
  simp only [D36]
def O36 (fuel : Nat) : Ora where
  o := fun args {ρ} K =>
    wcL kP args fun y4 y5 l2 =>
    wcL kP l2 fun y9 y10 l7 =>
    wn l7 <|
    (ob (F36 fuel y4 y5 y9 y10) fun t => K [.v (.b t)])
  nat := fun args {ρ} K => by
    simp only [bind_wcL, bind_wn, bind_ob, Option.bind_some]
theorem d36 {P : Program} (fuel : Nat) (hmix : P.follows .mixedOrders = true) (hC : Sound P (C37 fuel)) (hF : FFits P 73 A73) (args res : List A) (h : (O36 fuel).o args some = some res) : Den P 73 args res := by
  obtain ⟨a1, y4, y5, l2, rfl, h3, z0⟩ := inv_wcL h
  obtain ⟨a6, y9, y10, l7, rfl, h8, z1⟩ := inv_wcL z0
  obtain ⟨hn, z2⟩ := inv_wn z1
  cases hn
  exact Den.weaken (.cons h3 (.cons h8 .nil)) (evalF_sound hmix hC hF ((e36 fuel y4 y5 y9 y10).trans z2))
def C38 (fuel : Nat) : Oracle := (C37 fuel).add 73 (fun _ => true) (O36 fuel)
end Go.Eng.R13
