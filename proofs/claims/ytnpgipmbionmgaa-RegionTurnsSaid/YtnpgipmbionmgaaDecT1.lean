/-
  The functions of the program, run on symbols; printed by decomp.py.
-/
import Derived.Test.YtnpgipmbionmgaaDecT0
set_option linter.all false
set_option maxRecDepth 1000000
set_option maxHeartbeats 4000000
namespace Go.Eng.R13
open Go Go.RowKit Go.Eng
def A66v1 : AC := (.region 3 [mv 8 3, o1 9 (.binOp .add 3 (tm 8) (ic 1) 3), o1 3 (.assign (tm 9))] 0 none)
def A66v2 : AC := (.seq (.block 1
  (.seq (.region 4 [mv 10 0, mv 11 3, o1 12 (.indexAddr 22 34 2 (tm 10) (tm 11)), o1 13 (.load 34 (some 2) (tm 12)), o1 14 (.call 69 [(tm 13)] [34] .snap), o1 15 (.unOp .not 4 (tm 14))] 0 none) []
    (.cond (tm 15)
    (.seq (.region 5 [o1 2 (.assign (.const (.bool false)))] 0 none) []
      (.ret (0 :: 1 :: (rl 3 13 []))))
    .skip))) (2 :: (rl 10 6 []))
  A66v1)
def A66v3 : AC := (.seq (.seq (.region 2 [mv 4 3, mv 5 0, o1 6 (.len 22 false (tm 5)), o1 7 (.binOp .lss 3 (tm 4) (tm 6) 3)] 0 none) []
  (.cond (tm 7)
  .skip
  (.exit 0 (rl 0 16 [])))) (rl 4 4 [])
  A66v2)
def A66v4 : AC := (.seq (.region 6 [o1 2 (.assign (.const (.bool true)))] 0 none) []
  (.ret (0 :: 1 :: (rl 3 13 []))))
def A66 : AF := ⟨16, [.tmp 2],
  (.seq (.region 0 [o1 2 (.assign (.const (.bool false)))] 0 none) []
  (.seq (.seq (.region 1 [o1 3 (.assign (ic 0))] 0 none) []
  (.block 0
  (.loop [] (1 :: 2 :: (rl 4 12 []))
    A66v3))) (rl 2 14 [])
  A66v4))⟩
def B66v1 (C : Oracle) (fuel : Nat) {ρ : Type} : St → (Ex → St → Option ρ) → Option ρ := fun st k => evalC C fuel A66v3 st k
def N66v1 : St → Option St := fun s => s.norm (1 :: 2 :: (rl 4 12 [])) 0
def s66v0 (x6 : Nat) (x7 : Nat → Nat → CV) (x8 : Int) : St := ⟨(.x (.c (.ro false (.pr (.int .i64) (.pr (.int .i64) .nil)) x6 x7)) :: .u :: .u :: .x (.c (.i .i64 x8)) :: (us 12 [])), []⟩
def s66v1 : St := ⟨(.u :: .u :: .x (.c (.b false)) :: (us 13 [])), []⟩
def s66v2 : St := ⟨(us 16 []), []⟩
def L66v1 {ρ : Type} (fuel : Nat) (x6 : Nat) (x7 : Nat → Nat → CV) : Nat → Int → (Option ρ) → (Option ρ) → Option ρ
  | 0, _, _, _ => none
  | m + 1, x8, k0, k1 =>
    (bif (decide (x8 < (Int.ofNat x6))) then (bif (inb x8 x6) then (ob (F69 fuel (CV.int (x7 (Int.toNat x8) 0)) (CV.int (x7 (Int.toNat x8) 1))) fun x9 => (bif (!x9) then k0 else (L66v1 fuel x6 x7 m (w64 (x8 + 1)) k0 k1))) else none) else k1)
theorem nl66v1 {ρ σ : Type} (fuel : Nat) (x6 : Nat) (x7 : Nat → Nat → CV) (g : ρ → Option σ) : ∀ (m : Nat) (x8 : Int) (k0 : Option ρ) (k1 : Option ρ), ob (L66v1 fuel x6 x7 m x8 k0 k1) g = L66v1 fuel x6 x7 m x8 (ob k0 g) (ob k1 g)
  | 0, _, _, _ => rfl
  | m + 1, x8, k0, k1 => by
    simp only [L66v1, ob_bif, ob_ob, ob_none, nl66v1 fuel x6 x7 g m]
theorem r66v1 (fuel : Nat) (m : Nat) {ρ : Type} (k : Ex → St → Option ρ) (x6 : Nat) (x7 : Nat → Nat → CV) (x8 : Int) :
    loopH (B66v1 (C28 fuel) fuel) N66v1 (m + 1) (s66v0 x6 x7 x8) k =
    (bif (decide (x8 < (Int.ofNat x6))) then (bif (inb x8 x6) then (ob (F69 fuel (CV.int (x7 (Int.toNat x8) 0)) (CV.int (x7 (Int.toNat x8) 1))) fun x9 => (bif (!x9) then (k .ret s66v1) else (loopH (B66v1 (C28 fuel) fuel) N66v1 m (s66v0 x6 x7 (w64 (x8 + 1))) k))) else none) else (k (.exit 0) s66v2)) := by kernel_rfl
theorem q66v1 (fuel : Nat) (x6 : Nat) (x7 : Nat → Nat → CV) {ρ : Type} (k : Ex → St → Option ρ) : ∀ (m : Nat) (x8 : Int),
    loopH (B66v1 (C28 fuel) fuel) N66v1 m (s66v0 x6 x7 x8) k = L66v1 fuel x6 x7 m x8 (k .ret s66v1) (k (.exit 0) s66v2)
  | 0, _ => rfl
  | m + 1, x8 => by
    rw [r66v1]
    simp only [L66v1, q66v1 fuel x6 x7 k m]
def D66 {ρ : Type} (fuel : Nat) (x1 : Nat) (x2 : Nat → Nat → CV) (k : Bool → Option ρ) : Option ρ :=
  (L66v1 fuel x1 x2 fuel 0
    (k false)
    (k true))
def F66 (fuel : Nat) (x1 : Nat) (x2 : Nat → Nat → CV) : Option (Bool) := D66 fuel x1 x2 some
theorem n66 {ρ σ : Type} (fuel : Nat) (x1 : Nat) (x2 : Nat → Nat → CV) (k : (Bool) → Option ρ) (g : ρ → Option σ) : ob (D66 fuel x1 x2 k) g = D66 fuel x1 x2 fun t => ob (k t) g := by
  simp only [D66, ob_bif, ob_ob, ob_none, nl66v1]
theorem f66 {ρ : Type} (fuel : Nat) (x1 : Nat) (x2 : Nat → Nat → CV) (k : (Bool) → Option ρ) : D66 fuel x1 x2 k = ob (F66 fuel x1 x2) k := by
  unfold F66
  rw [n66]
  simp only [ob_some]
def s66v3 (x1 : Nat) (x2 : Nat → Nat → CV) : St := ⟨[.x (.c (.ro false (.pr (.int .i64) (.pr (.int .i64) .nil)) x1 x2)), .undef, .x (.c (.b false)), .x (.c (.i .i64 0)), .undef, .undef, .undef, .undef, .undef, .undef, .undef, .undef, .undef, .undef, .undef, .undef], []⟩
theorem walk66 (fuel : Nat) (x1 : Nat) (x2 : Nat → Nat → CV) :
    evalF (C28 fuel) fuel A66 [.v (.ro false (.pr (.int .i64) (.pr (.int .i64) .nil)) x1 x2)] =
    (loopN (B66v1 (C28 fuel) fuel) N66v1 fuel (s66v3 x1 x2) (kBlk 0 (kSeq (C28 fuel) fuel (rl 2 14 []) A66v4 (finish A66)))) := by kernel_rfl
theorem t66v1 (fuel : Nat) {ρ : Type} (k : Ex → St → Option ρ) (x1 : Nat) (x2 : Nat → Nat → CV) :
    loopN (B66v1 (C28 fuel) fuel) N66v1 fuel (s66v3 x1 x2) k =
    L66v1 fuel x1 x2 fuel 0 (k .ret s66v1) (k (.exit 0) s66v2) :=
  (loopN_at (st' := (s66v0 x1 x2 0)) (by kernel_rfl)).trans (q66v1 fuel x1 x2 k fuel 0)
theorem g66v2 (fuel : Nat) :
    (kBlk 0 (kSeq (C28 fuel) fuel (rl 2 14 []) A66v4 (finish A66))) .ret s66v1 =
    (some [.v (.b false)]) := by kernel_rfl
theorem g66v3 (fuel : Nat) :
    (kBlk 0 (kSeq (C28 fuel) fuel (rl 2 14 []) A66v4 (finish A66))) (.exit 0) s66v2 =
    (some [.v (.b true)]) := by kernel_rfl
theorem e66 (fuel : Nat) (x1 : Nat) (x2 : Nat → Nat → CV) : evalF (C28 fuel) fuel A66 [.v (.ro false (.pr (.int .i64) (.pr (.int .i64) .nil)) x1 x2)] = ob (F66 fuel x1 x2) fun t => some [.v (.b t)] := by
  rw [walk66, ← f66]
  simp only [D66, t66v1, g66v2, g66v3]
def O66 (fuel : Nat) : Ora where
  o := fun args {ρ} K =>
    wc args fun a1 l2 =>
    wv a1 fun c3 =>
    wL (.pr (.int .i64) (.pr (.int .i64) .nil)) c3 fun y4 y5 =>
    wn l2 <|
    (ob (F66 fuel y4 y5) fun t => K [.v (.b t)])
  nat := fun args {ρ} K => by
    simp only [bind_wc, bind_wn, bind_wv, bind_wagg, bind_wI, bind_wB, bind_wS, bind_wL, bind_wP, bind_wFn, bind_ob, Option.bind_some]
theorem d66 {P : Program} (fuel : Nat) (hmix : P.follows .mixedOrders = true) (hC : Sound P (C28 fuel)) (hF : FFits P 66 A66) (args res : List A) (h : (O66 fuel).o args some = some res) : Den P 66 args res := by
  obtain ⟨a1, l2, rfl, z0⟩ := inv_wc h
  obtain ⟨c3, rfl, z1⟩ := inv_wv z0
  obtain ⟨y4, y5, h6, z2⟩ := inv_wL z1
  obtain ⟨hn, z3⟩ := inv_wn z2
  cases hn
  exact Den.weaken (.cons (WkA.v h6) .nil) (evalF_sound hmix hC hF ((e66 fuel y4 y5).trans z3))
def C29 (fuel : Nat) : Oracle := (C28 fuel).add 66 (fun _ => true) (O66 fuel)
def A71 : AF := ⟨30, [.tmp 6],
  (.seq (.region 0 [o1 3 (.box 0 34 (tm 0)), o1 4 (.box 1 34 (tm 1)), o1 5 (.box 2 34 (tm 2)), o1 6 (.assign (ic 0))] 3 none) []
  (.seq (.region 1 [o1 7 (.fieldAddr 34 (tm 4) 0 0), o1 8 (.load 3 none (tm 7)), o1 9 (.fieldAddr 34 (tm 3) 0 0), o1 10 (.load 3 none (tm 9)), o1 11 (.binOp .sub 3 (tm 8) (tm 10) 3), o1 12 (.fieldAddr 34 (tm 5) 1 1), o1 13 (.load 3 none (tm 12)), o1 14 (.fieldAddr 34 (tm 3) 1 1), o1 15 (.load 3 none (tm 14)), o1 16 (.binOp .sub 3 (tm 13) (tm 15) 3), o1 17 (.binOp .mul 3 (tm 11) (tm 16) 3), o1 18 (.fieldAddr 34 (tm 4) 1 1), o1 19 (.load 3 none (tm 18)), o1 20 (.fieldAddr 34 (tm 3) 1 1), o1 21 (.load 3 none (tm 20)), o1 22 (.binOp .sub 3 (tm 19) (tm 21) 3), o1 23 (.fieldAddr 34 (tm 5) 0 0), o1 24 (.load 3 none (tm 23)), o1 25 (.fieldAddr 34 (tm 3) 0 0), o1 26 (.load 3 none (tm 25)), o1 27 (.binOp .sub 3 (tm 24) (tm 26) 3), o1 28 (.binOp .mul 3 (tm 22) (tm 27) 3), o1 29 (.binOp .sub 3 (tm 17) (tm 28) 3), o1 6 (.assign (tm 29))] 0 none) []
  (.ret (rl 0 6 (rl 7 23 [])))))⟩
def D71 {ρ : Type} (fuel : Nat) (x1 : Int) (x2 : Int) (x3 : Int) (x4 : Int) (x5 : Int) (x6 : Int) (k : Int → Option ρ) : Option ρ :=
  (k (w64 ((w64 ((w64 (x3 - x1)) * (w64 (x6 - x2)))) - (w64 ((w64 (x4 - x2)) * (w64 (x5 - x1)))))))
def F71 (fuel : Nat) (x1 : Int) (x2 : Int) (x3 : Int) (x4 : Int) (x5 : Int) (x6 : Int) : Option (Int) := D71 fuel x1 x2 x3 x4 x5 x6 some
theorem n71 {ρ σ : Type} (fuel : Nat) (x1 : Int) (x2 : Int) (x3 : Int) (x4 : Int) (x5 : Int) (x6 : Int) (k : (Int) → Option ρ) (g : ρ → Option σ) : ob (D71 fuel x1 x2 x3 x4 x5 x6 k) g = D71 fuel x1 x2 x3 x4 x5 x6 fun t => ob (k t) g := by
  simp only [D71, ob_bif, ob_ob, ob_none]
theorem f71 {ρ : Type} (fuel : Nat) (x1 : Int) (x2 : Int) (x3 : Int) (x4 : Int) (x5 : Int) (x6 : Int) (k : (Int) → Option ρ) : D71 fuel x1 x2 x3 x4 x5 x6 k = ob (F71 fuel x1 x2 x3 x4 x5 x6) k := by
  unfold F71
  rw [n71]
  simp only [ob_some]
theorem walk71 (fuel : Nat) (x1 : Int) (x2 : Int) (x3 : Int) (x4 : Int) (x5 : Int) (x6 : Int) :
    evalF (C29 fuel) fuel A71 [.agg [(.i .i64 x1), (.i .i64 x2)], .agg [(.i .i64 x3), (.i .i64 x4)], .agg [(.i .i64 x5), (.i .i64 x6)]] =
    (some [.v (.i .i64 (w64 ((w64 ((w64 (x3 - x1)) * (w64 (x6 - x2)))) - (w64 ((w64 (x4 - x2)) * (w64 (x5 - x1)))))))]) := by kernel_rfl
theorem e71 (fuel : Nat) (x1 : Int) (x2 : Int) (x3 : Int) (x4 : Int) (x5 : Int) (x6 : Int) : evalF (C29 fuel) fuel A71 [.agg [(.i .i64 x1), (.i .i64 x2)], .agg [(.i .i64 x3), (.i .i64 x4)], .agg [(.i .i64 x5), (.i .i64 x6)]] = ob (F71 fuel x1 x2 x3 x4 x5 x6) fun t => some [.v (.i .i64 t)] := by
  rw [walk71, ← f71]
  simp only [D71]
def O71 (fuel : Nat) : Ora where
  o := fun args {ρ} K =>
    wc args fun a1 l2 =>
    wagg a1 fun l3 =>
    wc l3 fun c4 l5 =>
    wI .i64 c4 fun y6 =>
    wc l5 fun c8 l9 =>
    wI .i64 c8 fun y10 =>
    wn l9 <|
    wc l2 fun a12 l13 =>
    wagg a12 fun l14 =>
    wc l14 fun c15 l16 =>
    wI .i64 c15 fun y17 =>
    wc l16 fun c19 l20 =>
    wI .i64 c19 fun y21 =>
    wn l20 <|
    wc l13 fun a23 l24 =>
    wagg a23 fun l25 =>
    wc l25 fun c26 l27 =>
    wI .i64 c26 fun y28 =>
    wc l27 fun c30 l31 =>
    wI .i64 c30 fun y32 =>
    wn l31 <|
    wn l24 <|
    (ob (F71 fuel y6 y10 y17 y21 y28 y32) fun t => K [.v (.i .i64 t)])
  nat := fun args {ρ} K => by
    simp only [bind_wc, bind_wn, bind_wv, bind_wagg, bind_wI, bind_wB, bind_wS, bind_wL, bind_wP, bind_wFn, bind_ob, Option.bind_some]
theorem d71 {P : Program} (fuel : Nat) (hmix : P.follows .mixedOrders = true) (hC : Sound P (C29 fuel)) (hF : FFits P 71 A71) (args res : List A) (h : (O71 fuel).o args some = some res) : Den P 71 args res := by
  obtain ⟨a1, l2, rfl, z0⟩ := inv_wc h
  obtain ⟨l3, rfl, z1⟩ := inv_wagg z0
  obtain ⟨c4, l5, rfl, z2⟩ := inv_wc z1
  obtain ⟨y6, h7, z3⟩ := inv_wI z2
  obtain ⟨c8, l9, rfl, z4⟩ := inv_wc z3
  obtain ⟨y10, h11, z5⟩ := inv_wI z4
  obtain ⟨hn, z6⟩ := inv_wn z5
  cases hn
  obtain ⟨a12, l13, rfl, z7⟩ := inv_wc z6
  obtain ⟨l14, rfl, z8⟩ := inv_wagg z7
  obtain ⟨c15, l16, rfl, z9⟩ := inv_wc z8
  obtain ⟨y17, h18, z10⟩ := inv_wI z9
  obtain ⟨c19, l20, rfl, z11⟩ := inv_wc z10
  obtain ⟨y21, h22, z12⟩ := inv_wI z11
  obtain ⟨hn, z13⟩ := inv_wn z12
  cases hn
  obtain ⟨a23, l24, rfl, z14⟩ := inv_wc z13
  obtain ⟨l25, rfl, z15⟩ := inv_wagg z14
  obtain ⟨c26, l27, rfl, z16⟩ := inv_wc z15
  obtain ⟨y28, h29, z17⟩ := inv_wI z16
  obtain ⟨c30, l31, rfl, z18⟩ := inv_wc z17
  obtain ⟨y32, h33, z19⟩ := inv_wI z18
  obtain ⟨hn, z20⟩ := inv_wn z19
  cases hn
  obtain ⟨hn, z21⟩ := inv_wn z20
  cases hn
  exact Den.weaken (.cons (WkA.agg (.cons (Wk.i h7) (.cons (Wk.i h11) .nil))) (.cons (WkA.agg (.cons (Wk.i h18) (.cons (Wk.i h22) .nil))) (.cons (WkA.agg (.cons (Wk.i h29) (.cons (Wk.i h33) .nil))) .nil))) (evalF_sound hmix hC hF ((e71 fuel y6 y10 y17 y21 y28 y32).trans z21))
def C30 (fuel : Nat) : Oracle := (C29 fuel).add 71 (fun _ => true) (O71 fuel)
def A70 : AF := ⟨52, [.tmp 6],
  (.seq (.region 0 [o1 3 (.box 0 34 (tm 0)), o1 4 (.box 1 34 (tm 1)), o1 5 (.box 2 34 (tm 2)), o1 6 (.assign (.const (.bool false)))] 3 none) []
  (.seq (.region 1 [o1 7 (.load 34 (some 2) (tm 4)), o1 8 (.load 34 (some 2) (tm 5)), o1 9 (.load 34 (some 2) (tm 3)), o1 10 (.call 71 [(tm 7), (tm 8), (tm 9)] [34, 34, 34] .snap), o1 11 (.binOp .eql 3 (tm 10) (ic 0) 3), mv 12 11, og 13 (.fieldAddr 34 (tm 4) 0 0) 12 true, og 14 (.load 3 none (tm 13)) 12 true, og 15 (.fieldAddr 34 (tm 5) 0 0) 12 true, og 16 (.load 3 none (tm 15)) 12 true, og 17 (.mm false [(tm 14), (tm 16)] [3, 3]) 12 true, og 18 (.fieldAddr 34 (tm 3) 0 0) 12 true, og 19 (.load 3 none (tm 18)) 12 true, og 20 (.binOp .leq 3 (tm 17) (tm 19) 3) 12 true, o1 21 (.pick (tm 12) (tm 20) (.const (.bool false))), mv 22 21, og 23 (.fieldAddr 34 (tm 3) 0 0) 22 true, og 24 (.load 3 none (tm 23)) 22 true, og 25 (.fieldAddr 34 (tm 4) 0 0) 22 true, og 26 (.load 3 none (tm 25)) 22 true, og 27 (.fieldAddr 34 (tm 5) 0 0) 22 true, og 28 (.load 3 none (tm 27)) 22 true, og 29 (.mm true [(tm 26), (tm 28)] [3, 3]) 22 true, og 30 (.binOp .leq 3 (tm 24) (tm 29) 3) 22 true, o1 31 (.pick (tm 22) (tm 30) (.const (.bool false))), mv 32 31, og 33 (.fieldAddr 34 (tm 4) 1 1) 32 true, og 34 (.load 3 none (tm 33)) 32 true, og 35 (.fieldAddr 34 (tm 5) 1 1) 32 true, og 36 (.load 3 none (tm 35)) 32 true, og 37 (.mm false [(tm 34), (tm 36)] [3, 3]) 32 true, og 38 (.fieldAddr 34 (tm 3) 1 1) 32 true, og 39 (.load 3 none (tm 38)) 32 true, og 40 (.binOp .leq 3 (tm 37) (tm 39) 3) 32 true, o1 41 (.pick (tm 32) (tm 40) (.const (.bool false))), mv 42 41, og 43 (.fieldAddr 34 (tm 3) 1 1) 42 true, og 44 (.load 3 none (tm 43)) 42 true, og 45 (.fieldAddr 34 (tm 4) 1 1) 42 true, og 46 (.load 3 none (tm 45)) 42 true, og 47 (.fieldAddr 34 (tm 5) 1 1) 42 true, og 48 (.load 3 none (tm 47)) 42 true, og 49 (.mm true [(tm 46), (tm 48)] [3, 3]) 42 true, og 50 (.binOp .leq 3 (tm 44) (tm 49) 3) 42 true, o1 51 (.pick (tm 42) (tm 50) (.const (.bool false))), o1 6 (.assign (tm 51))] 0 none) []
  (.ret (rl 0 6 (rl 7 45 [])))))⟩
def D70 {ρ : Type} (fuel : Nat) (x1 : Int) (x2 : Int) (x3 : Int) (x4 : Int) (x5 : Int) (x6 : Int) (k : Bool → Option ρ) : Option ρ :=
  (ob (F71 fuel x3 x4 x5 x6 x1 x2) fun x7 => (bif ((x7 == 0) == true) then (bif ((decide ((if x5 < x3 then x5 else x3) ≤ x1)) == true) then (bif ((decide (x1 ≤ (if x5 > x3 then x5 else x3))) == true) then (bif ((decide ((if x6 < x4 then x6 else x4) ≤ x2)) == true) then (k (decide (x2 ≤ (if x6 > x4 then x6 else x4)))) else (k false)) else (k false)) else (k false)) else (k false)))
def F70 (fuel : Nat) (x1 : Int) (x2 : Int) (x3 : Int) (x4 : Int) (x5 : Int) (x6 : Int) : Option (Bool) := D70 fuel x1 x2 x3 x4 x5 x6 some
theorem n70 {ρ σ : Type} (fuel : Nat) (x1 : Int) (x2 : Int) (x3 : Int) (x4 : Int) (x5 : Int) (x6 : Int) (k : (Bool) → Option ρ) (g : ρ → Option σ) : ob (D70 fuel x1 x2 x3 x4 x5 x6 k) g = D70 fuel x1 x2 x3 x4 x5 x6 fun t => ob (k t) g := by
  simp only [D70, ob_bif, ob_ob, ob_none]
theorem f70 {ρ : Type} (fuel : Nat) (x1 : Int) (x2 : Int) (x3 : Int) (x4 : Int) (x5 : Int) (x6 : Int) (k : (Bool) → Option ρ) : D70 fuel x1 x2 x3 x4 x5 x6 k = ob (F70 fuel x1 x2 x3 x4 x5 x6) k := by
  unfold F70
  rw [n70]
  simp only [ob_some]
theorem walk70 (fuel : Nat) (x1 : Int) (x2 : Int) (x3 : Int) (x4 : Int) (x5 : Int) (x6 : Int) :
    evalF (C30 fuel) fuel A70 [.agg [(.i .i64 x1), (.i .i64 x2)], .agg [(.i .i64 x3), (.i .i64 x4)], .agg [(.i .i64 x5), (.i .i64 x6)]] =
    (ob (F71 fuel x3 x4 x5 x6 x1 x2) fun x7 => (bif ((x7 == 0) == true) then (bif ((decide ((if x5 < x3 then x5 else x3) ≤ x1)) == true) then (bif ((decide (x1 ≤ (if x5 > x3 then x5 else x3))) == true) then (bif ((decide ((if x6 < x4 then x6 else x4) ≤ x2)) == true) then (some [.v (.b (decide (x2 ≤ (if x6 > x4 then x6 else x4))))]) else (some [.v (.b false)])) else (some [.v (.b false)])) else (some [.v (.b false)])) else (some [.v (.b false)]))) := by kernel_rfl
theorem e70 (fuel : Nat) (x1 : Int) (x2 : Int) (x3 : Int) (x4 : Int) (x5 : Int) (x6 : Int) : evalF (C30 fuel) fuel A70 [.agg [(.i .i64 x1), (.i .i64 x2)], .agg [(.i .i64 x3), (.i .i64 x4)], .agg [(.i .i64 x5), (.i .i64 x6)]] = ob (F70 fuel x1 x2 x3 x4 x5 x6) fun t => some [.v (.b t)] := by
  rw [walk70, ← f70]
  simp only [D70]
def O70 (fuel : Nat) : Ora where
  o := fun args {ρ} K =>
    wc args fun a1 l2 =>
    wagg a1 fun l3 =>
    wc l3 fun c4 l5 =>
    wI .i64 c4 fun y6 =>
    wc l5 fun c8 l9 =>
    wI .i64 c8 fun y10 =>
    wn l9 <|
    wc l2 fun a12 l13 =>
    wagg a12 fun l14 =>
    wc l14 fun c15 l16 =>
    wI .i64 c15 fun y17 =>
    wc l16 fun c19 l20 =>
    wI .i64 c19 fun y21 =>
    wn l20 <|
    wc l13 fun a23 l24 =>
    wagg a23 fun l25 =>
    wc l25 fun c26 l27 =>
    wI .i64 c26 fun y28 =>
    wc l27 fun c30 l31 =>
    wI .i64 c30 fun y32 =>
    wn l31 <|
    wn l24 <|
    (ob (F70 fuel y6 y10 y17 y21 y28 y32) fun t => K [.v (.b t)])
  nat := fun args {ρ} K => by
    simp only [bind_wc, bind_wn, bind_wv, bind_wagg, bind_wI, bind_wB, bind_wS, bind_wL, bind_wP, bind_wFn, bind_ob, Option.bind_some]
theorem d70 {P : Program} (fuel : Nat) (hmix : P.follows .mixedOrders = true) (hC : Sound P (C30 fuel)) (hF : FFits P 70 A70) (args res : List A) (h : (O70 fuel).o args some = some res) : Den P 70 args res := by
  obtain ⟨a1, l2, rfl, z0⟩ := inv_wc h
  obtain ⟨l3, rfl, z1⟩ := inv_wagg z0
  obtain ⟨c4, l5, rfl, z2⟩ := inv_wc z1
  obtain ⟨y6, h7, z3⟩ := inv_wI z2
  obtain ⟨c8, l9, rfl, z4⟩ := inv_wc z3
  obtain ⟨y10, h11, z5⟩ := inv_wI z4
  obtain ⟨hn, z6⟩ := inv_wn z5
  cases hn
  obtain ⟨a12, l13, rfl, z7⟩ := inv_wc z6
  obtain ⟨l14, rfl, z8⟩ := inv_wagg z7
  obtain ⟨c15, l16, rfl, z9⟩ := inv_wc z8
  obtain ⟨y17, h18, z10⟩ := inv_wI z9
  obtain ⟨c19, l20, rfl, z11⟩ := inv_wc z10
  obtain ⟨y21, h22, z12⟩ := inv_wI z11
  obtain ⟨hn, z13⟩ := inv_wn z12
  cases hn
  obtain ⟨a23, l24, rfl, z14⟩ := inv_wc z13
  obtain ⟨l25, rfl, z15⟩ := inv_wagg z14
  obtain ⟨c26, l27, rfl, z16⟩ := inv_wc z15
  obtain ⟨y28, h29, z17⟩ := inv_wI z16
  obtain ⟨c30, l31, rfl, z18⟩ := inv_wc z17
  obtain ⟨y32, h33, z19⟩ := inv_wI z18
  obtain ⟨hn, z20⟩ := inv_wn z19
  cases hn
  obtain ⟨hn, z21⟩ := inv_wn z20
  cases hn
  exact Den.weaken (.cons (WkA.agg (.cons (Wk.i h7) (.cons (Wk.i h11) .nil))) (.cons (WkA.agg (.cons (Wk.i h18) (.cons (Wk.i h22) .nil))) (.cons (WkA.agg (.cons (Wk.i h29) (.cons (Wk.i h33) .nil))) .nil))) (evalF_sound hmix hC hF ((e70 fuel y6 y10 y17 y21 y28 y32).trans z21))
def C31 (fuel : Nat) : Oracle := (C30 fuel).add 70 (fun _ => true) (O70 fuel)
def A88v1 : AC := (.seq (.region 5 [o1 2 (.assign (ic 0))] 0 none) []
  (.ret (0 :: 1 :: (rl 3 6 []))))
def A88 : AF := ⟨9, [.tmp 2],
  (.seq (.region 0 [o1 2 (.assign (ic 0))] 0 none) []
  (.seq (.block 0
  (.seq (.region 1 [mv 4 0, o1 5 (.binOp .lss 3 (tm 4) (ic 0) 3), o1 3 (.assign (tm 5))] 0 none) []
    (.cond (tm 3)
    (.seq (.region 2 [o1 2 (.assign (ic (-1)))] 0 none) []
      (.ret (0 :: 1 :: (rl 3 6 []))))
    (.seq (.region 3 [mv 7 0, o1 8 (.binOp .gtr 3 (tm 7) (ic 0) 3), o1 6 (.assign (tm 8))] 0 none) []
      (.cond (tm 6)
      (.seq (.region 4 [o1 2 (.assign (ic 1))] 0 none) []
        (.ret (0 :: 1 :: (rl 3 6 []))))
      .skip))))) (rl 2 7 [])
  A88v1))⟩
def D88 {ρ : Type} (fuel : Nat) (x1 : Int) (k : Int → Option ρ) : Option ρ :=
  (bif (decide (x1 < 0)) then (k (-1)) else (bif (decide (x1 > 0)) then (k 1) else (k 0)))
def F88 (fuel : Nat) (x1 : Int) : Option (Int) := D88 fuel x1 some
theorem n88 {ρ σ : Type} (fuel : Nat) (x1 : Int) (k : (Int) → Option ρ) (g : ρ → Option σ) : ob (D88 fuel x1 k) g = D88 fuel x1 fun t => ob (k t) g := by
  simp only [D88, ob_bif, ob_ob, ob_none]
theorem f88 {ρ : Type} (fuel : Nat) (x1 : Int) (k : (Int) → Option ρ) : D88 fuel x1 k = ob (F88 fuel x1) k := by
  unfold F88
  rw [n88]
  simp only [ob_some]
theorem walk88 (fuel : Nat) (x1 : Int) :
    evalF (C31 fuel) fuel A88 [.v (.i .i64 x1)] =
    (bif (decide (x1 < 0)) then (some [.v (.i .i64 (-1))]) else (bif (decide (x1 > 0)) then (some [.v (.i .i64 1)]) else (some [.v (.i .i64 0)]))) := by kernel_rfl
theorem e88 (fuel : Nat) (x1 : Int) : evalF (C31 fuel) fuel A88 [.v (.i .i64 x1)] = ob (F88 fuel x1) fun t => some [.v (.i .i64 t)] := by
  rw [walk88, ← f88]
  simp only [D88]
def O88 (fuel : Nat) : Ora where
  o := fun args {ρ} K =>
    wc args fun a1 l2 =>
    wv a1 fun c3 =>
    wI .i64 c3 fun y4 =>
    wn l2 <|
    (ob (F88 fuel y4) fun t => K [.v (.i .i64 t)])
  nat := fun args {ρ} K => by
    simp only [bind_wc, bind_wn, bind_wv, bind_wagg, bind_wI, bind_wB, bind_wS, bind_wL, bind_wP, bind_wFn, bind_ob, Option.bind_some]
theorem d88 {P : Program} (fuel : Nat) (hmix : P.follows .mixedOrders = true) (hC : Sound P (C31 fuel)) (hF : FFits P 88 A88) (args res : List A) (h : (O88 fuel).o args some = some res) : Den P 88 args res := by
  obtain ⟨a1, l2, rfl, z0⟩ := inv_wc h
  obtain ⟨c3, rfl, z1⟩ := inv_wv z0
  obtain ⟨y4, h5, z2⟩ := inv_wI z1
  obtain ⟨hn, z3⟩ := inv_wn z2
  cases hn
  exact Den.weaken (.cons (WkA.v (Wk.i h5)) .nil) (evalF_sound hmix hC hF ((e88 fuel y4).trans z3))
def C32 (fuel : Nat) : Oracle := (C31 fuel).add 88 (fun _ => true) (O88 fuel)
def A82v1 : AC := (.seq (.region 3 [o1 31 (.load 34 (some 2) (tm 4)), o1 32 (.load 34 (some 2) (tm 5)), o1 33 (.load 34 (some 2) (tm 6)), o1 34 (.call 71 [(tm 31), (tm 32), (tm 33)] [34, 34, 34] .snap), o1 35 (.call 88 [(tm 34)] [3] .snap), o1 36 (.load 34 (some 2) (tm 4)), o1 37 (.load 34 (some 2) (tm 5)), o1 38 (.load 34 (some 2) (tm 7)), o1 39 (.call 71 [(tm 36), (tm 37), (tm 38)] [34, 34, 34] .snap), o1 40 (.call 88 [(tm 39)] [3] .snap), o1 41 (.binOp .mul 3 (tm 35) (tm 40) 3), o1 42 (.binOp .lss 3 (tm 41) (ic 0) 3), mv 43 42, og 44 (.load 34 (some 2) (tm 6)) 43 true, og 45 (.load 34 (some 2) (tm 7)) 43 true, og 46 (.load 34 (some 2) (tm 4)) 43 true, og 47 (.call 71 [(tm 44), (tm 45), (tm 46)] [34, 34, 34] .snap) 43 true, og 48 (.call 88 [(tm 47)] [3] .snap) 43 true, og 49 (.load 34 (some 2) (tm 6)) 43 true, og 50 (.load 34 (some 2) (tm 7)) 43 true, og 51 (.load 34 (some 2) (tm 5)) 43 true, og 52 (.call 71 [(tm 49), (tm 50), (tm 51)] [34, 34, 34] .snap) 43 true, og 53 (.call 88 [(tm 52)] [3] .snap) 43 true, og 54 (.binOp .mul 3 (tm 48) (tm 53) 3) 43 true, og 55 (.binOp .lss 3 (tm 54) (ic 0) 3) 43 true, o1 56 (.pick (tm 43) (tm 55) (.const (.bool false))), o1 8 (.assign (tm 56))] 0 (some [[], [], [], [0, 1, 2], (rl 0 4 []), [], [], [], (rl 0 8 []), (rl 0 9 []), (rl 0 10 []), (rl 0 11 []), (rl 0 12 []), (rl 0 13 []), (rl 0 13 []), (rl 0 13 []), (rl 0 16 []), (rl 0 17 []), (rl 0 13 []), (rl 0 13 []), (rl 0 13 []), (rl 0 21 []), (rl 0 22 []), (rl 0 23 []), (rl 0 24 []), (rl 0 25 []), (rl 0 26 [])])) []
  (.ret (rl 0 8 (rl 9 48 []))))
def A82 : AF := ⟨57, [.tmp 8],
  (.seq (.region 0 [o1 4 (.box 0 34 (tm 0)), o1 5 (.box 1 34 (tm 1)), o1 6 (.box 2 34 (tm 2)), o1 7 (.box 3 34 (tm 3)), o1 8 (.assign (.const (.bool false)))] 4 none) []
  (.seq (.seq (.region 1 [o1 9 (.load 34 (some 2) (tm 4)), o1 10 (.load 34 (some 2) (tm 6)), o1 11 (.load 34 (some 2) (tm 7)), o1 12 (.call 70 [(tm 9), (tm 10), (tm 11)] [34, 34, 34] .snap), mv 13 12, og 14 (.load 34 (some 2) (tm 5)) 13 false, og 15 (.load 34 (some 2) (tm 6)) 13 false, og 16 (.load 34 (some 2) (tm 7)) 13 false, og 17 (.call 70 [(tm 14), (tm 15), (tm 16)] [34, 34, 34] .snap) 13 false, o1 18 (.pick (tm 13) (.const (.bool true)) (tm 17)), mv 19 18, og 20 (.load 34 (some 2) (tm 6)) 19 false, og 21 (.load 34 (some 2) (tm 4)) 19 false, og 22 (.load 34 (some 2) (tm 5)) 19 false, og 23 (.call 70 [(tm 20), (tm 21), (tm 22)] [34, 34, 34] .snap) 19 false, o1 24 (.pick (tm 19) (.const (.bool true)) (tm 23)), mv 25 24, og 26 (.load 34 (some 2) (tm 7)) 25 false, og 27 (.load 34 (some 2) (tm 4)) 25 false, og 28 (.load 34 (some 2) (tm 5)) 25 false, og 29 (.call 70 [(tm 26), (tm 27), (tm 28)] [34, 34, 34] .snap) 25 false, o1 30 (.pick (tm 25) (.const (.bool true)) (tm 29))] 0 none) []
  (.cond (tm 30)
  (.seq (.region 2 [o1 8 (.assign (.const (.bool true)))] 0 none) []
    (.ret (rl 0 8 (rl 9 48 []))))
  .skip)) (rl 8 23 [])
  A82v1))⟩
def D82 {ρ : Type} (fuel : Nat) (x1 : Int) (x2 : Int) (x3 : Int) (x4 : Int) (x5 : Int) (x6 : Int) (x7 : Int) (x8 : Int) (k : Bool → Option ρ) : Option ρ :=
  (ob (F70 fuel x1 x2 x5 x6 x7 x8) fun x9 => (bif (x9 == false) then (ob (F70 fuel x3 x4 x5 x6 x7 x8) fun x10 => (bif (x10 == false) then (ob (F70 fuel x5 x6 x1 x2 x3 x4) fun x11 => (bif (x11 == false) then (ob (F70 fuel x7 x8 x1 x2 x3 x4) fun x12 => (bif x12 then (k true) else (ob (F71 fuel x1 x2 x3 x4 x5 x6) fun x13 => (ob (F88 fuel x13) fun x14 => (ob (F71 fuel x1 x2 x3 x4 x7 x8) fun x15 => (ob (F88 fuel x15) fun x16 => (bif ((decide ((w64 (x14 * x16)) < 0)) == true) then (ob (F71 fuel x5 x6 x7 x8 x1 x2) fun x17 => (ob (F88 fuel x17) fun x18 => (ob (F71 fuel x5 x6 x7 x8 x3 x4) fun x19 => (ob (F88 fuel x19) fun x20 => (k (decide ((w64 (x18 * x20)) < 0))))))) else (k false)))))))) else (k true))) else (k true))) else (k true)))
def F82 (fuel : Nat) (x1 : Int) (x2 : Int) (x3 : Int) (x4 : Int) (x5 : Int) (x6 : Int) (x7 : Int) (x8 : Int) : Option (Bool) := D82 fuel x1 x2 x3 x4 x5 x6 x7 x8 some
theorem n82 {ρ σ : Type} (fuel : Nat) (x1 : Int) (x2 : Int) (x3 : Int) (x4 : Int) (x5 : Int) (x6 : Int) (x7 : Int) (x8 : Int) (k : (Bool) → Option ρ) (g : ρ → Option σ) : ob (D82 fuel x1 x2 x3 x4 x5 x6 x7 x8 k) g = D82 fuel x1 x2 x3 x4 x5 x6 x7 x8 fun t => ob (k t) g := by
  simp only [D82, ob_bif, ob_ob, ob_none]
theorem f82 {ρ : Type} (fuel : Nat) (x1 : Int) (x2 : Int) (x3 : Int) (x4 : Int) (x5 : Int) (x6 : Int) (x7 : Int) (x8 : Int) (k : (Bool) → Option ρ) : D82 fuel x1 x2 x3 x4 x5 x6 x7 x8 k = ob (F82 fuel x1 x2 x3 x4 x5 x6 x7 x8) k := by
  unfold F82
  rw [n82]
  simp only [ob_some]
theorem walk82 (fuel : Nat) (x1 : Int) (x2 : Int) (x3 : Int) (x4 : Int) (x5 : Int) (x6 : Int) (x7 : Int) (x8 : Int) :
    evalF (C32 fuel) fuel A82 [.agg [(.i .i64 x1), (.i .i64 x2)], .agg [(.i .i64 x3), (.i .i64 x4)], .agg [(.i .i64 x5), (.i .i64 x6)], .agg [(.i .i64 x7), (.i .i64 x8)]] =
    (ob (F70 fuel x1 x2 x5 x6 x7 x8) fun x9 => (bif (x9 == false) then (ob (F70 fuel x3 x4 x5 x6 x7 x8) fun x10 => (bif (x10 == false) then (ob (F70 fuel x5 x6 x1 x2 x3 x4) fun x11 => (bif (x11 == false) then (ob (F70 fuel x7 x8 x1 x2 x3 x4) fun x12 => (bif x12 then (some [.v (.b true)]) else (ob (F71 fuel x1 x2 x3 x4 x5 x6) fun x13 => (ob (F88 fuel x13) fun x14 => (ob (F71 fuel x1 x2 x3 x4 x7 x8) fun x15 => (ob (F88 fuel x15) fun x16 => (bif ((decide ((w64 (x14 * x16)) < 0)) == true) then (ob (F71 fuel x5 x6 x7 x8 x1 x2) fun x17 => (ob (F88 fuel x17) fun x18 => (ob (F71 fuel x5 x6 x7 x8 x3 x4) fun x19 => (ob (F88 fuel x19) fun x20 => (some [.v (.b (decide ((w64 (x18 * x20)) < 0)))]))))) else (some [.v (.b false)])))))))) else (some [.v (.b true)]))) else (some [.v (.b true)]))) else (some [.v (.b true)]))) := by kernel_rfl
theorem e82 (fuel : Nat) (x1 : Int) (x2 : Int) (x3 : Int) (x4 : Int) (x5 : Int) (x6 : Int) (x7 : Int) (x8 : Int) : evalF (C32 fuel) fuel A82 [.agg [(.i .i64 x1), (.i .i64 x2)], .agg [(.i .i64 x3), (.i .i64 x4)], .agg [(.i .i64 x5), (.i .i64 x6)], .agg [(.i .i64 x7), (.i .i64 x8)]] = ob (F82 fuel x1 x2 x3 x4 x5 x6 x7 x8) fun t => some [.v (.b t)] := by
  rw [walk82, ← f82]
  simp only [D82]
def O82 (fuel : Nat) : Ora where
  o := fun args {ρ} K =>
    wc args fun a1 l2 =>
    wagg a1 fun l3 =>
    wc l3 fun c4 l5 =>
    wI .i64 c4 fun y6 =>
    wc l5 fun c8 l9 =>
    wI .i64 c8 fun y10 =>
    wn l9 <|
    wc l2 fun a12 l13 =>
    wagg a12 fun l14 =>
    wc l14 fun c15 l16 =>
    wI .i64 c15 fun y17 =>
    wc l16 fun c19 l20 =>
    wI .i64 c19 fun y21 =>
    wn l20 <|
    wc l13 fun a23 l24 =>
    wagg a23 fun l25 =>
    wc l25 fun c26 l27 =>
    wI .i64 c26 fun y28 =>
    wc l27 fun c30 l31 =>
    wI .i64 c30 fun y32 =>
    wn l31 <|
    wc l24 fun a34 l35 =>
    wagg a34 fun l36 =>
    wc l36 fun c37 l38 =>
    wI .i64 c37 fun y39 =>
    wc l38 fun c41 l42 =>
    wI .i64 c41 fun y43 =>
    wn l42 <|
    wn l35 <|
    (ob (F82 fuel y6 y10 y17 y21 y28 y32 y39 y43) fun t => K [.v (.b t)])
  nat := fun args {ρ} K => by
    simp only [bind_wc, bind_wn, bind_wv, bind_wagg, bind_wI, bind_wB, bind_wS, bind_wL, bind_wP, bind_wFn, bind_ob, Option.bind_some]
theorem d82 {P : Program} (fuel : Nat) (hmix : P.follows .mixedOrders = true) (hC : Sound P (C32 fuel)) (hF : FFits P 82 A82) (args res : List A) (h : (O82 fuel).o args some = some res) : Den P 82 args res := by
  obtain ⟨a1, l2, rfl, z0⟩ := inv_wc h
  obtain ⟨l3, rfl, z1⟩ := inv_wagg z0
  obtain ⟨c4, l5, rfl, z2⟩ := inv_wc z1
  obtain ⟨y6, h7, z3⟩ := inv_wI z2
  obtain ⟨c8, l9, rfl, z4⟩ := inv_wc z3
  obtain ⟨y10, h11, z5⟩ := inv_wI z4
  obtain ⟨hn, z6⟩ := inv_wn z5
  cases hn
  obtain ⟨a12, l13, rfl, z7⟩ := inv_wc z6
  obtain ⟨l14, rfl, z8⟩ := inv_wagg z7
  obtain ⟨c15, l16, rfl, z9⟩ := inv_wc z8
  obtain ⟨y17, h18, z10⟩ := inv_wI z9
  obtain ⟨c19, l20, rfl, z11⟩ := inv_wc z10
  obtain ⟨y21, h22, z12⟩ := inv_wI z11
  obtain ⟨hn, z13⟩ := inv_wn z12
  cases hn
  obtain ⟨a23, l24, rfl, z14⟩ := inv_wc z13
  obtain ⟨l25, rfl, z15⟩ := inv_wagg z14
  obtain ⟨c26, l27, rfl, z16⟩ := inv_wc z15
  obtain ⟨y28, h29, z17⟩ := inv_wI z16
  obtain ⟨c30, l31, rfl, z18⟩ := inv_wc z17
  obtain ⟨y32, h33, z19⟩ := inv_wI z18
  obtain ⟨hn, z20⟩ := inv_wn z19
  cases hn
  obtain ⟨a34, l35, rfl, z21⟩ := inv_wc z20
  obtain ⟨l36, rfl, z22⟩ := inv_wagg z21
  obtain ⟨c37, l38, rfl, z23⟩ := inv_wc z22
  obtain ⟨y39, h40, z24⟩ := inv_wI z23
  obtain ⟨c41, l42, rfl, z25⟩ := inv_wc z24
  obtain ⟨y43, h44, z26⟩ := inv_wI z25
  obtain ⟨hn, z27⟩ := inv_wn z26
  cases hn
  obtain ⟨hn, z28⟩ := inv_wn z27
  cases hn
  exact Den.weaken (.cons (WkA.agg (.cons (Wk.i h7) (.cons (Wk.i h11) .nil))) (.cons (WkA.agg (.cons (Wk.i h18) (.cons (Wk.i h22) .nil))) (.cons (WkA.agg (.cons (Wk.i h29) (.cons (Wk.i h33) .nil))) (.cons (WkA.agg (.cons (Wk.i h40) (.cons (Wk.i h44) .nil))) .nil)))) (evalF_sound hmix hC hF ((e82 fuel y6 y10 y17 y21 y28 y32 y39 y43).trans z28))
def C33 (fuel : Nat) : Oracle := (C32 fuel).add 82 (fun _ => true) (O82 fuel)
def A67v1 : AC := (.region 7 [mv 21 5, o1 22 (.binOp .add 3 (tm 21) (ic 1) 3), o1 5 (.assign (tm 22))] 0 none)
def A67v2 : AC := (.seq (.block 3
  (.seq (.region 8 [mv 23 0, mv 24 4, o1 25 (.indexAddr 22 34 2 (tm 23) (tm 24)), o1 26 (.load 34 (some 2) (tm 25)), mv 27 0, mv 28 5, o1 29 (.indexAddr 22 34 2 (tm 27) (tm 28)), o1 30 (.load 34 (some 2) (tm 29)), o1 31 (.eqA false (.pr (.int .i64) (.pr (.int .i64) .nil)) 34 (tm 26) (tm 30) 34)] 0 (some [[], [], [0, 1], [0, 1, 2], [], [], [4, 5], [4, 5, 6], (rl 0 8 [])])) []
    (.cond (tm 31)
    (.seq (.region 9 [o1 2 (.assign (.const (.bool false)))] 0 none) []
      (.ret (0 :: 1 :: (rl 3 91 []))))
    .skip))) (2 :: (rl 23 9 []))
  A67v1)
def A67v3 : AC := (.seq (.seq (.region 6 [mv 18 5, mv 19 4, o1 20 (.binOp .lss 3 (tm 18) (tm 19) 3)] 0 none) []
  (.cond (tm 20)
  .skip
  (.exit 2 (1 :: 2 :: (rl 5 89 []))))) [18, 19, 20]
  A67v2)
def A67v4 : AC := (.region 4 [mv 16 4, o1 17 (.binOp .add 3 (tm 16) (ic 1) 3), o1 4 (.assign (tm 17))] 0 none)
def A67v5 : AC := (.seq (.block 1
  (.seq (.region 5 [o1 5 (.assign (ic 0))] 0 none) []
    (.block 2
    (.loop [] (1 :: 2 :: (rl 6 88 []))
      A67v3)))) (2 :: 5 :: (rl 18 14 []))
  A67v4)
def A67v6 : AC := (.seq (.seq (.region 3 [mv 13 4, mv 14 3, o1 15 (.binOp .lss 3 (tm 13) (tm 14) 3)] 0 none) []
  (.cond (tm 15)
  .skip
  (.exit 0 (1 :: 2 :: (rl 4 90 []))))) [13, 14, 15]
  A67v5)
def A67v7 : AC := (.region 18 [mv 70 10, o1 71 (.binOp .add 3 (tm 70) (ic 1) 3), o1 10 (.assign (tm 71))] 0 none)
def A67v8 : AC := (.seq (.block 7
  (.seq (.region 19 [mv 72 10, o1 73 (.binOp .add 3 (tm 72) (ic 1) 3), mv 74 3, o1 75 (.binOp .rem 3 (tm 73) (tm 74) 3), mv 76 6, o1 77 (.binOp .neq 3 (tm 75) (tm 76) 3), mv 78 77, og 79 (.load 34 (some 2) (tm 7)) 78 true, og 80 (.load 34 (some 2) (tm 8)) 78 true, og 81 (.move (tm 0)) 78 true, og 82 (.move (tm 10)) 78 true, og 83 (.indexAddr 22 34 2 (tm 81) (tm 82)) 78 true, og 84 (.load 34 (some 2) (tm 83)) 78 true, og 85 (.move (tm 0)) 78 true, og 86 (.move (tm 10)) 78 true, og 87 (.binOp .add 3 (tm 86) (ic 1) 3) 78 true, og 88 (.move (tm 3)) 78 true, og 89 (.binOp .rem 3 (tm 87) (tm 88) 3) 78 true, og 90 (.indexAddr 22 34 2 (tm 85) (tm 89)) 78 true, og 91 (.load 34 (some 2) (tm 90)) 78 true, og 92 (.call 82 [(tm 79), (tm 80), (tm 84), (tm 91)] [34, 34, 34, 34] .snap) 78 true, o1 93 (.pick (tm 78) (tm 92) (.const (.bool false)))] 0 (some [[], [0], [], [0, 1, 2], [], (rl 0 5 []), (rl 0 6 []), (rl 0 7 []), (rl 0 7 []), (rl 0 7 []), (rl 0 7 []), (rl 0 7 [9, 10]), (rl 0 7 [9, 10, 11]), (rl 0 7 []), (rl 0 7 []), (rl 0 7 [14]), (rl 0 7 []), (rl 0 7 [14, 15, 16]), (rl 0 7 (rl 13 5 [])), (rl 0 7 (rl 13 6 [])), (rl 0 20 []), (rl 0 21 [])])) []
    (.cond (tm 93)
    (.seq (.region 20 [o1 2 (.assign (.const (.bool false)))] 0 none) []
      (.ret (0 :: 1 :: (rl 3 91 []))))
    .skip))) (2 :: (rl 72 22 []))
  A67v7)
def A67v9 : AC := (.seq (.seq (.region 17 [mv 67 10, mv 68 3, o1 69 (.binOp .lss 3 (tm 67) (tm 68) 3)] 0 none) []
  (.cond (tm 69)
  .skip
  (.exit 6 (1 :: 2 :: 4 :: 5 :: (rl 7 87 []))))) [67, 68, 69]
  A67v8)
def A67v10 : AC := (.seq (.region 16 [mv 65 6, o1 66 (.binOp .add 3 (tm 65) (ic 2) 3), o1 10 (.assign (tm 66))] 0 none) []
  (.block 6
  (.loop [] (1 :: 2 :: 4 :: 5 :: 9 :: (rl 11 83 []))
    A67v9)))
def A67v11 : AC := (.region 12 [mv 35 6, o1 36 (.binOp .add 3 (tm 35) (ic 1) 3), o1 6 (.assign (tm 36))] 0 none)
def A67v12 : AC := (.seq (.block 5
  (.seq (.region 13 [mv 37 0, mv 38 6, o1 39 (.indexAddr 22 34 2 (tm 37) (tm 38)), o1 40 (.load 34 (some 2) (tm 39)), mv 41 0, mv 42 6, o1 43 (.binOp .add 3 (tm 42) (ic 1) 3), mv 44 3, o1 45 (.binOp .rem 3 (tm 43) (tm 44) 3), o1 46 (.indexAddr 22 34 2 (tm 41) (tm 45)), o1 47 (.load 34 (some 2) (tm 46)), mv 48 0, mv 49 6, o1 50 (.binOp .add 3 (tm 49) (ic 2) 3), mv 51 3, o1 52 (.binOp .rem 3 (tm 50) (tm 51) 3), o1 53 (.indexAddr 22 34 2 (tm 48) (tm 52)), o1 54 (.load 34 (some 2) (tm 53)), o1 7 (.alloc 0 34 [.c (.i .i64 0), .c (.i .i64 0)]), o1 8 (.alloc 1 34 [.c (.i .i64 0), .c (.i .i64 0)]), o1 9 (.alloc 2 34 [.c (.i .i64 0), .c (.i .i64 0)]), o0 (.store 34 2 (tm 7) (tm 40)), o0 (.store 34 2 (tm 8) (tm 47)), o0 (.store 34 2 (tm 9) (tm 54))] 3 (some [[], [], [0, 1], [0, 1, 2], [], [], [5], [], [5, 6, 7], (rl 4 5 []), (rl 4 6 []), [], [], [12], [], [12, 13, 14], (rl 11 5 []), (rl 11 6 []), [], [], [], (rl 0 4 [18, 19, 20]), (rl 0 11 (rl 18 4 [])), (rl 0 23 [])])) []
    (.seq (.seq (.region 14 [o1 55 (.load 34 (some 2) (tm 7)), o1 56 (.load 34 (some 2) (tm 8)), o1 57 (.load 34 (some 2) (tm 9)), o1 58 (.call 70 [(tm 55), (tm 56), (tm 57)] [34, 34, 34] .snap), mv 59 58, og 60 (.load 34 (some 2) (tm 9)) 59 false, og 61 (.load 34 (some 2) (tm 7)) 59 false, og 62 (.load 34 (some 2) (tm 8)) 59 false, og 63 (.call 70 [(tm 60), (tm 61), (tm 62)] [34, 34, 34] .snap) 59 false, o1 64 (.pick (tm 59) (.const (.bool true)) (tm 63))] 0 none) []
    (.cond (tm 64)
    (.seq (.region 15 [o1 2 (.assign (.const (.bool false)))] 0 none) []
      (.ret (0 :: 1 :: (rl 3 91 []))))
    .skip)) (2 :: (rl 55 10 []))
    A67v10))) (2 :: (rl 7 4 (rl 37 57 [])))
  A67v11)
def A67v13 : AC := (.seq (.seq (.region 11 [mv 32 6, mv 33 3, o1 34 (.binOp .lss 3 (tm 32) (tm 33) 3)] 0 none) []
  (.cond (tm 34)
  .skip
  (.exit 4 (rl 0 94 [])))) [32, 33, 34]
  A67v12)
def A67v14 : AC := (.seq (.region 21 [o1 2 (.assign (.const (.bool true)))] 0 none) []
  (.ret (0 :: 1 :: (rl 3 91 []))))
def A67v15 : AC := (.seq (.seq (.region 10 [o1 6 (.assign (ic 0))] 0 none) []
  (.block 4
  (.loop [] (1 :: 2 :: 4 :: 5 :: (rl 7 87 []))
    A67v13))) (2 :: (rl 6 5 (rl 32 62 [])))
  A67v14)
def A67 : AF := ⟨94, [.tmp 2],
  (.seq (.region 0 [o1 2 (.assign (.const (.bool false)))] 0 none) []
  (.seq (.region 1 [mv 11 0, o1 12 (.len 22 false (tm 11)), o1 3 (.assign (tm 12))] 0 none) []
  (.seq (.seq (.region 2 [o1 4 (.assign (ic 0))] 0 none) []
  (.block 0
  (.loop [] (1 :: 2 :: (rl 5 89 []))
    A67v6))) (2 :: 4 :: 5 :: (rl 13 19 []))
  A67v15)))⟩
def B67v2 (C : Oracle) (fuel : Nat) {ρ : Type} : St → (Ex → St → Option ρ) → Option ρ := fun st k => evalC C fuel A67v3 st k
def N67v2 : St → Option St := fun s => s.norm (1 :: 2 :: (rl 6 88 [])) 0
def s67v0 (x17 : Nat) (x18 : Nat → Nat → CV) (x19 : Int) (x20 : Int) (x21 : Int) : St := ⟨(.x (.c (.ro false (.pr (.int .i64) (.pr (.int .i64) .nil)) x17 x18)) :: .u :: .u :: .x (.c (.i .i64 x19)) :: .x (.c (.i .i64 x20)) :: .x (.c (.i .i64 x21)) :: (us 88 [])), []⟩
def s67v1 : St := ⟨(.u :: .u :: .x (.c (.b false)) :: (us 91 [])), []⟩
def s67v2 (x17 : Nat) (x18 : Nat → Nat → CV) (x19 : Int) (x20 : Int) : St := ⟨(.x (.c (.ro false (.pr (.int .i64) (.pr (.int .i64) .nil)) x17 x18)) :: .u :: .u :: .x (.c (.i .i64 x19)) :: .x (.c (.i .i64 x20)) :: (us 89 [])), []⟩
def L67v2 {ρ : Type} (fuel : Nat) (x17 : Nat) (x18 : Nat → Nat → CV) (x19 : Int) (x20 : Int) : Nat → Int → (Option ρ) → (Option ρ) → Option ρ
  | 0, _, _, _ => none
  | m + 1, x21, k0, k1 =>
    (bif (decide (x21 < x20)) then (bif (inb x20 x17) then (bif (inb x21 x17) then (bif (((CV.int (x18 (Int.toNat x20) 0)) == (CV.int (x18 (Int.toNat x21) 0))) && (((CV.int (x18 (Int.toNat x20) 1)) == (CV.int (x18 (Int.toNat x21) 1))) && true)) then k0 else (L67v2 fuel x17 x18 x19 x20 m (w64 (x21 + 1)) k0 k1)) else none) else none) else k1)
theorem nl67v2 {ρ σ : Type} (fuel : Nat) (x17 : Nat) (x18 : Nat → Nat → CV) (x19 : Int) (x20 : Int) (g : ρ → Option σ) : ∀ (m : Nat) (x21 : Int) (k0 : Option ρ) (k1 : Option ρ), ob (L67v2 fuel x17 x18 x19 x20 m x21 k0 k1) g = L67v2 fuel x17 x18 x19 x20 m x21 (ob k0 g) (ob k1 g)
  | 0, _, _, _ => rfl
  | m + 1, x21, k0, k1 => by
    simp only [L67v2, ob_bif, ob_ob, ob_none, nl67v2 fuel x17 x18 x19 x20 g m]
theorem r67v2 (fuel : Nat) (m : Nat) {ρ : Type} (k : Ex → St → Option ρ) (x17 : Nat) (x18 : Nat → Nat → CV) (x19 : Int) (x20 : Int) (x21 : Int) :
    loopH (B67v2 (C33 fuel) fuel) N67v2 (m + 1) (s67v0 x17 x18 x19 x20 x21) k =
    (bif (decide (x21 < x20)) then (bif (inb x20 x17) then (bif (inb x21 x17) then (bif (((CV.int (x18 (Int.toNat x20) 0)) == (CV.int (x18 (Int.toNat x21) 0))) && (((CV.int (x18 (Int.toNat x20) 1)) == (CV.int (x18 (Int.toNat x21) 1))) && true)) then (k .ret s67v1) else (loopH (B67v2 (C33 fuel) fuel) N67v2 m (s67v0 x17 x18 x19 x20 (w64 (x21 + 1))) k)) else none) else none) else (k (.exit 2) (s67v2 x17 x18 x19 x20))) := by kernel_rfl
theorem q67v2 (fuel : Nat) (x17 : Nat) (x18 : Nat → Nat → CV) (x19 : Int) (x20 : Int) {ρ : Type} (k : Ex → St → Option ρ) : ∀ (m : Nat) (x21 : Int),
    loopH (B67v2 (C33 fuel) fuel) N67v2 m (s67v0 x17 x18 x19 x20 x21) k = L67v2 fuel x17 x18 x19 x20 m x21 (k .ret s67v1) (k (.exit 2) (s67v2 x17 x18 x19 x20))
  | 0, _ => rfl
  | m + 1, x21 => by
    rw [r67v2]
    simp only [L67v2, q67v2 fuel x17 x18 x19 x20 k m]
def B67v3 (C : Oracle) (fuel : Nat) {ρ : Type} : St → (Ex → St → Option ρ) → Option ρ := fun st k => evalC C fuel A67v6 st k
def N67v3 : St → Option St := fun s => s.norm (1 :: 2 :: (rl 5 89 [])) 0
def s67v3 (x9 : Nat) (x10 : Nat → Nat → CV) (x11 : Int) (x12 : Int) : St := ⟨(.x (.c (.ro false (.pr (.int .i64) (.pr (.int .i64) .nil)) x9 x10)) :: .u :: .u :: .x (.c (.i .i64 x11)) :: .x (.c (.i .i64 x12)) :: (us 89 [])), []⟩
def s67v4 (x9 : Nat) (x10 : Nat → Nat → CV) (x11 : Int) : St := ⟨(.x (.c (.ro false (.pr (.int .i64) (.pr (.int .i64) .nil)) x9 x10)) :: .u :: .u :: .x (.c (.i .i64 x11)) :: (us 90 [])), []⟩
def L67v3 {ρ : Type} (fuel : Nat) (x9 : Nat) (x10 : Nat → Nat → CV) (x11 : Int) : Nat → Int → (Option ρ) → (Option ρ) → Option ρ
  | 0, _, _, _ => none
  | m + 1, x12, k0, k1 =>
    (bif (decide (x12 < x11)) then (L67v2 fuel x9 x10 x11 x12 fuel 0
    k0
    (L67v3 fuel x9 x10 x11 m (w64 (x12 + 1)) k0 k1)) else k1)
theorem nl67v3 {ρ σ : Type} (fuel : Nat) (x9 : Nat) (x10 : Nat → Nat → CV) (x11 : Int) (g : ρ → Option σ) : ∀ (m : Nat) (x12 : Int) (k0 : Option ρ) (k1 : Option ρ), ob (L67v3 fuel x9 x10 x11 m x12 k0 k1) g = L67v3 fuel x9 x10 x11 m x12 (ob k0 g) (ob k1 g)
  | 0, _, _, _ => rfl
  | m + 1, x12, k0, k1 => by
    simp only [L67v3, ob_bif, ob_ob, ob_none, nl67v3 fuel x9 x10 x11 g m, nl67v2]
def s67v5 (x9 : Nat) (x10 : Nat → Nat → CV) (x11 : Int) (x12 : Int) : St := ⟨(.x (.c (.ro false (.pr (.int .i64) (.pr (.int .i64) .nil)) x9 x10)) :: .u :: .u :: .x (.c (.i .i64 x11)) :: .x (.c (.i .i64 x12)) :: .x (.c (.i .i64 0)) :: (us 88 [])), []⟩
theorem r67v3 (fuel : Nat) (m : Nat) {ρ : Type} (k : Ex → St → Option ρ) (x9 : Nat) (x10 : Nat → Nat → CV) (x11 : Int) (x12 : Int) :
    loopH (B67v3 (C33 fuel) fuel) N67v3 (m + 1) (s67v3 x9 x10 x11 x12) k =
    (bif (decide (x12 < x11)) then (loopN (B67v2 (C33 fuel) fuel) N67v2 fuel (s67v5 x9 x10 x11 x12) (kBlk 2 (kBlk 1 (kSeq (C33 fuel) fuel (2 :: 5 :: (rl 18 14 [])) A67v4 (kLoop (B67v3 (C33 fuel) fuel) N67v3 m k))))) else (k (.exit 0) (s67v4 x9 x10 x11))) := by kernel_rfl
theorem t67v1 (fuel : Nat) {ρ : Type} (k : Ex → St → Option ρ) (x9 : Nat) (x10 : Nat → Nat → CV) (x11 : Int) (x12 : Int) :
    loopN (B67v2 (C33 fuel) fuel) N67v2 fuel (s67v5 x9 x10 x11 x12) k =
    L67v2 fuel x9 x10 x11 x12 fuel 0 (k .ret s67v1) (k (.exit 2) (s67v2 x9 x10 x11 x12)) :=
  (loopN_at (st' := (s67v0 x9 x10 x11 x12 0)) (by kernel_rfl)).trans (q67v2 fuel x9 x10 x11 x12 k fuel 0)
theorem g67v2 (fuel : Nat) (m : Nat) {ρ : Type} (k : Ex → St → Option ρ) :
    (kBlk 2 (kBlk 1 (kSeq (C33 fuel) fuel (2 :: 5 :: (rl 18 14 [])) A67v4 (kLoop (B67v3 (C33 fuel) fuel) N67v3 m k)))) .ret s67v1 =
    (k .ret s67v1) := by kernel_rfl
theorem g67v3 (fuel : Nat) (m : Nat) {ρ : Type} (k : Ex → St → Option ρ) (x9 : Nat) (x10 : Nat → Nat → CV) (x11 : Int) (x12 : Int) :
    (kBlk 2 (kBlk 1 (kSeq (C33 fuel) fuel (2 :: 5 :: (rl 18 14 [])) A67v4 (kLoop (B67v3 (C33 fuel) fuel) N67v3 m k)))) (.exit 2) (s67v2 x9 x10 x11 x12) =
    (loopH (B67v3 (C33 fuel) fuel) N67v3 m (s67v3 x9 x10 x11 (w64 (x12 + 1))) k) := by kernel_rfl
theorem q67v3 (fuel : Nat) (x9 : Nat) (x10 : Nat → Nat → CV) (x11 : Int) {ρ : Type} (k : Ex → St → Option ρ) : ∀ (m : Nat) (x12 : Int),
    loopH (B67v3 (C33 fuel) fuel) N67v3 m (s67v3 x9 x10 x11 x12) k = L67v3 fuel x9 x10 x11 m x12 (k .ret s67v1) (k (.exit 0) (s67v4 x9 x10 x11))
  | 0, _ => rfl
  | m + 1, x12 => by
    rw [r67v3]
    simp only [L67v3, q67v3 fuel x9 x10 x11 k m, t67v1, g67v2, g67v3]
def B67v5 (C : Oracle) (fuel : Nat) {ρ : Type} : St → (Ex → St → Option ρ) → Option ρ := fun st k => evalC C fuel A67v9 st k
def N67v5 : St → Option St := fun s => s.norm (1 :: 2 :: 4 :: 5 :: 9 :: (rl 11 83 [])) 3
def s67v6 (x66 : Nat) (x67 : Nat → Nat → CV) (x68 : Int) (x69 : Int) (x70 : Int) (x71 : Int) (x72 : Int) (x73 : Int) (x74 : Int) (x75 : Int) (x76 : Int) : St := ⟨(.x (.c (.ro false (.pr (.int .i64) (.pr (.int .i64) .nil)) x66 x67)) :: .u :: .u :: .x (.c (.i .i64 x68)) :: .u :: .u :: .x (.c (.i .i64 x69)) :: .x (.ptr 0 0) :: .x (.ptr 1 0) :: .u :: .x (.c (.i .i64 x70)) :: (us 83 [])), [.box [(.c (.i .i64 x71)), (.c (.i .i64 x72))], .box [(.c (.i .i64 x73)), (.c (.i .i64 x74))], .box [(.c (.i .i64 x75)), (.c (.i .i64 x76))]]⟩
def s67v7 (x71 : Int) (x72 : Int) (x73 : Int) (x74 : Int) (x75 : Int) (x76 : Int) : St := ⟨(.u :: .u :: .x (.c (.b false)) :: (us 91 [])), [.box [(.c (.i .i64 x71)), (.c (.i .i64 x72))], .box [(.c (.i .i64 x73)), (.c (.i .i64 x74))], .box [(.c (.i .i64 x75)), (.c (.i .i64 x76))]]⟩
def s67v8 (x66 : Nat) (x67 : Nat → Nat → CV) (x68 : Int) (x69 : Int) (x71 : Int) (x72 : Int) (x73 : Int) (x74 : Int) (x75 : Int) (x76 : Int) : St := ⟨(.x (.c (.ro false (.pr (.int .i64) (.pr (.int .i64) .nil)) x66 x67)) :: .u :: .u :: .x (.c (.i .i64 x68)) :: .u :: .u :: .x (.c (.i .i64 x69)) :: (us 87 [])), [.box [(.c (.i .i64 x71)), (.c (.i .i64 x72))], .box [(.c (.i .i64 x73)), (.c (.i .i64 x74))], .box [(.c (.i .i64 x75)), (.c (.i .i64 x76))]]⟩
def L67v5 {ρ : Type} (fuel : Nat) (x66 : Nat) (x67 : Nat → Nat → CV) (x68 : Int) (x69 : Int) (x71 : Int) (x72 : Int) (x73 : Int) (x74 : Int) (x75 : Int) (x76 : Int) : Nat → Int → (Option ρ) → (Option ρ) → Option ρ
  | 0, _, _, _ => none
  | m + 1, x70, k0, k1 =>
    (bif (decide (x70 < x68)) then (bif (x68 == 0) then none else (bif (((Int.tmod (w64 (x70 + 1)) x68) != x69) == true) then (bif (inb x70 x66) then (bif (x68 == 0) then none else (bif (inb (Int.tmod (w64 (x70 + 1)) x68) x66) then (ob (F82 fuel x71 x72 x73 x74 (CV.int (x67 (Int.toNat x70) 0)) (CV.int (x67 (Int.toNat x70) 1)) (CV.int (x67 (Int.toNat (Int.tmod (w64 (x70 + 1)) x68)) 0)) (CV.int (x67 (Int.toNat (Int.tmod (w64 (x70 + 1)) x68)) 1))) fun x77 => (bif x77 then k0 else (L67v5 fuel x66 x67 x68 x69 x71 x72 x73 x74 x75 x76 m (w64 (x70 + 1)) k0 k1))) else none)) else none) else (L67v5 fuel x66 x67 x68 x69 x71 x72 x73 x74 x75 x76 m (w64 (x70 + 1)) k0 k1))) else k1)
theorem nl67v5 {ρ σ : Type} (fuel : Nat) (x66 : Nat) (x67 : Nat → Nat → CV) (x68 : Int) (x69 : Int) (x71 : Int) (x72 : Int) (x73 : Int) (x74 : Int) (x75 : Int) (x76 : Int) (g : ρ → Option σ) : ∀ (m : Nat) (x70 : Int) (k0 : Option ρ) (k1 : Option ρ), ob (L67v5 fuel x66 x67 x68 x69 x71 x72 x73 x74 x75 x76 m x70 k0 k1) g = L67v5 fuel x66 x67 x68 x69 x71 x72 x73 x74 x75 x76 m x70 (ob k0 g) (ob k1 g)
  | 0, _, _, _ => rfl
  | m + 1, x70, k0, k1 => by
    simp only [L67v5, ob_bif, ob_ob, ob_none, nl67v5 fuel x66 x67 x68 x69 x71 x72 x73 x74 x75 x76 g m]
theorem r67v5 (fuel : Nat) (m : Nat) {ρ : Type} (k : Ex → St → Option ρ) (x66 : Nat) (x67 : Nat → Nat → CV) (x68 : Int) (x69 : Int) (x71 : Int) (x72 : Int) (x73 : Int) (x74 : Int) (x75 : Int) (x76 : Int) (x70 : Int) :
    loopH (B67v5 (C33 fuel) fuel) N67v5 (m + 1) (s67v6 x66 x67 x68 x69 x70 x71 x72 x73 x74 x75 x76) k =
    (bif (decide (x70 < x68)) then (bif (x68 == 0) then none else (bif (((Int.tmod (w64 (x70 + 1)) x68) != x69) == true) then (bif (inb x70 x66) then (bif (x68 == 0) then none else (bif (inb (Int.tmod (w64 (x70 + 1)) x68) x66) then (ob (F82 fuel x71 x72 x73 x74 (CV.int (x67 (Int.toNat x70) 0)) (CV.int (x67 (Int.toNat x70) 1)) (CV.int (x67 (Int.toNat (Int.tmod (w64 (x70 + 1)) x68)) 0)) (CV.int (x67 (Int.toNat (Int.tmod (w64 (x70 + 1)) x68)) 1))) fun x77 => (bif x77 then (k .ret (s67v7 x71 x72 x73 x74 x75 x76)) else (loopH (B67v5 (C33 fuel) fuel) N67v5 m (s67v6 x66 x67 x68 x69 (w64 (x70 + 1)) x71 x72 x73 x74 x75 x76) k))) else none)) else none) else (loopH (B67v5 (C33 fuel) fuel) N67v5 m (s67v6 x66 x67 x68 x69 (w64 (x70 + 1)) x71 x72 x73 x74 x75 x76) k))) else (k (.exit 6) (s67v8 x66 x67 x68 x69 x71 x72 x73 x74 x75 x76))) := by kernel_rfl
theorem q67v5 (fuel : Nat) (x66 : Nat) (x67 : Nat → Nat → CV) (x68 : Int) (x69 : Int) (x71 : Int) (x72 : Int) (x73 : Int) (x74 : Int) (x75 : Int) (x76 : Int) {ρ : Type} (k : Ex → St → Option ρ) : ∀ (m : Nat) (x70 : Int),
    loopH (B67v5 (C33 fuel) fuel) N67v5 m (s67v6 x66 x67 x68 x69 x70 x71 x72 x73 x74 x75 x76) k = L67v5 fuel x66 x67 x68 x69 x71 x72 x73 x74 x75 x76 m x70 (k .ret (s67v7 x71 x72 x73 x74 x75 x76)) (k (.exit 6) (s67v8 x66 x67 x68 x69 x71 x72 x73 x74 x75 x76))
  | 0, _ => rfl
  | m + 1, x70 => by
    rw [r67v5]
    simp only [L67v5, q67v5 fuel x66 x67 x68 x69 x71 x72 x73 x74 x75 x76 k m]
def B67v6 (C : Oracle) (fuel : Nat) {ρ : Type} : St → (Ex → St → Option ρ) → Option ρ := fun st k => evalC C fuel A67v13 st k
def N67v6 : St → Option St := fun s => s.norm (1 :: 2 :: 4 :: 5 :: (rl 7 87 [])) 0
def s67v9 (x48 : Nat) (x49 : Nat → Nat → CV) (x50 : Int) (x51 : Int) : St := ⟨(.x (.c (.ro false (.pr (.int .i64) (.pr (.int .i64) .nil)) x48 x49)) :: .u :: .u :: .x (.c (.i .i64 x50)) :: .u :: .u :: .x (.c (.i .i64 x51)) :: (us 87 [])), []⟩
def s67v10 (x78 : Int) (x79 : Int) (x80 : Int) (x81 : Int) (x82 : Int) (x83 : Int) : St := ⟨(.u :: .u :: .x (.c (.b false)) :: (us 91 [])), [.box [(.c (.i .i64 x78)), (.c (.i .i64 x79))], .box [(.c (.i .i64 x80)), (.c (.i .i64 x81))], .box [(.c (.i .i64 x82)), (.c (.i .i64 x83))]]⟩
def s67v11 : St := ⟨(us 94 []), []⟩
def L67v6 {ρ : Type} (fuel : Nat) (x48 : Nat) (x49 : Nat → Nat → CV) (x50 : Int) : Nat → Int → (Int → Int → Int → Int → Int → Int → Option ρ) → (Option ρ) → Option ρ
  | 0, _, _, _ => none
  | m + 1, x51, k0, k1 =>
    (bif (decide (x51 < x50)) then (bif (inb x51 x48) then (bif (x50 == 0) then none else (bif (inb (Int.tmod (w64 (x51 + 1)) x50) x48) then (bif (x50 == 0) then none else (bif (inb (Int.tmod (w64 (x51 + 2)) x50) x48) then (ob (F70 fuel (CV.int (x49 (Int.toNat x51) 0)) (CV.int (x49 (Int.toNat x51) 1)) (CV.int (x49 (Int.toNat (Int.tmod (w64 (x51 + 1)) x50)) 0)) (CV.int (x49 (Int.toNat (Int.tmod (w64 (x51 + 1)) x50)) 1)) (CV.int (x49 (Int.toNat (Int.tmod (w64 (x51 + 2)) x50)) 0)) (CV.int (x49 (Int.toNat (Int.tmod (w64 (x51 + 2)) x50)) 1))) fun x52 => (bif (x52 == false) then (ob (F70 fuel (CV.int (x49 (Int.toNat (Int.tmod (w64 (x51 + 2)) x50)) 0)) (CV.int (x49 (Int.toNat (Int.tmod (w64 (x51 + 2)) x50)) 1)) (CV.int (x49 (Int.toNat x51) 0)) (CV.int (x49 (Int.toNat x51) 1)) (CV.int (x49 (Int.toNat (Int.tmod (w64 (x51 + 1)) x50)) 0)) (CV.int (x49 (Int.toNat (Int.tmod (w64 (x51 + 1)) x50)) 1))) fun x53 => (bif x53 then (k0 (CV.int (x49 (Int.toNat x51) 0)) (CV.int (x49 (Int.toNat x51) 1)) (CV.int (x49 (Int.toNat (Int.tmod (w64 (x51 + 1)) x50)) 0)) (CV.int (x49 (Int.toNat (Int.tmod (w64 (x51 + 1)) x50)) 1)) (CV.int (x49 (Int.toNat (Int.tmod (w64 (x51 + 2)) x50)) 0)) (CV.int (x49 (Int.toNat (Int.tmod (w64 (x51 + 2)) x50)) 1))) else (L67v5 fuel x48 x49 x50 x51 (CV.int (x49 (Int.toNat x51) 0)) (CV.int (x49 (Int.toNat x51) 1)) (CV.int (x49 (Int.toNat (Int.tmod (w64 (x51 + 1)) x50)) 0)) (CV.int (x49 (Int.toNat (Int.tmod (w64 (x51 + 1)) x50)) 1)) (CV.int (x49 (Int.toNat (Int.tmod (w64 (x51 + 2)) x50)) 0)) (CV.int (x49 (Int.toNat (Int.tmod (w64 (x51 + 2)) x50)) 1)) fuel (w64 (x51 + 2))
    (k0 (CV.int (x49 (Int.toNat x51) 0)) (CV.int (x49 (Int.toNat x51) 1)) (CV.int (x49 (Int.toNat (Int.tmod (w64 (x51 + 1)) x50)) 0)) (CV.int (x49 (Int.toNat (Int.tmod (w64 (x51 + 1)) x50)) 1)) (CV.int (x49 (Int.toNat (Int.tmod (w64 (x51 + 2)) x50)) 0)) (CV.int (x49 (Int.toNat (Int.tmod (w64 (x51 + 2)) x50)) 1)))
    (L67v6 fuel x48 x49 x50 m (w64 (x51 + 1)) k0 k1)))) else (k0 (CV.int (x49 (Int.toNat x51) 0)) (CV.int (x49 (Int.toNat x51) 1)) (CV.int (x49 (Int.toNat (Int.tmod (w64 (x51 + 1)) x50)) 0)) (CV.int (x49 (Int.toNat (Int.tmod (w64 (x51 + 1)) x50)) 1)) (CV.int (x49 (Int.toNat (Int.tmod (w64 (x51 + 2)) x50)) 0)) (CV.int (x49 (Int.toNat (Int.tmod (w64 (x51 + 2)) x50)) 1))))) else none)) else none)) else none) else k1)
theorem nl67v6 {ρ σ : Type} (fuel : Nat) (x48 : Nat) (x49 : Nat → Nat → CV) (x50 : Int) (g : ρ → Option σ) : ∀ (m : Nat) (x51 : Int) (k0 : Int → Int → Int → Int → Int → Int → Option ρ) (k1 : Option ρ), ob (L67v6 fuel x48 x49 x50 m x51 k0 k1) g = L67v6 fuel x48 x49 x50 m x51 (fun x78 x79 x80 x81 x82 x83 => ob (k0 x78 x79 x80 x81 x82 x83) g) (ob k1 g)
  | 0, _, _, _ => rfl
  | m + 1, x51, k0, k1 => by
    simp only [L67v6, ob_bif, ob_ob, ob_none, nl67v6 fuel x48 x49 x50 g m, nl67v5]
def s67v12 (x48 : Nat) (x49 : Nat → Nat → CV) (x50 : Int) (x51 : Int) : St := ⟨(.x (.c (.ro false (.pr (.int .i64) (.pr (.int .i64) .nil)) x48 x49)) :: .u :: .u :: .x (.c (.i .i64 x50)) :: .u :: .u :: .x (.c (.i .i64 x51)) :: .x (.ptr 0 0) :: .x (.ptr 1 0) :: .x (.ptr 2 0) :: .x (.c (.i .i64 (w64 (x51 + 2)))) :: (us 26 (.x (.c (.ro false (.pr (.int .i64) (.pr (.int .i64) .nil)) x48 x49)) :: .x (.c (.i .i64 x51)) :: .x (.c (.rp (.pr (.int .i64) (.pr (.int .i64) .nil)) (x49 (Int.toNat x51)))) :: .agg [(.c (.i .i64 (CV.int (x49 (Int.toNat x51) 0)))), (.c (.i .i64 (CV.int (x49 (Int.toNat x51) 1))))] :: .x (.c (.ro false (.pr (.int .i64) (.pr (.int .i64) .nil)) x48 x49)) :: .x (.c (.i .i64 x51)) :: .x (.c (.i .i64 (w64 (x51 + 1)))) :: .x (.c (.i .i64 x50)) :: .x (.c (.i .i64 (Int.tmod (w64 (x51 + 1)) x50))) :: .x (.c (.rp (.pr (.int .i64) (.pr (.int .i64) .nil)) (x49 (Int.toNat (Int.tmod (w64 (x51 + 1)) x50))))) :: .agg [(.c (.i .i64 (CV.int (x49 (Int.toNat (Int.tmod (w64 (x51 + 1)) x50)) 0)))), (.c (.i .i64 (CV.int (x49 (Int.toNat (Int.tmod (w64 (x51 + 1)) x50)) 1))))] :: .x (.c (.ro false (.pr (.int .i64) (.pr (.int .i64) .nil)) x48 x49)) :: .x (.c (.i .i64 x51)) :: .x (.c (.i .i64 (w64 (x51 + 2)))) :: .x (.c (.i .i64 x50)) :: .x (.c (.i .i64 (Int.tmod (w64 (x51 + 2)) x50))) :: .x (.c (.rp (.pr (.int .i64) (.pr (.int .i64) .nil)) (x49 (Int.toNat (Int.tmod (w64 (x51 + 2)) x50))))) :: .agg [(.c (.i .i64 (CV.int (x49 (Int.toNat (Int.tmod (w64 (x51 + 2)) x50)) 0)))), (.c (.i .i64 (CV.int (x49 (Int.toNat (Int.tmod (w64 (x51 + 2)) x50)) 1))))] :: (us 10 (.x (.c (.i .i64 x51)) :: .x (.c (.i .i64 (w64 (x51 + 2)))) :: (us 27 [])))))), [.box [(.c (.i .i64 (CV.int (x49 (Int.toNat x51) 0)))), (.c (.i .i64 (CV.int (x49 (Int.toNat x51) 1))))], .box [(.c (.i .i64 (CV.int (x49 (Int.toNat (Int.tmod (w64 (x51 + 1)) x50)) 0)))), (.c (.i .i64 (CV.int (x49 (Int.toNat (Int.tmod (w64 (x51 + 1)) x50)) 1))))], .box [(.c (.i .i64 (CV.int (x49 (Int.toNat (Int.tmod (w64 (x51 + 2)) x50)) 0)))), (.c (.i .i64 (CV.int (x49 (Int.toNat (Int.tmod (w64 (x51 + 2)) x50)) 1))))]]⟩
theorem r67v6 (fuel : Nat) (m : Nat) {ρ : Type} (k : Ex → St → Option ρ) (x48 : Nat) (x49 : Nat → Nat → CV) (x50 : Int) (x51 : Int) :
    loopH (B67v6 (C33 fuel) fuel) N67v6 (m + 1) (s67v9 x48 x49 x50 x51) k =
    (bif (decide (x51 < x50)) then (bif (inb x51 x48) then (bif (x50 == 0) then none else (bif (inb (Int.tmod (w64 (x51 + 1)) x50) x48) then (bif (x50 == 0) then none else (bif (inb (Int.tmod (w64 (x51 + 2)) x50) x48) then (ob (F70 fuel (CV.int (x49 (Int.toNat x51) 0)) (CV.int (x49 (Int.toNat x51) 1)) (CV.int (x49 (Int.toNat (Int.tmod (w64 (x51 + 1)) x50)) 0)) (CV.int (x49 (Int.toNat (Int.tmod (w64 (x51 + 1)) x50)) 1)) (CV.int (x49 (Int.toNat (Int.tmod (w64 (x51 + 2)) x50)) 0)) (CV.int (x49 (Int.toNat (Int.tmod (w64 (x51 + 2)) x50)) 1))) fun x52 => (bif (x52 == false) then (ob (F70 fuel (CV.int (x49 (Int.toNat (Int.tmod (w64 (x51 + 2)) x50)) 0)) (CV.int (x49 (Int.toNat (Int.tmod (w64 (x51 + 2)) x50)) 1)) (CV.int (x49 (Int.toNat x51) 0)) (CV.int (x49 (Int.toNat x51) 1)) (CV.int (x49 (Int.toNat (Int.tmod (w64 (x51 + 1)) x50)) 0)) (CV.int (x49 (Int.toNat (Int.tmod (w64 (x51 + 1)) x50)) 1))) fun x53 => (bif x53 then (k .ret (s67v10 (CV.int (x49 (Int.toNat x51) 0)) (CV.int (x49 (Int.toNat x51) 1)) (CV.int (x49 (Int.toNat (Int.tmod (w64 (x51 + 1)) x50)) 0)) (CV.int (x49 (Int.toNat (Int.tmod (w64 (x51 + 1)) x50)) 1)) (CV.int (x49 (Int.toNat (Int.tmod (w64 (x51 + 2)) x50)) 0)) (CV.int (x49 (Int.toNat (Int.tmod (w64 (x51 + 2)) x50)) 1)))) else (loopN (B67v5 (C33 fuel) fuel) N67v5 fuel (s67v12 x48 x49 x50 x51) (kBlk 6 (kBlk 5 (kSeq (C33 fuel) fuel (2 :: (rl 7 4 (rl 37 57 []))) A67v11 (kLoop (B67v6 (C33 fuel) fuel) N67v6 m k))))))) else (k .ret (s67v10 (CV.int (x49 (Int.toNat x51) 0)) (CV.int (x49 (Int.toNat x51) 1)) (CV.int (x49 (Int.toNat (Int.tmod (w64 (x51 + 1)) x50)) 0)) (CV.int (x49 (Int.toNat (Int.tmod (w64 (x51 + 1)) x50)) 1)) (CV.int (x49 (Int.toNat (Int.tmod (w64 (x51 + 2)) x50)) 0)) (CV.int (x49 (Int.toNat (Int.tmod (w64 (x51 + 2)) x50)) 1)))))) else none)) else none)) else none) else (k (.exit 4) s67v11)) := by kernel_rfl
theorem t67v4 (fuel : Nat) {ρ : Type} (k : Ex → St → Option ρ) (x48 : Nat) (x49 : Nat → Nat → CV) (x50 : Int) (x51 : Int) :
    loopN (B67v5 (C33 fuel) fuel) N67v5 fuel (s67v12 x48 x49 x50 x51) k =
    L67v5 fuel x48 x49 x50 x51 (CV.int (x49 (Int.toNat x51) 0)) (CV.int (x49 (Int.toNat x51) 1)) (CV.int (x49 (Int.toNat (Int.tmod (w64 (x51 + 1)) x50)) 0)) (CV.int (x49 (Int.toNat (Int.tmod (w64 (x51 + 1)) x50)) 1)) (CV.int (x49 (Int.toNat (Int.tmod (w64 (x51 + 2)) x50)) 0)) (CV.int (x49 (Int.toNat (Int.tmod (w64 (x51 + 2)) x50)) 1)) fuel (w64 (x51 + 2)) (k .ret (s67v7 (CV.int (x49 (Int.toNat x51) 0)) (CV.int (x49 (Int.toNat x51) 1)) (CV.int (x49 (Int.toNat (Int.tmod (w64 (x51 + 1)) x50)) 0)) (CV.int (x49 (Int.toNat (Int.tmod (w64 (x51 + 1)) x50)) 1)) (CV.int (x49 (Int.toNat (Int.tmod (w64 (x51 + 2)) x50)) 0)) (CV.int (x49 (Int.toNat (Int.tmod (w64 (x51 + 2)) x50)) 1)))) (k (.exit 6) (s67v8 x48 x49 x50 x51 (CV.int (x49 (Int.toNat x51) 0)) (CV.int (x49 (Int.toNat x51) 1)) (CV.int (x49 (Int.toNat (Int.tmod (w64 (x51 + 1)) x50)) 0)) (CV.int (x49 (Int.toNat (Int.tmod (w64 (x51 + 1)) x50)) 1)) (CV.int (x49 (Int.toNat (Int.tmod (w64 (x51 + 2)) x50)) 0)) (CV.int (x49 (Int.toNat (Int.tmod (w64 (x51 + 2)) x50)) 1)))) :=
  (loopN_at (st' := (s67v6 x48 x49 x50 x51 (w64 (x51 + 2)) (CV.int (x49 (Int.toNat x51) 0)) (CV.int (x49 (Int.toNat x51) 1)) (CV.int (x49 (Int.toNat (Int.tmod (w64 (x51 + 1)) x50)) 0)) (CV.int (x49 (Int.toNat (Int.tmod (w64 (x51 + 1)) x50)) 1)) (CV.int (x49 (Int.toNat (Int.tmod (w64 (x51 + 2)) x50)) 0)) (CV.int (x49 (Int.toNat (Int.tmod (w64 (x51 + 2)) x50)) 1)))) (by kernel_rfl)).trans (q67v5 fuel x48 x49 x50 x51 (CV.int (x49 (Int.toNat x51) 0)) (CV.int (x49 (Int.toNat x51) 1)) (CV.int (x49 (Int.toNat (Int.tmod (w64 (x51 + 1)) x50)) 0)) (CV.int (x49 (Int.toNat (Int.tmod (w64 (x51 + 1)) x50)) 1)) (CV.int (x49 (Int.toNat (Int.tmod (w64 (x51 + 2)) x50)) 0)) (CV.int (x49 (Int.toNat (Int.tmod (w64 (x51 + 2)) x50)) 1)) k fuel (w64 (x51 + 2)))
theorem g67v5 (fuel : Nat) (m : Nat) {ρ : Type} (k : Ex → St → Option ρ) (x49 : Nat → Nat → CV) (x51 : Int) (x50 : Int) :
    (kBlk 6 (kBlk 5 (kSeq (C33 fuel) fuel (2 :: (rl 7 4 (rl 37 57 []))) A67v11 (kLoop (B67v6 (C33 fuel) fuel) N67v6 m k)))) .ret (s67v7 (CV.int (x49 (Int.toNat x51) 0)) (CV.int (x49 (Int.toNat x51) 1)) (CV.int (x49 (Int.toNat (Int.tmod (w64 (x51 + 1)) x50)) 0)) (CV.int (x49 (Int.toNat (Int.tmod (w64 (x51 + 1)) x50)) 1)) (CV.int (x49 (Int.toNat (Int.tmod (w64 (x51 + 2)) x50)) 0)) (CV.int (x49 (Int.toNat (Int.tmod (w64 (x51 + 2)) x50)) 1))) =
    (k .ret (s67v10 (CV.int (x49 (Int.toNat x51) 0)) (CV.int (x49 (Int.toNat x51) 1)) (CV.int (x49 (Int.toNat (Int.tmod (w64 (x51 + 1)) x50)) 0)) (CV.int (x49 (Int.toNat (Int.tmod (w64 (x51 + 1)) x50)) 1)) (CV.int (x49 (Int.toNat (Int.tmod (w64 (x51 + 2)) x50)) 0)) (CV.int (x49 (Int.toNat (Int.tmod (w64 (x51 + 2)) x50)) 1)))) := by kernel_rfl
theorem g67v6 (fuel : Nat) (m : Nat) {ρ : Type} (k : Ex → St → Option ρ) (x48 : Nat) (x49 : Nat → Nat → CV) (x50 : Int) (x51 : Int) :
    (kBlk 6 (kBlk 5 (kSeq (C33 fuel) fuel (2 :: (rl 7 4 (rl 37 57 []))) A67v11 (kLoop (B67v6 (C33 fuel) fuel) N67v6 m k)))) (.exit 6) (s67v8 x48 x49 x50 x51 (CV.int (x49 (Int.toNat x51) 0)) (CV.int (x49 (Int.toNat x51) 1)) (CV.int (x49 (Int.toNat (Int.tmod (w64 (x51 + 1)) x50)) 0)) (CV.int (x49 (Int.toNat (Int.tmod (w64 (x51 + 1)) x50)) 1)) (CV.int (x49 (Int.toNat (Int.tmod (w64 (x51 + 2)) x50)) 0)) (CV.int (x49 (Int.toNat (Int.tmod (w64 (x51 + 2)) x50)) 1))) =
    (loopH (B67v6 (C33 fuel) fuel) N67v6 m (s67v9 x48 x49 x50 (w64 (x51 + 1))) k) := by kernel_rfl
theorem q67v6 (fuel : Nat) (x48 : Nat) (x49 : Nat → Nat → CV) (x50 : Int) {ρ : Type} (k : Ex → St → Option ρ) : ∀ (m : Nat) (x51 : Int),
    loopH (B67v6 (C33 fuel) fuel) N67v6 m (s67v9 x48 x49 x50 x51) k = L67v6 fuel x48 x49 x50 m x51 (fun x78 x79 x80 x81 x82 x83 => k .ret (s67v10 x78 x79 x80 x81 x82 x83)) (k (.exit 4) s67v11)
  | 0, _ => rfl
  | m + 1, x51 => by
    rw [r67v6]
    simp only [L67v6, q67v6 fuel x48 x49 x50 k m, t67v4, g67v5, g67v6]
def D67 {ρ : Type} (fuel : Nat) (x1 : Nat) (x2 : Nat → Nat → CV) (k : Bool → Option ρ) : Option ρ :=
  (L67v3 fuel x1 x2 (Int.ofNat x1) fuel 0
    (k false)
    (L67v6 fuel x1 x2 (Int.ofNat x1) fuel 0
    (fun x84 x85 x86 x87 x88 x89 => (k false))
    (k true)))
def F67 (fuel : Nat) (x1 : Nat) (x2 : Nat → Nat → CV) : Option (Bool) := D67 fuel x1 x2 some
theorem n67 {ρ σ : Type} (fuel : Nat) (x1 : Nat) (x2 : Nat → Nat → CV) (k : (Bool) → Option ρ) (g : ρ → Option σ) : ob (D67 fuel x1 x2 k) g = D67 fuel x1 x2 fun t => ob (k t) g := by
  simp only [D67, ob_bif, ob_ob, ob_none, nl67v3, nl67v6]
theorem f67 {ρ : Type} (fuel : Nat) (x1 : Nat) (x2 : Nat → Nat → CV) (k : (Bool) → Option ρ) : D67 fuel x1 x2 k = ob (F67 fuel x1 x2) k := by
  unfold F67
  rw [n67]
  simp only [ob_some]
def s67v13 (x1 : Nat) (x2 : Nat → Nat → CV) : St := ⟨[.x (.c (.ro false (.pr (.int .i64) (.pr (.int .i64) .nil)) x1 x2)), .undef, .x (.c (.b false)), .x (.c (.i .i64 (Int.ofNat x1))), .x (.c (.i .i64 0)), .undef, .undef, .undef, .undef, .undef, .undef, .x (.c (.ro false (.pr (.int .i64) (.pr (.int .i64) .nil)) x1 x2)), .x (.c (.i .i64 (Int.ofNat x1))), .undef, .undef, .undef, .undef, .undef, .undef, .undef, .undef, .undef, .undef, .undef, .undef, .undef, .undef, .undef, .undef, .undef, .undef, .undef, .undef, .undef, .undef, .undef, .undef, .undef, .undef, .undef, .undef, .undef, .undef, .undef, .undef, .undef, .undef, .undef, .undef, .undef, .undef, .undef, .undef, .undef, .undef, .undef, .undef, .undef, .undef, .undef, .undef, .undef, .undef, .undef, .undef, .undef, .undef, .undef, .undef, .undef, .undef, .undef, .undef, .undef, .undef, .undef, .undef, .undef, .undef, .undef, .undef, .undef, .undef, .undef, .undef, .undef, .undef, .undef, .undef, .undef, .undef, .undef, .undef, .undef], []⟩
theorem walk67 (fuel : Nat) (x1 : Nat) (x2 : Nat → Nat → CV) :
    evalF (C33 fuel) fuel A67 [.v (.ro false (.pr (.int .i64) (.pr (.int .i64) .nil)) x1 x2)] =
    (loopN (B67v3 (C33 fuel) fuel) N67v3 fuel (s67v13 x1 x2) (kBlk 0 (kSeq (C33 fuel) fuel (2 :: 4 :: 5 :: (rl 13 19 [])) A67v15 (finish A67)))) := by kernel_rfl
theorem t67v7 (fuel : Nat) {ρ : Type} (k : Ex → St → Option ρ) (x1 : Nat) (x2 : Nat → Nat → CV) :
    loopN (B67v3 (C33 fuel) fuel) N67v3 fuel (s67v13 x1 x2) k =
    L67v3 fuel x1 x2 (Int.ofNat x1) fuel 0 (k .ret s67v1) (k (.exit 0) (s67v4 x1 x2 (Int.ofNat x1))) :=
  (loopN_at (st' := (s67v3 x1 x2 (Int.ofNat x1) 0)) (by kernel_rfl)).trans (q67v3 fuel x1 x2 (Int.ofNat x1) k fuel 0)
theorem g67v8 (fuel : Nat) :
    (kBlk 0 (kSeq (C33 fuel) fuel (2 :: 4 :: 5 :: (rl 13 19 [])) A67v15 (finish A67))) .ret s67v1 =
    (some [.v (.b false)]) := by kernel_rfl
def s67v14 (x1 : Nat) (x2 : Nat → Nat → CV) : St := ⟨(.x (.c (.ro false (.pr (.int .i64) (.pr (.int .i64) .nil)) x1 x2)) :: .u :: .u :: .x (.c (.i .i64 (Int.ofNat x1))) :: .u :: .u :: .x (.c (.i .i64 0)) :: (us 87 [])), []⟩
theorem g67v9 (fuel : Nat) (x1 : Nat) (x2 : Nat → Nat → CV) :
    (kBlk 0 (kSeq (C33 fuel) fuel (2 :: 4 :: 5 :: (rl 13 19 [])) A67v15 (finish A67))) (.exit 0) (s67v4 x1 x2 (Int.ofNat x1)) =
    (loopN (B67v6 (C33 fuel) fuel) N67v6 fuel (s67v14 x1 x2) (kBlk 4 (kSeq (C33 fuel) fuel (2 :: (rl 6 5 (rl 32 62 []))) A67v14 (finish A67)))) := by kernel_rfl
theorem t67v10 (fuel : Nat) {ρ : Type} (k : Ex → St → Option ρ) (x1 : Nat) (x2 : Nat → Nat → CV) :
    loopN (B67v6 (C33 fuel) fuel) N67v6 fuel (s67v14 x1 x2) k =
    L67v6 fuel x1 x2 (Int.ofNat x1) fuel 0 (fun x78 x79 x80 x81 x82 x83 => k .ret (s67v10 x78 x79 x80 x81 x82 x83)) (k (.exit 4) s67v11) :=
  (loopN_at (st' := (s67v9 x1 x2 (Int.ofNat x1) 0)) (by kernel_rfl)).trans (q67v6 fuel x1 x2 (Int.ofNat x1) k fuel 0)
theorem g67v11 (fuel : Nat) (x84 : Int) (x85 : Int) (x86 : Int) (x87 : Int) (x88 : Int) (x89 : Int) :
    (kBlk 4 (kSeq (C33 fuel) fuel (2 :: (rl 6 5 (rl 32 62 []))) A67v14 (finish A67))) .ret (s67v10 x84 x85 x86 x87 x88 x89) =
    (some [.v (.b false)]) := by kernel_rfl
theorem g67v12 (fuel : Nat) :
    (kBlk 4 (kSeq (C33 fuel) fuel (2 :: (rl 6 5 (rl 32 62 []))) A67v14 (finish A67))) (.exit 4) s67v11 =
    (some [.v (.b true)]) := by kernel_rfl
theorem e67 (fuel : Nat) (x1 : Nat) (x2 : Nat → Nat → CV) : evalF (C33 fuel) fuel A67 [.v (.ro false (.pr (.int .i64) (.pr (.int .i64) .nil)) x1 x2)] = ob (F67 fuel x1 x2) fun t => some [.v (.b t)] := by
  rw [walk67, ← f67]
  simp only [D67, t67v7, g67v8, g67v9, t67v10, g67v11, g67v12]
def O67 (fuel : Nat) : Ora where
  o := fun args {ρ} K =>
    wc args fun a1 l2 =>
    wv a1 fun c3 =>
    wL (.pr (.int .i64) (.pr (.int .i64) .nil)) c3 fun y4 y5 =>
    wn l2 <|
    (ob (F67 fuel y4 y5) fun t => K [.v (.b t)])
  nat := fun args {ρ} K => by
    simp only [bind_wc, bind_wn, bind_wv, bind_wagg, bind_wI, bind_wB, bind_wS, bind_wL, bind_wP, bind_wFn, bind_ob, Option.bind_some]
theorem d67 {P : Program} (fuel : Nat) (hmix : P.follows .mixedOrders = true) (hC : Sound P (C33 fuel)) (hF : FFits P 67 A67) (args res : List A) (h : (O67 fuel).o args some = some res) : Den P 67 args res := by
  obtain ⟨a1, l2, rfl, z0⟩ := inv_wc h
  obtain ⟨c3, rfl, z1⟩ := inv_wv z0
  obtain ⟨y4, y5, h6, z2⟩ := inv_wL z1
  obtain ⟨hn, z3⟩ := inv_wn z2
  cases hn
  exact Den.weaken (.cons (WkA.v h6) .nil) (evalF_sound hmix hC hF ((e67 fuel y4 y5).trans z3))
def C34 (fuel : Nat) : Oracle := (C33 fuel).add 67 (fun _ => true) (O67 fuel)
def A37v1 : AC := (.seq (.region 9 [o1 2 (.assign (ic 0))] 0 none) []
  (.ret (0 :: 1 :: (rl 3 12 []))))
def A37v2 : AC := (.seq (.seq (.region 7 [mv 12 0, o1 13 (.call 67 [(tm 12)] [22] .snap), o1 14 (.unOp .not 4 (tm 13))] 0 none) []
  (.cond (tm 14)
  (.seq (.region 8 [o1 2 (.assign (ic 17))] 0 none) []
    (.ret (0 :: 1 :: (rl 3 12 []))))
  .skip)) [2, 12, 13, 14]
  A37v1)
def A37v3 : AC := (.seq (.seq (.region 5 [mv 9 0, o1 10 (.call 66 [(tm 9)] [22] .snap), o1 11 (.unOp .not 4 (tm 10))] 0 none) []
  (.cond (tm 11)
  (.seq (.region 6 [o1 2 (.assign (ic 9))] 0 none) []
    (.ret (0 :: 1 :: (rl 3 12 []))))
  .skip)) [2, 9, 10, 11]
  A37v2)
def A37v4 : AC := (.seq (.seq (.region 3 [mv 6 0, o1 7 (.len 22 false (tm 6)), o1 8 (.binOp .gtr 3 (tm 7) (ic 32) 3)] 0 none) []
  (.cond (tm 8)
  (.seq (.region 4 [o1 2 (.assign (ic 4))] 0 none) []
    (.ret (0 :: 1 :: (rl 3 12 []))))
  .skip)) [2, 6, 7, 8]
  A37v3)
def A37 : AF := ⟨15, [.tmp 2],
  (.seq (.region 0 [o1 2 (.assign (ic 0))] 0 none) []
  (.seq (.seq (.region 1 [mv 3 0, o1 4 (.len 22 false (tm 3)), o1 5 (.binOp .lss 3 (tm 4) (ic 3) 3)] 0 none) []
  (.cond (tm 5)
  (.seq (.region 2 [o1 2 (.assign (ic 3))] 0 none) []
    (.ret (0 :: 1 :: (rl 3 12 []))))
  .skip)) (rl 2 4 [])
  A37v4))⟩
def D37 {ρ : Type} (fuel : Nat) (x1 : Nat) (x2 : Nat → Nat → CV) (k : Int → Option ρ) : Option ρ :=
  (bif (decide ((Int.ofNat x1) < 3)) then (k 3) else (bif (decide ((Int.ofNat x1) > 32)) then (k 4) else (ob (F66 fuel x1 x2) fun x3 => (bif (!x3) then (k 9) else (ob (F67 fuel x1 x2) fun x4 => (bif (!x4) then (k 17) else (k 0)))))))
def F37 (fuel : Nat) (x1 : Nat) (x2 : Nat → Nat → CV) : Option (Int) := D37 fuel x1 x2 some
theorem n37 {ρ σ : Type} (fuel : Nat) (x1 : Nat) (x2 : Nat → Nat → CV) (k : (Int) → Option ρ) (g : ρ → Option σ) : ob (D37 fuel x1 x2 k) g = D37 fuel x1 x2 fun t => ob (k t) g := by
  simp only [D37, ob_bif, ob_ob, ob_none]
theorem f37 {ρ : Type} (fuel : Nat) (x1 : Nat) (x2 : Nat → Nat → CV) (k : (Int) → Option ρ) : D37 fuel x1 x2 k = ob (F37 fuel x1 x2) k := by
  unfold F37
  rw [n37]
  simp only [ob_some]
theorem walk37 (fuel : Nat) (x1 : Nat) (x2 : Nat → Nat → CV) :
    evalF (C34 fuel) fuel A37 [.v (.ro false (.pr (.int .i64) (.pr (.int .i64) .nil)) x1 x2)] =
    (bif (decide ((Int.ofNat x1) < 3)) then (some [.v (.i .i64 3)]) else (bif (decide ((Int.ofNat x1) > 32)) then (some [.v (.i .i64 4)]) else (ob (F66 fuel x1 x2) fun x3 => (bif (!x3) then (some [.v (.i .i64 9)]) else (ob (F67 fuel x1 x2) fun x4 => (bif (!x4) then (some [.v (.i .i64 17)]) else (some [.v (.i .i64 0)]))))))) := by kernel_rfl
theorem e37 (fuel : Nat) (x1 : Nat) (x2 : Nat → Nat → CV) : evalF (C34 fuel) fuel A37 [.v (.ro false (.pr (.int .i64) (.pr (.int .i64) .nil)) x1 x2)] = ob (F37 fuel x1 x2) fun t => some [.v (.i .i64 t)] := by
  rw [walk37, ← f37]
  simp only [D37]
def O37 (fuel : Nat) : Ora where
  o := fun args {ρ} K =>
    wc args fun a1 l2 =>
    wv a1 fun c3 =>
    wL (.pr (.int .i64) (.pr (.int .i64) .nil)) c3 fun y4 y5 =>
    wn l2 <|
    (ob (F37 fuel y4 y5) fun t => K [.v (.i .i64 t)])
  nat := fun args {ρ} K => by
    simp only [bind_wc, bind_wn, bind_wv, bind_wagg, bind_wI, bind_wB, bind_wS, bind_wL, bind_wP, bind_wFn, bind_ob, Option.bind_some]
theorem d37 {P : Program} (fuel : Nat) (hmix : P.follows .mixedOrders = true) (hC : Sound P (C34 fuel)) (hF : FFits P 37 A37) (args res : List A) (h : (O37 fuel).o args some = some res) : Den P 37 args res := by
  obtain ⟨a1, l2, rfl, z0⟩ := inv_wc h
  obtain ⟨c3, rfl, z1⟩ := inv_wv z0
  obtain ⟨y4, y5, h6, z2⟩ := inv_wL z1
  obtain ⟨hn, z3⟩ := inv_wn z2
  cases hn
  exact Den.weaken (.cons (WkA.v h6) .nil) (evalF_sound hmix hC hF ((e37 fuel y4 y5).trans z3))
def C35 (fuel : Nat) : Oracle := (C34 fuel).add 37 (fun _ => true) (O37 fuel)
def A38v1 : AC := (.seq (.block 1
  (.seq (.region 7 [mv 16 0, mv 17 4, o1 18 (.indexAddr 22 34 2 (tm 16) (tm 17)), o1 19 (.load 34 (some 2) (tm 18)), mv 20 0, mv 21 4, o1 22 (.binOp .add 3 (tm 21) (ic 1) 3), mv 23 0, o1 24 (.len 22 false (tm 23)), o1 25 (.binOp .rem 3 (tm 22) (tm 24) 3), o1 26 (.indexAddr 22 34 2 (tm 20) (tm 25)), o1 27 (.load 34 (some 2) (tm 26)), o1 5 (.alloc 0 34 [.c (.i .i64 0), .c (.i .i64 0)]), o1 6 (.alloc 1 34 [.c (.i .i64 0), .c (.i .i64 0)]), o0 (.store 34 2 (tm 5) (tm 19)), o0 (.store 34 2 (tm 6) (tm 27))] 2 (some [[], [], [0, 1], [0, 1, 2], [], [], [5], [], [7], (rl 5 4 []), (rl 4 6 []), (rl 4 7 []), [], [], (rl 0 4 [12, 13]), (rl 0 15 [])])) []
    (.region 8 [mv 28 3, o1 29 (.fieldAddr 34 (tm 5) 0 0), o1 30 (.load 3 none (tm 29)), o1 31 (.fieldAddr 34 (tm 6) 1 1), o1 32 (.load 3 none (tm 31)), o1 33 (.binOp .mul 3 (tm 30) (tm 32) 3), o1 34 (.binOp .add 3 (tm 28) (tm 33) 3), o1 35 (.fieldAddr 34 (tm 5) 1 1), o1 36 (.load 3 none (tm 35)), o1 37 (.fieldAddr 34 (tm 6) 0 0), o1 38 (.load 3 none (tm 37)), o1 39 (.binOp .mul 3 (tm 36) (tm 38) 3), o1 40 (.binOp .sub 3 (tm 34) (tm 39) 3), o1 3 (.assign (tm 40))] 0 none))) []
  (.region 6 [mv 14 4, o1 15 (.binOp .add 3 (tm 14) (ic 1) 3), o1 4 (.assign (tm 15))] 0 none))
def A38v2 : AC := (.seq (.seq (.region 5 [mv 10 4, mv 11 0, o1 12 (.len 22 false (tm 11)), o1 13 (.binOp .lss 3 (tm 10) (tm 12) 3)] 0 none) []
  (.cond (tm 13)
  .skip
  (.exit 0 (0 :: 1 :: 2 :: (rl 4 38 []))))) (rl 10 4 [])
  A38v1)
def A38v3 : AC := (.seq (.region 9 [mv 41 3, o1 2 (.assign (tm 41))] 0 none) []
  (.ret (0 :: 1 :: (rl 3 39 []))))
def A38v4 : AC := (.seq (.region 3 [o1 3 (.assign (ic 0))] 0 none) []
  (.seq (.seq (.region 4 [o1 4 (.assign (ic 0))] 0 none) []
  (.block 0
  (.loop [] (1 :: 2 :: (rl 5 37 []))
    A38v2))) (4 :: 5 :: 6 :: (rl 10 31 []))
  A38v3))
def A38 : AF := ⟨42, [.tmp 2],
  (.seq (.region 0 [o1 2 (.assign (ic 0))] 0 none) []
  (.seq (.seq (.region 1 [mv 7 0, o1 8 (.call 37 [(tm 7)] [22] .snap), o1 9 (.binOp .neq 27 (tm 8) (ic 0) 27)] 0 none) []
  (.cond (tm 9)
  (.seq (.region 2 [o1 2 (.assign (ic 0))] 0 none) []
    (.ret (0 :: 1 :: (rl 3 39 []))))
  .skip)) [2, 7, 8, 9]
  A38v4))⟩
def B38v1 (C : Oracle) (fuel : Nat) {ρ : Type} : St → (Ex → St → Option ρ) → Option ρ := fun st k => evalC C fuel A38v2 st k
def N38v1 : St → Option St := fun s => s.norm (1 :: 2 :: (rl 5 37 [])) 0
def s38v0 (x6 : Nat) (x7 : Nat → Nat → CV) (x8 : Int) (x9 : Int) : St := ⟨(.x (.c (.ro false (.pr (.int .i64) (.pr (.int .i64) .nil)) x6 x7)) :: .u :: .u :: .x (.c (.i .i64 x8)) :: .x (.c (.i .i64 x9)) :: (us 37 [])), []⟩
def s38v1 (x10 : Int) : St := ⟨(us 3 (.x (.c (.i .i64 x10)) :: (us 38 []))), []⟩
def L38v1 {ρ : Type} (fuel : Nat) (x6 : Nat) (x7 : Nat → Nat → CV) : Nat → Int → Int → (Int → Option ρ) → Option ρ
  | 0, _, _, _ => none
  | m + 1, x8, x9, k0 =>
    (bif (decide (x9 < (Int.ofNat x6))) then (bif (inb x9 x6) then (bif ((Int.ofNat x6) == 0) then none else (bif (inb (Int.tmod (w64 (x9 + 1)) (Int.ofNat x6)) x6) then (L38v1 fuel x6 x7 m (w64 ((w64 (x8 + (w64 ((CV.int (x7 (Int.toNat x9) 0)) * (CV.int (x7 (Int.toNat (Int.tmod (w64 (x9 + 1)) (Int.ofNat x6))) 1)))))) - (w64 ((CV.int (x7 (Int.toNat x9) 1)) * (CV.int (x7 (Int.toNat (Int.tmod (w64 (x9 + 1)) (Int.ofNat x6))) 0)))))) (w64 (x9 + 1)) k0) else none)) else none) else (k0 x8))
theorem nl38v1 {ρ σ : Type} (fuel : Nat) (x6 : Nat) (x7 : Nat → Nat → CV) (g : ρ → Option σ) : ∀ (m : Nat) (x8 : Int) (x9 : Int) (k0 : Int → Option ρ), ob (L38v1 fuel x6 x7 m x8 x9 k0) g = L38v1 fuel x6 x7 m x8 x9 (fun x10 => ob (k0 x10) g)
  | 0, _, _, _ => rfl
  | m + 1, x8, x9, k0 => by
    simp only [L38v1, ob_bif, ob_ob, ob_none, nl38v1 fuel x6 x7 g m]
theorem r38v1 (fuel : Nat) (m : Nat) {ρ : Type} (k : Ex → St → Option ρ) (x6 : Nat) (x7 : Nat → Nat → CV) (x8 : Int) (x9 : Int) :
    loopH (B38v1 (C35 fuel) fuel) N38v1 (m + 1) (s38v0 x6 x7 x8 x9) k =
    (bif (decide (x9 < (Int.ofNat x6))) then (bif (inb x9 x6) then (bif ((Int.ofNat x6) == 0) then none else (bif (inb (Int.tmod (w64 (x9 + 1)) (Int.ofNat x6)) x6) then (loopH (B38v1 (C35 fuel) fuel) N38v1 m (s38v0 x6 x7 (w64 ((w64 (x8 + (w64 ((CV.int (x7 (Int.toNat x9) 0)) * (CV.int (x7 (Int.toNat (Int.tmod (w64 (x9 + 1)) (Int.ofNat x6))) 1)))))) - (w64 ((CV.int (x7 (Int.toNat x9) 1)) * (CV.int (x7 (Int.toNat (Int.tmod (w64 (x9 + 1)) (Int.ofNat x6))) 0)))))) (w64 (x9 + 1))) k) else none)) else none) else (k (.exit 0) (s38v1 x8))) := by kernel_rfl
theorem q38v1 (fuel : Nat) (x6 : Nat) (x7 : Nat → Nat → CV) {ρ : Type} (k : Ex → St → Option ρ) : ∀ (m : Nat) (x8 : Int) (x9 : Int),
    loopH (B38v1 (C35 fuel) fuel) N38v1 m (s38v0 x6 x7 x8 x9) k = L38v1 fuel x6 x7 m x8 x9 (fun x10 => k (.exit 0) (s38v1 x10))
  | 0, _, _ => rfl
  | m + 1, x8, x9 => by
    rw [r38v1]
    simp only [L38v1, q38v1 fuel x6 x7 k m]
def D38 {ρ : Type} (fuel : Nat) (x1 : Nat) (x2 : Nat → Nat → CV) (k : Int → Option ρ) : Option ρ :=
  (ob (F37 fuel x1 x2) fun x3 => (bif (x3 != 0) then (k 0) else (L38v1 fuel x1 x2 fuel 0 0
    (fun x11 => (k x11)))))
def F38 (fuel : Nat) (x1 : Nat) (x2 : Nat → Nat → CV) : Option (Int) := D38 fuel x1 x2 some
theorem n38 {ρ σ : Type} (fuel : Nat) (x1 : Nat) (x2 : Nat → Nat → CV) (k : (Int) → Option ρ) (g : ρ → Option σ) : ob (D38 fuel x1 x2 k) g = D38 fuel x1 x2 fun t => ob (k t) g := by
  simp only [D38, ob_bif, ob_ob, ob_none, nl38v1]
theorem f38 {ρ : Type} (fuel : Nat) (x1 : Nat) (x2 : Nat → Nat → CV) (k : (Int) → Option ρ) : D38 fuel x1 x2 k = ob (F38 fuel x1 x2) k := by
  unfold F38
  rw [n38]
  simp only [ob_some]
def s38v2 (x1 : Nat) (x2 : Nat → Nat → CV) : St := ⟨(.x (.c (.ro false (.pr (.int .i64) (.pr (.int .i64) .nil)) x1 x2)) :: .undef :: .u :: .x (.c (.i .i64 0)) :: .x (.c (.i .i64 0)) :: .undef :: .undef :: (us 3 [.undef, .undef, .undef, .undef, .undef, .undef, .undef, .undef, .undef, .undef, .undef, .undef, .undef, .undef, .undef, .undef, .undef, .undef, .undef, .undef, .undef, .undef, .undef, .undef, .undef, .undef, .undef, .undef, .undef, .undef, .undef, .undef])), []⟩
theorem walk38 (fuel : Nat) (x1 : Nat) (x2 : Nat → Nat → CV) :
    evalF (C35 fuel) fuel A38 [.v (.ro false (.pr (.int .i64) (.pr (.int .i64) .nil)) x1 x2)] =
    (ob (F37 fuel x1 x2) fun x3 => (bif (x3 != 0) then (some [.v (.i .i64 0)]) else (loopN (B38v1 (C35 fuel) fuel) N38v1 fuel (s38v2 x1 x2) (kBlk 0 (kSeq (C35 fuel) fuel (4 :: 5 :: 6 :: (rl 10 31 [])) A38v3 (finish A38)))))) := by kernel_rfl
theorem t38v1 (fuel : Nat) {ρ : Type} (k : Ex → St → Option ρ) (x1 : Nat) (x2 : Nat → Nat → CV) :
    loopN (B38v1 (C35 fuel) fuel) N38v1 fuel (s38v2 x1 x2) k =
    L38v1 fuel x1 x2 fuel 0 0 (fun x10 => k (.exit 0) (s38v1 x10)) :=
  (loopN_at (st' := (s38v0 x1 x2 0 0)) (by kernel_rfl)).trans (q38v1 fuel x1 x2 k fuel 0 0)
theorem g38v2 (fuel : Nat) (x11 : Int) :
    (kBlk 0 (kSeq (C35 fuel) fuel (4 :: 5 :: 6 :: (rl 10 31 [])) A38v3 (finish A38))) (.exit 0) (s38v1 x11) =
    (some [.v (.i .i64 x11)]) := by kernel_rfl
theorem e38 (fuel : Nat) (x1 : Nat) (x2 : Nat → Nat → CV) : evalF (C35 fuel) fuel A38 [.v (.ro false (.pr (.int .i64) (.pr (.int .i64) .nil)) x1 x2)] = ob (F38 fuel x1 x2) fun t => some [.v (.i .i64 t)] := by
  rw [walk38, ← f38]
  simp only [D38, t38v1, g38v2]
def O38 (fuel : Nat) : Ora where
  o := fun args {ρ} K =>
    wc args fun a1 l2 =>
    wv a1 fun c3 =>
    wL (.pr (.int .i64) (.pr (.int .i64) .nil)) c3 fun y4 y5 =>
    wn l2 <|
    (ob (F38 fuel y4 y5) fun t => K [.v (.i .i64 t)])
  nat := fun args {ρ} K => by
    simp only [bind_wc, bind_wn, bind_wv, bind_wagg, bind_wI, bind_wB, bind_wS, bind_wL, bind_wP, bind_wFn, bind_ob, Option.bind_some]
theorem d38 {P : Program} (fuel : Nat) (hmix : P.follows .mixedOrders = true) (hC : Sound P (C35 fuel)) (hF : FFits P 38 A38) (args res : List A) (h : (O38 fuel).o args some = some res) : Den P 38 args res := by
  obtain ⟨a1, l2, rfl, z0⟩ := inv_wc h
  obtain ⟨c3, rfl, z1⟩ := inv_wv z0
  obtain ⟨y4, y5, h6, z2⟩ := inv_wL z1
  obtain ⟨hn, z3⟩ := inv_wn z2
  cases hn
  exact Den.weaken (.cons (WkA.v h6) .nil) (evalF_sound hmix hC hF ((e38 fuel y4 y5).trans z3))
def C36 (fuel : Nat) : Oracle := (C35 fuel).add 38 (fun _ => true) (O38 fuel)
def A84v1 : AC := (.seq (.region 6 [o1 6 (.assign (ic 0))] 0 none) []
  (.ret (rl 0 6 (rl 7 28 []))))
def A84v2 : AC := (.seq (.seq (.region 4 [mv 33 7, o1 34 (.binOp .lss 3 (tm 33) (ic 0) 3)] 0 none) []
  (.cond (tm 34)
  (.seq (.region 5 [o1 6 (.assign (ic (-1)))] 0 none) []
    (.ret (rl 0 6 (rl 7 28 []))))
  .skip)) [6, 33, 34]
  A84v1)
def A84 : AF := ⟨35, [.tmp 6],
  (.seq (.region 0 [o1 3 (.box 0 34 (tm 0)), o1 4 (.box 1 34 (tm 1)), o1 5 (.box 2 34 (tm 2)), o1 6 (.assign (ic 0))] 3 none) []
  (.seq (.region 1 [o1 8 (.fieldAddr 34 (tm 4) 0 0), o1 9 (.load 3 none (tm 8)), o1 10 (.fieldAddr 34 (tm 3) 0 0), o1 11 (.load 3 none (tm 10)), o1 12 (.binOp .sub 3 (tm 9) (tm 11) 3), o1 13 (.fieldAddr 34 (tm 5) 1 1), o1 14 (.load 3 none (tm 13)), o1 15 (.fieldAddr 34 (tm 3) 1 1), o1 16 (.load 3 none (tm 15)), o1 17 (.binOp .sub 3 (tm 14) (tm 16) 3), o1 18 (.binOp .mul 3 (tm 12) (tm 17) 3), o1 19 (.fieldAddr 34 (tm 4) 1 1), o1 20 (.load 3 none (tm 19)), o1 21 (.fieldAddr 34 (tm 3) 1 1), o1 22 (.load 3 none (tm 21)), o1 23 (.binOp .sub 3 (tm 20) (tm 22) 3), o1 24 (.fieldAddr 34 (tm 5) 0 0), o1 25 (.load 3 none (tm 24)), o1 26 (.fieldAddr 34 (tm 3) 0 0), o1 27 (.load 3 none (tm 26)), o1 28 (.binOp .sub 3 (tm 25) (tm 27) 3), o1 29 (.binOp .mul 3 (tm 23) (tm 28) 3), o1 30 (.binOp .sub 3 (tm 18) (tm 29) 3), o1 7 (.assign (tm 30))] 0 none) []
  (.seq (.seq (.region 2 [mv 31 7, o1 32 (.binOp .gtr 3 (tm 31) (ic 0) 3)] 0 none) []
  (.cond (tm 32)
  (.seq (.region 3 [o1 6 (.assign (ic 1))] 0 none) []
    (.ret (rl 0 6 (rl 7 28 []))))
  .skip)) [6, 31, 32]
  A84v2)))⟩
def D84 {ρ : Type} (fuel : Nat) (x1 : Int) (x2 : Int) (x3 : Int) (x4 : Int) (x5 : Int) (x6 : Int) (k : Int → Option ρ) : Option ρ :=
  (bif (decide ((w64 ((w64 ((w64 (x3 - x1)) * (w64 (x6 - x2)))) - (w64 ((w64 (x4 - x2)) * (w64 (x5 - x1)))))) > 0)) then (k 1) else (bif (decide ((w64 ((w64 ((w64 (x3 - x1)) * (w64 (x6 - x2)))) - (w64 ((w64 (x4 - x2)) * (w64 (x5 - x1)))))) < 0)) then (k (-1)) else (k 0)))
def F84 (fuel : Nat) (x1 : Int) (x2 : Int) (x3 : Int) (x4 : Int) (x5 : Int) (x6 : Int) : Option (Int) := D84 fuel x1 x2 x3 x4 x5 x6 some
theorem n84 {ρ σ : Type} (fuel : Nat) (x1 : Int) (x2 : Int) (x3 : Int) (x4 : Int) (x5 : Int) (x6 : Int) (k : (Int) → Option ρ) (g : ρ → Option σ) : ob (D84 fuel x1 x2 x3 x4 x5 x6 k) g = D84 fuel x1 x2 x3 x4 x5 x6 fun t => ob (k t) g := by
  simp only [D84, ob_bif, ob_ob, ob_none]
theorem f84 {ρ : Type} (fuel : Nat) (x1 : Int) (x2 : Int) (x3 : Int) (x4 : Int) (x5 : Int) (x6 : Int) (k : (Int) → Option ρ) : D84 fuel x1 x2 x3 x4 x5 x6 k = ob (F84 fuel x1 x2 x3 x4 x5 x6) k := by
  unfold F84
  rw [n84]
  simp only [ob_some]
theorem walk84 (fuel : Nat) (x1 : Int) (x2 : Int) (x3 : Int) (x4 : Int) (x5 : Int) (x6 : Int) :
    evalF (C36 fuel) fuel A84 [.agg [(.i .i64 x1), (.i .i64 x2)], .agg [(.i .i64 x3), (.i .i64 x4)], .agg [(.i .i64 x5), (.i .i64 x6)]] =
    (bif (decide ((w64 ((w64 ((w64 (x3 - x1)) * (w64 (x6 - x2)))) - (w64 ((w64 (x4 - x2)) * (w64 (x5 - x1)))))) > 0)) then (some [.v (.i .i64 1)]) else (bif (decide ((w64 ((w64 ((w64 (x3 - x1)) * (w64 (x6 - x2)))) - (w64 ((w64 (x4 - x2)) * (w64 (x5 - x1)))))) < 0)) then (some [.v (.i .i64 (-1))]) else (some [.v (.i .i64 0)]))) := by kernel_rfl
theorem e84 (fuel : Nat) (x1 : Int) (x2 : Int) (x3 : Int) (x4 : Int) (x5 : Int) (x6 : Int) : evalF (C36 fuel) fuel A84 [.agg [(.i .i64 x1), (.i .i64 x2)], .agg [(.i .i64 x3), (.i .i64 x4)], .agg [(.i .i64 x5), (.i .i64 x6)]] = ob (F84 fuel x1 x2 x3 x4 x5 x6) fun t => some [.v (.i .i64 t)] := by
  rw [walk84, ← f84]
  simp only [D84]
def O84 (fuel : Nat) : Ora where
  o := fun args {ρ} K =>
    wc args fun a1 l2 =>
    wagg a1 fun l3 =>
    wc l3 fun c4 l5 =>
    wI .i64 c4 fun y6 =>
    wc l5 fun c8 l9 =>
    wI .i64 c8 fun y10 =>
    wn l9 <|
    wc l2 fun a12 l13 =>
    wagg a12 fun l14 =>
    wc l14 fun c15 l16 =>
    wI .i64 c15 fun y17 =>
    wc l16 fun c19 l20 =>
    wI .i64 c19 fun y21 =>
    wn l20 <|
    wc l13 fun a23 l24 =>
    wagg a23 fun l25 =>
    wc l25 fun c26 l27 =>
    wI .i64 c26 fun y28 =>
    wc l27 fun c30 l31 =>
    wI .i64 c30 fun y32 =>
    wn l31 <|
    wn l24 <|
    (ob (F84 fuel y6 y10 y17 y21 y28 y32) fun t => K [.v (.i .i64 t)])
  nat := fun args {ρ} K => by
    simp only [bind_wc, bind_wn, bind_wv, bind_wagg, bind_wI, bind_wB, bind_wS, bind_wL, bind_wP, bind_wFn, bind_ob, Option.bind_some]
theorem d84 {P : Program} (fuel : Nat) (hmix : P.follows .mixedOrders = true) (hC : Sound P (C36 fuel)) (hF : FFits P 84 A84) (args res : List A) (h : (O84 fuel).o args some = some res) : Den P 84 args res := by
  obtain ⟨a1, l2, rfl, z0⟩ := inv_wc h
  obtain ⟨l3, rfl, z1⟩ := inv_wagg z0
  obtain ⟨c4, l5, rfl, z2⟩ := inv_wc z1
  obtain ⟨y6, h7, z3⟩ := inv_wI z2
  obtain ⟨c8, l9, rfl, z4⟩ := inv_wc z3
  obtain ⟨y10, h11, z5⟩ := inv_wI z4
  obtain ⟨hn, z6⟩ := inv_wn z5
  cases hn
  obtain ⟨a12, l13, rfl, z7⟩ := inv_wc z6
  obtain ⟨l14, rfl, z8⟩ := inv_wagg z7
  obtain ⟨c15, l16, rfl, z9⟩ := inv_wc z8
  obtain ⟨y17, h18, z10⟩ := inv_wI z9
  obtain ⟨c19, l20, rfl, z11⟩ := inv_wc z10
  obtain ⟨y21, h22, z12⟩ := inv_wI z11
  obtain ⟨hn, z13⟩ := inv_wn z12
  cases hn
  obtain ⟨a23, l24, rfl, z14⟩ := inv_wc z13
  obtain ⟨l25, rfl, z15⟩ := inv_wagg z14
  obtain ⟨c26, l27, rfl, z16⟩ := inv_wc z15
  obtain ⟨y28, h29, z17⟩ := inv_wI z16
  obtain ⟨c30, l31, rfl, z18⟩ := inv_wc z17
  obtain ⟨y32, h33, z19⟩ := inv_wI z18
  obtain ⟨hn, z20⟩ := inv_wn z19
  cases hn
  obtain ⟨hn, z21⟩ := inv_wn z20
  cases hn
  exact Den.weaken (.cons (WkA.agg (.cons (Wk.i h7) (.cons (Wk.i h11) .nil))) (.cons (WkA.agg (.cons (Wk.i h18) (.cons (Wk.i h22) .nil))) (.cons (WkA.agg (.cons (Wk.i h29) (.cons (Wk.i h33) .nil))) .nil))) (evalF_sound hmix hC hF ((e84 fuel y6 y10 y17 y21 y28 y32).trans z21))
def C37 (fuel : Nat) : Oracle := (C36 fuel).add 84 (fun _ => true) (O84 fuel)
def A83 : AF := ⟨52, [.tmp 6],
  (.seq (.region 0 [o1 3 (.box 0 34 (tm 0)), o1 4 (.box 1 34 (tm 1)), o1 5 (.box 2 34 (tm 2)), o1 6 (.assign (.const (.bool false)))] 3 none) []
  (.seq (.region 1 [o1 7 (.load 34 (some 2) (tm 3)), o1 8 (.load 34 (some 2) (tm 4)), o1 9 (.load 34 (some 2) (tm 5)), o1 10 (.call 84 [(tm 7), (tm 8), (tm 9)] [34, 34, 34] .snap), o1 11 (.binOp .eql 3 (tm 10) (ic 0) 3), mv 12 11, og 13 (.fieldAddr 34 (tm 5) 0 0) 12 true, og 14 (.load 3 none (tm 13)) 12 true, og 15 (.fieldAddr 34 (tm 3) 0 0) 12 true, og 16 (.load 3 none (tm 15)) 12 true, og 17 (.fieldAddr 34 (tm 4) 0 0) 12 true, og 18 (.load 3 none (tm 17)) 12 true, og 19 (.mm false [(tm 16), (tm 18)] [3, 3]) 12 true, og 20 (.binOp .geq 3 (tm 14) (tm 19) 3) 12 true, o1 21 (.pick (tm 12) (tm 20) (.const (.bool false))), mv 22 21, og 23 (.fieldAddr 34 (tm 5) 0 0) 22 true, og 24 (.load 3 none (tm 23)) 22 true, og 25 (.fieldAddr 34 (tm 3) 0 0) 22 true, og 26 (.load 3 none (tm 25)) 22 true, og 27 (.fieldAddr 34 (tm 4) 0 0) 22 true, og 28 (.load 3 none (tm 27)) 22 true, og 29 (.mm true [(tm 26), (tm 28)] [3, 3]) 22 true, og 30 (.binOp .leq 3 (tm 24) (tm 29) 3) 22 true, o1 31 (.pick (tm 22) (tm 30) (.const (.bool false))), mv 32 31, og 33 (.fieldAddr 34 (tm 5) 1 1) 32 true, og 34 (.load 3 none (tm 33)) 32 true, og 35 (.fieldAddr 34 (tm 3) 1 1) 32 true, og 36 (.load 3 none (tm 35)) 32 true, og 37 (.fieldAddr 34 (tm 4) 1 1) 32 true, og 38 (.load 3 none (tm 37)) 32 true, og 39 (.mm false [(tm 36), (tm 38)] [3, 3]) 32 true, og 40 (.binOp .geq 3 (tm 34) (tm 39) 3) 32 true, o1 41 (.pick (tm 32) (tm 40) (.const (.bool false))), mv 42 41, og 43 (.fieldAddr 34 (tm 5) 1 1) 42 true, og 44 (.load 3 none (tm 43)) 42 true, og 45 (.fieldAddr 34 (tm 3) 1 1) 42 true, og 46 (.load 3 none (tm 45)) 42 true, og 47 (.fieldAddr 34 (tm 4) 1 1) 42 true, og 48 (.load 3 none (tm 47)) 42 true, og 49 (.mm true [(tm 46), (tm 48)] [3, 3]) 42 true, og 50 (.binOp .leq 3 (tm 44) (tm 49) 3) 42 true, o1 51 (.pick (tm 42) (tm 50) (.const (.bool false))), o1 6 (.assign (tm 51))] 0 none) []
  (.ret (rl 0 6 (rl 7 45 [])))))⟩
def D83 {ρ : Type} (fuel : Nat) (x1 : Int) (x2 : Int) (x3 : Int) (x4 : Int) (x5 : Int) (x6 : Int) (k : Bool → Option ρ) : Option ρ :=
  (ob (F84 fuel x1 x2 x3 x4 x5 x6) fun x7 => (bif ((x7 == 0) == true) then (bif ((decide (x5 ≥ (if x3 < x1 then x3 else x1))) == true) then (bif ((decide (x5 ≤ (if x3 > x1 then x3 else x1))) == true) then (bif ((decide (x6 ≥ (if x4 < x2 then x4 else x2))) == true) then (k (decide (x6 ≤ (if x4 > x2 then x4 else x2)))) else (k false)) else (k false)) else (k false)) else (k false)))
def F83 (fuel : Nat) (x1 : Int) (x2 : Int) (x3 : Int) (x4 : Int) (x5 : Int) (x6 : Int) : Option (Bool) := D83 fuel x1 x2 x3 x4 x5 x6 some
theorem n83 {ρ σ : Type} (fuel : Nat) (x1 : Int) (x2 : Int) (x3 : Int) (x4 : Int) (x5 : Int) (x6 : Int) (k : (Bool) → Option ρ) (g : ρ → Option σ) : ob (D83 fuel x1 x2 x3 x4 x5 x6 k) g = D83 fuel x1 x2 x3 x4 x5 x6 fun t => ob (k t) g := by
  simp only [D83, ob_bif, ob_ob, ob_none]
theorem f83 {ρ : Type} (fuel : Nat) (x1 : Int) (x2 : Int) (x3 : Int) (x4 : Int) (x5 : Int) (x6 : Int) (k : (Bool) → Option ρ) : D83 fuel x1 x2 x3 x4 x5 x6 k = ob (F83 fuel x1 x2 x3 x4 x5 x6) k := by
  unfold F83
  rw [n83]
  simp only [ob_some]
theorem walk83 (fuel : Nat) (x1 : Int) (x2 : Int) (x3 : Int) (x4 : Int) (x5 : Int) (x6 : Int) :
    evalF (C37 fuel) fuel A83 [.agg [(.i .i64 x1), (.i .i64 x2)], .agg [(.i .i64 x3), (.i .i64 x4)], .agg [(.i .i64 x5), (.i .i64 x6)]] =
    (ob (F84 fuel x1 x2 x3 x4 x5 x6) fun x7 => (bif ((x7 == 0) == true) then (bif ((decide (x5 ≥ (if x3 < x1 then x3 else x1))) == true) then (bif ((decide (x5 ≤ (if x3 > x1 then x3 else x1))) == true) then (bif ((decide (x6 ≥ (if x4 < x2 then x4 else x2))) == true) then (some [.v (.b (decide (x6 ≤ (if x4 > x2 then x4 else x2))))]) else (some [.v (.b false)])) else (some [.v (.b false)])) else (some [.v (.b false)])) else (some [.v (.b false)]))) := by kernel_rfl
theorem e83 (fuel : Nat) (x1 : Int) (x2 : Int) (x3 : Int) (x4 : Int) (x5 : Int) (x6 : Int) : evalF (C37 fuel) fuel A83 [.agg [(.i .i64 x1), (.i .i64 x2)], .agg [(.i .i64 x3), (.i .i64 x4)], .agg [(.i .i64 x5), (.i .i64 x6)]] = ob (F83 fuel x1 x2 x3 x4 x5 x6) fun t => some [.v (.b t)] := by
  rw [walk83, ← f83]
  simp only [D83]
def O83 (fuel : Nat) : Ora where
  o := fun args {ρ} K =>
    wc args fun a1 l2 =>
    wagg a1 fun l3 =>
    wc l3 fun c4 l5 =>
    wI .i64 c4 fun y6 =>
    wc l5 fun c8 l9 =>
    wI .i64 c8 fun y10 =>
    wn l9 <|
    wc l2 fun a12 l13 =>
    wagg a12 fun l14 =>
    wc l14 fun c15 l16 =>
    wI .i64 c15 fun y17 =>
    wc l16 fun c19 l20 =>
    wI .i64 c19 fun y21 =>
    wn l20 <|
    wc l13 fun a23 l24 =>
    wagg a23 fun l25 =>
    wc l25 fun c26 l27 =>
    wI .i64 c26 fun y28 =>
    wc l27 fun c30 l31 =>
    wI .i64 c30 fun y32 =>
    wn l31 <|
    wn l24 <|
    (ob (F83 fuel y6 y10 y17 y21 y28 y32) fun t => K [.v (.b t)])
  nat := fun args {ρ} K => by
    simp only [bind_wc, bind_wn, bind_wv, bind_wagg, bind_wI, bind_wB, bind_wS, bind_wL, bind_wP, bind_wFn, bind_ob, Option.bind_some]
theorem d83 {P : Program} (fuel : Nat) (hmix : P.follows .mixedOrders = true) (hC : Sound P (C37 fuel)) (hF : FFits P 83 A83) (args res : List A) (h : (O83 fuel).o args some = some res) : Den P 83 args res := by
  obtain ⟨a1, l2, rfl, z0⟩ := inv_wc h
  obtain ⟨l3, rfl, z1⟩ := inv_wagg z0
  obtain ⟨c4, l5, rfl, z2⟩ := inv_wc z1
  obtain ⟨y6, h7, z3⟩ := inv_wI z2
  obtain ⟨c8, l9, rfl, z4⟩ := inv_wc z3
  obtain ⟨y10, h11, z5⟩ := inv_wI z4
  obtain ⟨hn, z6⟩ := inv_wn z5
  cases hn
  obtain ⟨a12, l13, rfl, z7⟩ := inv_wc z6
  obtain ⟨l14, rfl, z8⟩ := inv_wagg z7
  obtain ⟨c15, l16, rfl, z9⟩ := inv_wc z8
  obtain ⟨y17, h18, z10⟩ := inv_wI z9
  obtain ⟨c19, l20, rfl, z11⟩ := inv_wc z10
  obtain ⟨y21, h22, z12⟩ := inv_wI z11
  obtain ⟨hn, z13⟩ := inv_wn z12
  cases hn
  obtain ⟨a23, l24, rfl, z14⟩ := inv_wc z13
  obtain ⟨l25, rfl, z15⟩ := inv_wagg z14
  obtain ⟨c26, l27, rfl, z16⟩ := inv_wc z15
  obtain ⟨y28, h29, z17⟩ := inv_wI z16
  obtain ⟨c30, l31, rfl, z18⟩ := inv_wc z17
  obtain ⟨y32, h33, z19⟩ := inv_wI z18
  obtain ⟨hn, z20⟩ := inv_wn z19
  cases hn
  obtain ⟨hn, z21⟩ := inv_wn z20
  cases hn
  exact Den.weaken (.cons (WkA.agg (.cons (Wk.i h7) (.cons (Wk.i h11) .nil))) (.cons (WkA.agg (.cons (Wk.i h18) (.cons (Wk.i h22) .nil))) (.cons (WkA.agg (.cons (Wk.i h29) (.cons (Wk.i h33) .nil))) .nil))) (evalF_sound hmix hC hF ((e83 fuel y6 y10 y17 y21 y28 y32).trans z21))
def C38 (fuel : Nat) : Oracle := (C37 fuel).add 83 (fun _ => true) (O83 fuel)
def A68v1 : AC := (.seq (.region 3 [o1 31 (.load 34 (some 2) (tm 4)), o1 32 (.load 34 (some 2) (tm 5)), o1 33 (.load 34 (some 2) (tm 6)), o1 34 (.call 84 [(tm 31), (tm 32), (tm 33)] [34, 34, 34] .snap), o1 35 (.load 34 (some 2) (tm 4)), o1 36 (.load 34 (some 2) (tm 5)), o1 37 (.load 34 (some 2) (tm 7)), o1 38 (.call 84 [(tm 35), (tm 36), (tm 37)] [34, 34, 34] .snap), o1 39 (.binOp .mul 3 (tm 34) (tm 38) 3), o1 40 (.binOp .lss 3 (tm 39) (ic 0) 3), mv 41 40, og 42 (.load 34 (some 2) (tm 6)) 41 true, og 43 (.load 34 (some 2) (tm 7)) 41 true, og 44 (.load 34 (some 2) (tm 4)) 41 true, og 45 (.call 84 [(tm 42), (tm 43), (tm 44)] [34, 34, 34] .snap) 41 true, og 46 (.load 34 (some 2) (tm 6)) 41 true, og 47 (.load 34 (some 2) (tm 7)) 41 true, og 48 (.load 34 (some 2) (tm 5)) 41 true, og 49 (.call 84 [(tm 46), (tm 47), (tm 48)] [34, 34, 34] .snap) 41 true, og 50 (.binOp .mul 3 (tm 45) (tm 49) 3) 41 true, og 51 (.binOp .lss 3 (tm 50) (ic 0) 3) 41 true, o1 52 (.pick (tm 41) (tm 51) (.const (.bool false))), o1 8 (.assign (tm 52))] 0 (some [[], [], [], [0, 1, 2], [], [], [], (rl 0 7 []), (rl 0 8 []), (rl 0 9 []), (rl 0 10 []), (rl 0 11 []), (rl 0 11 []), (rl 0 11 []), (rl 0 14 []), (rl 0 11 []), (rl 0 11 []), (rl 0 11 []), (rl 0 18 []), (rl 0 19 []), (rl 0 20 []), (rl 0 21 []), (rl 0 22 [])])) []
  (.ret (rl 0 8 (rl 9 44 []))))
def A68 : AF := ⟨53, [.tmp 8],
  (.seq (.region 0 [o1 4 (.box 0 34 (tm 0)), o1 5 (.box 1 34 (tm 1)), o1 6 (.box 2 34 (tm 2)), o1 7 (.box 3 34 (tm 3)), o1 8 (.assign (.const (.bool false)))] 4 none) []
  (.seq (.seq (.region 1 [o1 9 (.load 34 (some 2) (tm 4)), o1 10 (.load 34 (some 2) (tm 5)), o1 11 (.load 34 (some 2) (tm 6)), o1 12 (.call 83 [(tm 9), (tm 10), (tm 11)] [34, 34, 34] .snap), mv 13 12, og 14 (.load 34 (some 2) (tm 4)) 13 false, og 15 (.load 34 (some 2) (tm 5)) 13 false, og 16 (.load 34 (some 2) (tm 7)) 13 false, og 17 (.call 83 [(tm 14), (tm 15), (tm 16)] [34, 34, 34] .snap) 13 false, o1 18 (.pick (tm 13) (.const (.bool true)) (tm 17)), mv 19 18, og 20 (.load 34 (some 2) (tm 6)) 19 false, og 21 (.load 34 (some 2) (tm 7)) 19 false, og 22 (.load 34 (some 2) (tm 4)) 19 false, og 23 (.call 83 [(tm 20), (tm 21), (tm 22)] [34, 34, 34] .snap) 19 false, o1 24 (.pick (tm 19) (.const (.bool true)) (tm 23)), mv 25 24, og 26 (.load 34 (some 2) (tm 6)) 25 false, og 27 (.load 34 (some 2) (tm 7)) 25 false, og 28 (.load 34 (some 2) (tm 5)) 25 false, og 29 (.call 83 [(tm 26), (tm 27), (tm 28)] [34, 34, 34] .snap) 25 false, o1 30 (.pick (tm 25) (.const (.bool true)) (tm 29))] 0 none) []
  (.cond (tm 30)
  (.seq (.region 2 [o1 8 (.assign (.const (.bool true)))] 0 none) []
    (.ret (rl 0 8 (rl 9 44 []))))
  .skip)) (rl 8 23 [])
  A68v1))⟩
def D68 {ρ : Type} (fuel : Nat) (x1 : Int) (x2 : Int) (x3 : Int) (x4 : Int) (x5 : Int) (x6 : Int) (x7 : Int) (x8 : Int) (k : Bool → Option ρ) : Option ρ :=
  (ob (F83 fuel x1 x2 x3 x4 x5 x6) fun x9 => (bif (x9 == false) then (ob (F83 fuel x1 x2 x3 x4 x7 x8) fun x10 => (bif (x10 == false) then (ob (F83 fuel x5 x6 x7 x8 x1 x2) fun x11 => (bif (x11 == false) then (ob (F83 fuel x5 x6 x7 x8 x3 x4) fun x12 => (bif x12 then (k true) else (ob (F84 fuel x1 x2 x3 x4 x5 x6) fun x13 => (ob (F84 fuel x1 x2 x3 x4 x7 x8) fun x14 => (bif ((decide ((w64 (x13 * x14)) < 0)) == true) then (ob (F84 fuel x5 x6 x7 x8 x1 x2) fun x15 => (ob (F84 fuel x5 x6 x7 x8 x3 x4) fun x16 => (k (decide ((w64 (x15 * x16)) < 0))))) else (k false)))))) else (k true))) else (k true))) else (k true)))
def F68 (fuel : Nat) (x1 : Int) (x2 : Int) (x3 : Int) (x4 : Int) (x5 : Int) (x6 : Int) (x7 : Int) (x8 : Int) : Option (Bool) := D68 fuel x1 x2 x3 x4 x5 x6 x7 x8 some
theorem n68 {ρ σ : Type} (fuel : Nat) (x1 : Int) (x2 : Int) (x3 : Int) (x4 : Int) (x5 : Int) (x6 : Int) (x7 : Int) (x8 : Int) (k : (Bool) → Option ρ) (g : ρ → Option σ) : ob (D68 fuel x1 x2 x3 x4 x5 x6 x7 x8 k) g = D68 fuel x1 x2 x3 x4 x5 x6 x7 x8 fun t => ob (k t) g := by
  simp only [D68, ob_bif, ob_ob, ob_none]
theorem f68 {ρ : Type} (fuel : Nat) (x1 : Int) (x2 : Int) (x3 : Int) (x4 : Int) (x5 : Int) (x6 : Int) (x7 : Int) (x8 : Int) (k : (Bool) → Option ρ) : D68 fuel x1 x2 x3 x4 x5 x6 x7 x8 k = ob (F68 fuel x1 x2 x3 x4 x5 x6 x7 x8) k := by
  unfold F68
  rw [n68]
  simp only [ob_some]
theorem walk68 (fuel : Nat) (x1 : Int) (x2 : Int) (x3 : Int) (x4 : Int) (x5 : Int) (x6 : Int) (x7 : Int) (x8 : Int) :
    evalF (C38 fuel) fuel A68 [.agg [(.i .i64 x1), (.i .i64 x2)], .agg [(.i .i64 x3), (.i .i64 x4)], .agg [(.i .i64 x5), (.i .i64 x6)], .agg [(.i .i64 x7), (.i .i64 x8)]] =
    (ob (F83 fuel x1 x2 x3 x4 x5 x6) fun x9 => (bif (x9 == false) then (ob (F83 fuel x1 x2 x3 x4 x7 x8) fun x10 => (bif (x10 == false) then (ob (F83 fuel x5 x6 x7 x8 x1 x2) fun x11 => (bif (x11 == false) then (ob (F83 fuel x5 x6 x7 x8 x3 x4) fun x12 => (bif x12 then (some [.v (.b true)]) else (ob (F84 fuel x1 x2 x3 x4 x5 x6) fun x13 => (ob (F84 fuel x1 x2 x3 x4 x7 x8) fun x14 => (bif ((decide ((w64 (x13 * x14)) < 0)) == true) then (ob (F84 fuel x5 x6 x7 x8 x1 x2) fun x15 => (ob (F84 fuel x5 x6 x7 x8 x3 x4) fun x16 => (some [.v (.b (decide ((w64 (x15 * x16)) < 0)))]))) else (some [.v (.b false)])))))) else (some [.v (.b true)]))) else (some [.v (.b true)]))) else (some [.v (.b true)]))) := by kernel_rfl
theorem e68 (fuel : Nat) (x1 : Int) (x2 : Int) (x3 : Int) (x4 : Int) (x5 : Int) (x6 : Int) (x7 : Int) (x8 : Int) : evalF (C38 fuel) fuel A68 [.agg [(.i .i64 x1), (.i .i64 x2)], .agg [(.i .i64 x3), (.i .i64 x4)], .agg [(.i .i64 x5), (.i .i64 x6)], .agg [(.i .i64 x7), (.i .i64 x8)]] = ob (F68 fuel x1 x2 x3 x4 x5 x6 x7 x8) fun t => some [.v (.b t)] := by
  rw [walk68, ← f68]
  simp only [D68]
def O68 (fuel : Nat) : Ora where
  o := fun args {ρ} K =>
    wc args fun a1 l2 =>
    wagg a1 fun l3 =>
    wc l3 fun c4 l5 =>
    wI .i64 c4 fun y6 =>
    wc l5 fun c8 l9 =>
    wI .i64 c8 fun y10 =>
    wn l9 <|
    wc l2 fun a12 l13 =>
    wagg a12 fun l14 =>
    wc l14 fun c15 l16 =>
    wI .i64 c15 fun y17 =>
    wc l16 fun c19 l20 =>
    wI .i64 c19 fun y21 =>
    wn l20 <|
    wc l13 fun a23 l24 =>
    wagg a23 fun l25 =>
    wc l25 fun c26 l27 =>
    wI .i64 c26 fun y28 =>
    wc l27 fun c30 l31 =>
    wI .i64 c30 fun y32 =>
    wn l31 <|
    wc l24 fun a34 l35 =>
    wagg a34 fun l36 =>
    wc l36 fun c37 l38 =>
    wI .i64 c37 fun y39 =>
    wc l38 fun c41 l42 =>
    wI .i64 c41 fun y43 =>
    wn l42 <|
    wn l35 <|
    (ob (F68 fuel y6 y10 y17 y21 y28 y32 y39 y43) fun t => K [.v (.b t)])
  nat := fun args {ρ} K => by
    simp only [bind_wc, bind_wn, bind_wv, bind_wagg, bind_wI, bind_wB, bind_wS, bind_wL, bind_wP, bind_wFn, bind_ob, Option.bind_some]
theorem d68 {P : Program} (fuel : Nat) (hmix : P.follows .mixedOrders = true) (hC : Sound P (C38 fuel)) (hF : FFits P 68 A68) (args res : List A) (h : (O68 fuel).o args some = some res) : Den P 68 args res := by
  obtain ⟨a1, l2, rfl, z0⟩ := inv_wc h
  obtain ⟨l3, rfl, z1⟩ := inv_wagg z0
  obtain ⟨c4, l5, rfl, z2⟩ := inv_wc z1
  obtain ⟨y6, h7, z3⟩ := inv_wI z2
  obtain ⟨c8, l9, rfl, z4⟩ := inv_wc z3
  obtain ⟨y10, h11, z5⟩ := inv_wI z4
  obtain ⟨hn, z6⟩ := inv_wn z5
  cases hn
  obtain ⟨a12, l13, rfl, z7⟩ := inv_wc z6
  obtain ⟨l14, rfl, z8⟩ := inv_wagg z7
  obtain ⟨c15, l16, rfl, z9⟩ := inv_wc z8
  obtain ⟨y17, h18, z10⟩ := inv_wI z9
  obtain ⟨c19, l20, rfl, z11⟩ := inv_wc z10
  obtain ⟨y21, h22, z12⟩ := inv_wI z11
  obtain ⟨hn, z13⟩ := inv_wn z12
  cases hn
  obtain ⟨a23, l24, rfl, z14⟩ := inv_wc z13
  obtain ⟨l25, rfl, z15⟩ := inv_wagg z14
  obtain ⟨c26, l27, rfl, z16⟩ := inv_wc z15
  obtain ⟨y28, h29, z17⟩ := inv_wI z16
  obtain ⟨c30, l31, rfl, z18⟩ := inv_wc z17
  obtain ⟨y32, h33, z19⟩ := inv_wI z18
  obtain ⟨hn, z20⟩ := inv_wn z19
  cases hn
  obtain ⟨a34, l35, rfl, z21⟩ := inv_wc z20
  obtain ⟨l36, rfl, z22⟩ := inv_wagg z21
  obtain ⟨c37, l38, rfl, z23⟩ := inv_wc z22
  obtain ⟨y39, h40, z24⟩ := inv_wI z23
  obtain ⟨c41, l42, rfl, z25⟩ := inv_wc z24
  obtain ⟨y43, h44, z26⟩ := inv_wI z25
  obtain ⟨hn, z27⟩ := inv_wn z26
  cases hn
  obtain ⟨hn, z28⟩ := inv_wn z27
  cases hn
  exact Den.weaken (.cons (WkA.agg (.cons (Wk.i h7) (.cons (Wk.i h11) .nil))) (.cons (WkA.agg (.cons (Wk.i h18) (.cons (Wk.i h22) .nil))) (.cons (WkA.agg (.cons (Wk.i h29) (.cons (Wk.i h33) .nil))) (.cons (WkA.agg (.cons (Wk.i h40) (.cons (Wk.i h44) .nil))) .nil)))) (evalF_sound hmix hC hF ((e68 fuel y6 y10 y17 y21 y28 y32 y39 y43).trans z28))
def C39 (fuel : Nat) : Oracle := (C38 fuel).add 68 (fun _ => true) (O68 fuel)
def A39v1 : AC := (.region 6 [mv 17 6, o1 18 (.binOp .add 3 (tm 17) (ic 1) 3), o1 6 (.assign (tm 18))] 0 none)
def A39v2 : AC := (.seq (.block 3
  (.seq (.region 7 [mv 19 0, mv 20 5, o1 21 (.indexAddr 22 34 2 (tm 19) (tm 20)), o1 22 (.load 34 (some 2) (tm 21)), mv 23 0, mv 24 5, o1 25 (.binOp .add 3 (tm 24) (ic 1) 3), mv 26 0, o1 27 (.len 22 false (tm 26)), o1 28 (.binOp .rem 3 (tm 25) (tm 27) 3), o1 29 (.indexAddr 22 34 2 (tm 23) (tm 28)), o1 30 (.load 34 (some 2) (tm 29)), mv 31 1, mv 32 6, o1 33 (.indexAddr 22 34 2 (tm 31) (tm 32)), o1 34 (.load 34 (some 2) (tm 33)), mv 35 1, mv 36 6, o1 37 (.binOp .add 3 (tm 36) (ic 1) 3), mv 38 1, o1 39 (.len 22 false (tm 38)), o1 40 (.binOp .rem 3 (tm 37) (tm 39) 3), o1 41 (.indexAddr 22 34 2 (tm 35) (tm 40)), o1 42 (.load 34 (some 2) (tm 41)), o1 43 (.call 68 [(tm 22), (tm 30), (tm 34), (tm 42)] [34, 34, 34, 34] .snap)] 0 (some [[], [], [0, 1], [0, 1, 2], [], [], [5], [], [7], (rl 5 4 []), (rl 4 6 []), (rl 4 7 []), [], [], [12, 13], [12, 13, 14], [], [], [17], [], [19], (rl 17 4 []), (rl 16 6 []), (rl 16 7 []), (rl 0 24 [])])) []
    (.cond (tm 43)
    (.seq (.region 8 [o1 4 (.assign (.const (.bool true)))] 0 none) []
      (.ret (rl 0 4 (rl 5 39 []))))
    .skip))) (4 :: (rl 19 25 []))
  A39v1)
def A39v3 : AC := (.seq (.seq (.region 5 [mv 13 6, mv 14 1, o1 15 (.len 22 false (tm 14)), o1 16 (.binOp .lss 3 (tm 13) (tm 15) 3)] 0 none) []
  (.cond (tm 16)
  .skip
  (.exit 2 (2 :: 3 :: 4 :: (rl 6 38 []))))) (rl 13 4 [])
  A39v2)
def A39v4 : AC := (.region 3 [mv 11 5, o1 12 (.binOp .add 3 (tm 11) (ic 1) 3), o1 5 (.assign (tm 12))] 0 none)
def A39v5 : AC := (.seq (.block 1
  (.seq (.region 4 [o1 6 (.assign (ic 0))] 0 none) []
    (.block 2
    (.loop [] (2 :: 3 :: 4 :: (rl 7 37 []))
      A39v3)))) (4 :: 6 :: (rl 13 31 []))
  A39v4)
def A39v6 : AC := (.seq (.seq (.region 2 [mv 7 5, mv 8 0, o1 9 (.len 22 false (tm 8)), o1 10 (.binOp .lss 3 (tm 7) (tm 9) 3)] 0 none) []
  (.cond (tm 10)
  .skip
  (.exit 0 (rl 0 44 [])))) (rl 7 4 [])
  A39v5)
def A39v7 : AC := (.seq (.region 9 [o1 4 (.assign (.const (.bool false)))] 0 none) []
  (.ret (rl 0 4 (rl 5 39 []))))
def A39 : AF := ⟨44, [.tmp 4],
  (.seq (.region 0 [o1 4 (.assign (.const (.bool false)))] 0 none) []
  (.seq (.seq (.region 1 [o1 5 (.assign (ic 0))] 0 none) []
  (.block 0
  (.loop [] (2 :: 3 :: 4 :: (rl 6 38 []))
    A39v6))) (rl 4 40 [])
  A39v7))⟩
def B39v2 (C : Oracle) (fuel : Nat) {ρ : Type} : St → (Ex → St → Option ρ) → Option ρ := fun st k => evalC C fuel A39v3 st k
def N39v2 : St → Option St := fun s => s.norm (2 :: 3 :: 4 :: (rl 7 37 [])) 0
def s39v0 (x31 : Nat) (x32 : Nat → Nat → CV) (x33 : Nat) (x34 : Nat → Nat → CV) (x35 : Int) (x36 : Int) : St := ⟨(.x (.c (.ro false (.pr (.int .i64) (.pr (.int .i64) .nil)) x31 x32)) :: .x (.c (.ro false (.pr (.int .i64) (.pr (.int .i64) .nil)) x33 x34)) :: (us 3 (.x (.c (.i .i64 x35)) :: .x (.c (.i .i64 x36)) :: (us 37 [])))), []⟩
def s39v1 : St := ⟨(us 4 (.x (.c (.b true)) :: (us 39 []))), []⟩
def s39v2 (x31 : Nat) (x32 : Nat → Nat → CV) (x33 : Nat) (x34 : Nat → Nat → CV) (x35 : Int) : St := ⟨(.x (.c (.ro false (.pr (.int .i64) (.pr (.int .i64) .nil)) x31 x32)) :: .x (.c (.ro false (.pr (.int .i64) (.pr (.int .i64) .nil)) x33 x34)) :: (us 3 (.x (.c (.i .i64 x35)) :: (us 38 [])))), []⟩
def L39v2 {ρ : Type} (fuel : Nat) (x31 : Nat) (x32 : Nat → Nat → CV) (x33 : Nat) (x34 : Nat → Nat → CV) (x35 : Int) : Nat → Int → (Option ρ) → (Option ρ) → Option ρ
  | 0, _, _, _ => none
  | m + 1, x36, k0, k1 =>
    (bif (decide (x36 < (Int.ofNat x33))) then (bif (inb x35 x31) then (bif ((Int.ofNat x31) == 0) then none else (bif (inb (Int.tmod (w64 (x35 + 1)) (Int.ofNat x31)) x31) then (bif (inb x36 x33) then (bif ((Int.ofNat x33) == 0) then none else (bif (inb (Int.tmod (w64 (x36 + 1)) (Int.ofNat x33)) x33) then (ob (F68 fuel (CV.int (x32 (Int.toNat x35) 0)) (CV.int (x32 (Int.toNat x35) 1)) (CV.int (x32 (Int.toNat (Int.tmod (w64 (x35 + 1)) (Int.ofNat x31))) 0)) (CV.int (x32 (Int.toNat (Int.tmod (w64 (x35 + 1)) (Int.ofNat x31))) 1)) (CV.int (x34 (Int.toNat x36) 0)) (CV.int (x34 (Int.toNat x36) 1)) (CV.int (x34 (Int.toNat (Int.tmod (w64 (x36 + 1)) (Int.ofNat x33))) 0)) (CV.int (x34 (Int.toNat (Int.tmod (w64 (x36 + 1)) (Int.ofNat x33))) 1))) fun x37 => (bif x37 then k0 else (L39v2 fuel x31 x32 x33 x34 x35 m (w64 (x36 + 1)) k0 k1))) else none)) else none) else none)) else none) else k1)
theorem nl39v2 {ρ σ : Type} (fuel : Nat) (x31 : Nat) (x32 : Nat → Nat → CV) (x33 : Nat) (x34 : Nat → Nat → CV) (x35 : Int) (g : ρ → Option σ) : ∀ (m : Nat) (x36 : Int) (k0 : Option ρ) (k1 : Option ρ), ob (L39v2 fuel x31 x32 x33 x34 x35 m x36 k0 k1) g = L39v2 fuel x31 x32 x33 x34 x35 m x36 (ob k0 g) (ob k1 g)
  | 0, _, _, _ => rfl
  | m + 1, x36, k0, k1 => by
    simp only [L39v2, ob_bif, ob_ob, ob_none, nl39v2 fuel x31 x32 x33 x34 x35 g m]
theorem r39v2 (fuel : Nat) (m : Nat) {ρ : Type} (k : Ex → St → Option ρ) (x31 : Nat) (x32 : Nat → Nat → CV) (x33 : Nat) (x34 : Nat → Nat → CV) (x35 : Int) (x36 : Int) :
    loopH (B39v2 (C39 fuel) fuel) N39v2 (m + 1) (s39v0 x31 x32 x33 x34 x35 x36) k =
    (bif (decide (x36 < (Int.ofNat x33))) then (bif (inb x35 x31) then (bif ((Int.ofNat x31) == 0) then none else (bif (inb (Int.tmod (w64 (x35 + 1)) (Int.ofNat x31)) x31) then (bif (inb x36 x33) then (bif ((Int.ofNat x33) == 0) then none else (bif (inb (Int.tmod (w64 (x36 + 1)) (Int.ofNat x33)) x33) then (ob (F68 fuel (CV.int (x32 (Int.toNat x35) 0)) (CV.int (x32 (Int.toNat x35) 1)) (CV.int (x32 (Int.toNat (Int.tmod (w64 (x35 + 1)) (Int.ofNat x31))) 0)) (CV.int (x32 (Int.toNat (Int.tmod (w64 (x35 + 1)) (Int.ofNat x31))) 1)) (CV.int (x34 (Int.toNat x36) 0)) (CV.int (x34 (Int.toNat x36) 1)) (CV.int (x34 (Int.toNat (Int.tmod (w64 (x36 + 1)) (Int.ofNat x33))) 0)) (CV.int (x34 (Int.toNat (Int.tmod (w64 (x36 + 1)) (Int.ofNat x33))) 1))) fun x37 => (bif x37 then (k .ret s39v1) else (loopH (B39v2 (C39 fuel) fuel) N39v2 m (s39v0 x31 x32 x33 x34 x35 (w64 (x36 + 1))) k))) else none)) else none) else none)) else none) else (k (.exit 2) (s39v2 x31 x32 x33 x34 x35))) := by kernel_rfl
theorem q39v2 (fuel : Nat) (x31 : Nat) (x32 : Nat → Nat → CV) (x33 : Nat) (x34 : Nat → Nat → CV) (x35 : Int) {ρ : Type} (k : Ex → St → Option ρ) : ∀ (m : Nat) (x36 : Int),
    loopH (B39v2 (C39 fuel) fuel) N39v2 m (s39v0 x31 x32 x33 x34 x35 x36) k = L39v2 fuel x31 x32 x33 x34 x35 m x36 (k .ret s39v1) (k (.exit 2) (s39v2 x31 x32 x33 x34 x35))
  | 0, _ => rfl
  | m + 1, x36 => by
    rw [r39v2]
    simp only [L39v2, q39v2 fuel x31 x32 x33 x34 x35 k m]
def B39v3 (C : Oracle) (fuel : Nat) {ρ : Type} : St → (Ex → St → Option ρ) → Option ρ := fun st k => evalC C fuel A39v6 st k
def N39v3 : St → Option St := fun s => s.norm (2 :: 3 :: 4 :: (rl 6 38 [])) 0
def s39v3 (x20 : Nat) (x21 : Nat → Nat → CV) (x22 : Nat) (x23 : Nat → Nat → CV) (x24 : Int) : St := ⟨(.x (.c (.ro false (.pr (.int .i64) (.pr (.int .i64) .nil)) x20 x21)) :: .x (.c (.ro false (.pr (.int .i64) (.pr (.int .i64) .nil)) x22 x23)) :: (us 3 (.x (.c (.i .i64 x24)) :: (us 38 [])))), []⟩
def s39v4 : St := ⟨(us 44 []), []⟩
def L39v3 {ρ : Type} (fuel : Nat) (x20 : Nat) (x21 : Nat → Nat → CV) (x22 : Nat) (x23 : Nat → Nat → CV) : Nat → Int → (Option ρ) → (Option ρ) → Option ρ
  | 0, _, _, _ => none
  | m + 1, x24, k0, k1 =>
    (bif (decide (x24 < (Int.ofNat x20))) then (L39v2 fuel x20 x21 x22 x23 x24 fuel 0
    k0
    (L39v3 fuel x20 x21 x22 x23 m (w64 (x24 + 1)) k0 k1)) else k1)
theorem nl39v3 {ρ σ : Type} (fuel : Nat) (x20 : Nat) (x21 : Nat → Nat → CV) (x22 : Nat) (x23 : Nat → Nat → CV) (g : ρ → Option σ) : ∀ (m : Nat) (x24 : Int) (k0 : Option ρ) (k1 : Option ρ), ob (L39v3 fuel x20 x21 x22 x23 m x24 k0 k1) g = L39v3 fuel x20 x21 x22 x23 m x24 (ob k0 g) (ob k1 g)
  | 0, _, _, _ => rfl
  | m + 1, x24, k0, k1 => by
    simp only [L39v3, ob_bif, ob_ob, ob_none, nl39v3 fuel x20 x21 x22 x23 g m, nl39v2]
def s39v5 (x20 : Nat) (x21 : Nat → Nat → CV) (x22 : Nat) (x23 : Nat → Nat → CV) (x24 : Int) : St := ⟨(.x (.c (.ro false (.pr (.int .i64) (.pr (.int .i64) .nil)) x20 x21)) :: .x (.c (.ro false (.pr (.int .i64) (.pr (.int .i64) .nil)) x22 x23)) :: (us 3 (.x (.c (.i .i64 x24)) :: .x (.c (.i .i64 0)) :: (us 37 [])))), []⟩
theorem r39v3 (fuel : Nat) (m : Nat) {ρ : Type} (k : Ex → St → Option ρ) (x20 : Nat) (x21 : Nat → Nat → CV) (x22 : Nat) (x23 : Nat → Nat → CV) (x24 : Int) :
    loopH (B39v3 (C39 fuel) fuel) N39v3 (m + 1) (s39v3 x20 x21 x22 x23 x24) k =
    (bif (decide (x24 < (Int.ofNat x20))) then (loopN (B39v2 (C39 fuel) fuel) N39v2 fuel (s39v5 x20 x21 x22 x23 x24) (kBlk 2 (kBlk 1 (kSeq (C39 fuel) fuel (4 :: 6 :: (rl 13 31 [])) A39v4 (kLoop (B39v3 (C39 fuel) fuel) N39v3 m k))))) else (k (.exit 0) s39v4)) := by kernel_rfl
theorem t39v1 (fuel : Nat) {ρ : Type} (k : Ex → St → Option ρ) (x20 : Nat) (x21 : Nat → Nat → CV) (x22 : Nat) (x23 : Nat → Nat → CV) (x24 : Int) :
    loopN (B39v2 (C39 fuel) fuel) N39v2 fuel (s39v5 x20 x21 x22 x23 x24) k =
    L39v2 fuel x20 x21 x22 x23 x24 fuel 0 (k .ret s39v1) (k (.exit 2) (s39v2 x20 x21 x22 x23 x24)) :=
  (loopN_at (st' := (s39v0 x20 x21 x22 x23 x24 0)) (by kernel_rfl)).trans (q39v2 fuel x20 x21 x22 x23 x24 k fuel 0)
theorem g39v2 (fuel : Nat) (m : Nat) {ρ : Type} (k : Ex → St → Option ρ) :
    (kBlk 2 (kBlk 1 (kSeq (C39 fuel) fuel (4 :: 6 :: (rl 13 31 [])) A39v4 (kLoop (B39v3 (C39 fuel) fuel) N39v3 m k)))) .ret s39v1 =
    (k .ret s39v1) := by kernel_rfl
theorem g39v3 (fuel : Nat) (m : Nat) {ρ : Type} (k : Ex → St → Option ρ) (x20 : Nat) (x21 : Nat → Nat → CV) (x22 : Nat) (x23 : Nat → Nat → CV) (x24 : Int) :
    (kBlk 2 (kBlk 1 (kSeq (C39 fuel) fuel (4 :: 6 :: (rl 13 31 [])) A39v4 (kLoop (B39v3 (C39 fuel) fuel) N39v3 m k)))) (.exit 2) (s39v2 x20 x21 x22 x23 x24) =
    (loopH (B39v3 (C39 fuel) fuel) N39v3 m (s39v3 x20 x21 x22 x23 (w64 (x24 + 1))) k) := by kernel_rfl
theorem q39v3 (fuel : Nat) (x20 : Nat) (x21 : Nat → Nat → CV) (x22 : Nat) (x23 : Nat → Nat → CV) {ρ : Type} (k : Ex → St → Option ρ) : ∀ (m : Nat) (x24 : Int),
    loopH (B39v3 (C39 fuel) fuel) N39v3 m (s39v3 x20 x21 x22 x23 x24) k = L39v3 fuel x20 x21 x22 x23 m x24 (k .ret s39v1) (k (.exit 0) s39v4)
  | 0, _ => rfl
  | m + 1, x24 => by
    rw [r39v3]
    simp only [L39v3, q39v3 fuel x20 x21 x22 x23 k m, t39v1, g39v2, g39v3]
def D39 {ρ : Type} (fuel : Nat) (x1 : Nat) (x2 : Nat → Nat → CV) (x3 : Nat) (x4 : Nat → Nat → CV) (k : Bool → Option ρ) : Option ρ :=
  (L39v3 fuel x1 x2 x3 x4 fuel 0
    (k true)
    (k false))
def F39 (fuel : Nat) (x1 : Nat) (x2 : Nat → Nat → CV) (x3 : Nat) (x4 : Nat → Nat → CV) : Option (Bool) := D39 fuel x1 x2 x3 x4 some
theorem n39 {ρ σ : Type} (fuel : Nat) (x1 : Nat) (x2 : Nat → Nat → CV) (x3 : Nat) (x4 : Nat → Nat → CV) (k : (Bool) → Option ρ) (g : ρ → Option σ) : ob (D39 fuel x1 x2 x3 x4 k) g = D39 fuel x1 x2 x3 x4 fun t => ob (k t) g := by
  simp only [D39, ob_bif, ob_ob, ob_none, nl39v3]
theorem f39 {ρ : Type} (fuel : Nat) (x1 : Nat) (x2 : Nat → Nat → CV) (x3 : Nat) (x4 : Nat → Nat → CV) (k : (Bool) → Option ρ) : D39 fuel x1 x2 x3 x4 k = ob (F39 fuel x1 x2 x3 x4) k := by
  unfold F39
  rw [n39]
  simp only [ob_some]
def s39v6 (x1 : Nat) (x2 : Nat → Nat → CV) (x3 : Nat) (x4 : Nat → Nat → CV) : St := ⟨[.x (.c (.ro false (.pr (.int .i64) (.pr (.int .i64) .nil)) x1 x2)), .x (.c (.ro false (.pr (.int .i64) (.pr (.int .i64) .nil)) x3 x4)), .undef, .undef, .x (.c (.b false)), .x (.c (.i .i64 0)), .undef, .undef, .undef, .undef, .undef, .undef, .undef, .undef, .undef, .undef, .undef, .undef, .undef, .undef, .undef, .undef, .undef, .undef, .undef, .undef, .undef, .undef, .undef, .undef, .undef, .undef, .undef, .undef, .undef, .undef, .undef, .undef, .undef, .undef, .undef, .undef, .undef, .undef], []⟩
theorem walk39 (fuel : Nat) (x1 : Nat) (x2 : Nat → Nat → CV) (x3 : Nat) (x4 : Nat → Nat → CV) :
    evalF (C39 fuel) fuel A39 [.v (.ro false (.pr (.int .i64) (.pr (.int .i64) .nil)) x1 x2), .v (.ro false (.pr (.int .i64) (.pr (.int .i64) .nil)) x3 x4)] =
    (loopN (B39v3 (C39 fuel) fuel) N39v3 fuel (s39v6 x1 x2 x3 x4) (kBlk 0 (kSeq (C39 fuel) fuel (rl 4 40 []) A39v7 (finish A39)))) := by kernel_rfl
theorem t39v4 (fuel : Nat) {ρ : Type} (k : Ex → St → Option ρ) (x1 : Nat) (x2 : Nat → Nat → CV) (x3 : Nat) (x4 : Nat → Nat → CV) :
    loopN (B39v3 (C39 fuel) fuel) N39v3 fuel (s39v6 x1 x2 x3 x4) k =
    L39v3 fuel x1 x2 x3 x4 fuel 0 (k .ret s39v1) (k (.exit 0) s39v4) :=
  (loopN_at (st' := (s39v3 x1 x2 x3 x4 0)) (by kernel_rfl)).trans (q39v3 fuel x1 x2 x3 x4 k fuel 0)
theorem g39v5 (fuel : Nat) :
    (kBlk 0 (kSeq (C39 fuel) fuel (rl 4 40 []) A39v7 (finish A39))) .ret s39v1 =
    (some [.v (.b true)]) := by kernel_rfl
theorem g39v6 (fuel : Nat) :
    (kBlk 0 (kSeq (C39 fuel) fuel (rl 4 40 []) A39v7 (finish A39))) (.exit 0) s39v4 =
    (some [.v (.b false)]) := by kernel_rfl
theorem e39 (fuel : Nat) (x1 : Nat) (x2 : Nat → Nat → CV) (x3 : Nat) (x4 : Nat → Nat → CV) : evalF (C39 fuel) fuel A39 [.v (.ro false (.pr (.int .i64) (.pr (.int .i64) .nil)) x1 x2), .v (.ro false (.pr (.int .i64) (.pr (.int .i64) .nil)) x3 x4)] = ob (F39 fuel x1 x2 x3 x4) fun t => some [.v (.b t)] := by
  rw [walk39, ← f39]
  simp only [D39, t39v4, g39v5, g39v6]
def O39 (fuel : Nat) : Ora where
  o := fun args {ρ} K =>
    wc args fun a1 l2 =>
    wv a1 fun c3 =>
    wL (.pr (.int .i64) (.pr (.int .i64) .nil)) c3 fun y4 y5 =>
    wc l2 fun a7 l8 =>
    wv a7 fun c9 =>
    wL (.pr (.int .i64) (.pr (.int .i64) .nil)) c9 fun y10 y11 =>
    wn l8 <|
    (ob (F39 fuel y4 y5 y10 y11) fun t => K [.v (.b t)])
  nat := fun args {ρ} K => by
    simp only [bind_wc, bind_wn, bind_wv, bind_wagg, bind_wI, bind_wB, bind_wS, bind_wL, bind_wP, bind_wFn, bind_ob, Option.bind_some]
theorem d39 {P : Program} (fuel : Nat) (hmix : P.follows .mixedOrders = true) (hC : Sound P (C39 fuel)) (hF : FFits P 39 A39) (args res : List A) (h : (O39 fuel).o args some = some res) : Den P 39 args res := by
  obtain ⟨a1, l2, rfl, z0⟩ := inv_wc h
  obtain ⟨c3, rfl, z1⟩ := inv_wv z0
  obtain ⟨y4, y5, h6, z2⟩ := inv_wL z1
  obtain ⟨a7, l8, rfl, z3⟩ := inv_wc z2
  obtain ⟨c9, rfl, z4⟩ := inv_wv z3
  obtain ⟨y10, y11, h12, z5⟩ := inv_wL z4
  obtain ⟨hn, z6⟩ := inv_wn z5
  cases hn
  exact Den.weaken (.cons (WkA.v h6) (.cons (WkA.v h12) .nil)) (evalF_sound hmix hC hF ((e39 fuel y4 y5 y10 y11).trans z6))
def C40 (fuel : Nat) : Oracle := (C39 fuel).add 39 (fun _ => true) (O39 fuel)
def A40v1 : AC := (.seq (.region 10 [o1 41 (.fieldAddr 34 (tm 7) 1 1), o1 42 (.load 3 none (tm 41)), o1 43 (.fieldAddr 34 (tm 3) 1 1), o1 44 (.load 3 none (tm 43)), o1 45 (.binOp .leq 3 (tm 42) (tm 44) 3), mv 46 45, og 47 (.fieldAddr 34 (tm 3) 1 1) 46 true, og 48 (.load 3 none (tm 47)) 46 true, og 49 (.fieldAddr 34 (tm 8) 1 1) 46 true, og 50 (.load 3 none (tm 49)) 46 true, og 51 (.binOp .lss 3 (tm 48) (tm 50) 3) 46 true, o1 52 (.pick (tm 46) (tm 51) (.const (.bool false))), mv 53 52, og 54 (.load 34 (some 2) (tm 7)) 53 true, og 55 (.load 34 (some 2) (tm 8)) 53 true, og 56 (.load 34 (some 2) (tm 3)) 53 true, og 57 (.call 71 [(tm 54), (tm 55), (tm 56)] [34, 34, 34] .snap) 53 true, og 58 (.binOp .gtr 3 (tm 57) (ic 0) 3) 53 true, o1 59 (.pick (tm 53) (tm 58) (.const (.bool false))), o1 9 (.assign (tm 59))] 0 none) []
  (.seq (.region 11 [o1 60 (.fieldAddr 34 (tm 8) 1 1), o1 61 (.load 3 none (tm 60)), o1 62 (.fieldAddr 34 (tm 3) 1 1), o1 63 (.load 3 none (tm 62)), o1 64 (.binOp .leq 3 (tm 61) (tm 63) 3), mv 65 64, og 66 (.fieldAddr 34 (tm 3) 1 1) 65 true, og 67 (.load 3 none (tm 66)) 65 true, og 68 (.fieldAddr 34 (tm 7) 1 1) 65 true, og 69 (.load 3 none (tm 68)) 65 true, og 70 (.binOp .lss 3 (tm 67) (tm 69) 3) 65 true, o1 71 (.pick (tm 65) (tm 70) (.const (.bool false))), mv 72 71, og 73 (.load 34 (some 2) (tm 7)) 72 true, og 74 (.load 34 (some 2) (tm 8)) 72 true, og 75 (.load 34 (some 2) (tm 3)) 72 true, og 76 (.call 71 [(tm 73), (tm 74), (tm 75)] [34, 34, 34] .snap) 72 true, og 77 (.binOp .lss 3 (tm 76) (ic 0) 3) 72 true, o1 78 (.pick (tm 72) (tm 77) (.const (.bool false))), o1 10 (.assign (tm 78))] 0 none) []
  (.seq (.region 12 [mv 79 9, mv 80 79, og 81 (.move (tm 10)) 80 false, o1 82 (.pick (tm 80) (.const (.bool true)) (tm 81))] 0 none) []
  (.cond (tm 82)
  (.region 13 [mv 83 5, o1 84 (.unOp .not 4 (tm 83)), o1 5 (.assign (tm 84))] 0 none)
  .skip))))
def A40v2 : AC := (.region 6 [mv 23 6, o1 24 (.binOp .add 3 (tm 23) (ic 1) 3), o1 6 (.assign (tm 24))] 0 none)
def A40v3 : AC := (.seq (.block 1
  (.seq (.region 7 [mv 25 0, mv 26 6, o1 27 (.indexAddr 22 34 2 (tm 25) (tm 26)), o1 28 (.load 34 (some 2) (tm 27)), mv 29 0, mv 30 6, o1 31 (.binOp .add 3 (tm 30) (ic 1) 3), mv 32 0, o1 33 (.len 22 false (tm 32)), o1 34 (.binOp .rem 3 (tm 31) (tm 33) 3), o1 35 (.indexAddr 22 34 2 (tm 29) (tm 34)), o1 36 (.load 34 (some 2) (tm 35)), o1 7 (.alloc 0 34 [.c (.i .i64 0), .c (.i .i64 0)]), o1 8 (.alloc 1 34 [.c (.i .i64 0), .c (.i .i64 0)]), o0 (.store 34 2 (tm 7) (tm 28)), o0 (.store 34 2 (tm 8) (tm 36))] 2 (some [[], [], [0, 1], [0, 1, 2], [], [], [5], [], [7], (rl 5 4 []), (rl 4 6 []), (rl 4 7 []), [], [], (rl 0 4 [12, 13]), (rl 0 15 [])])) []
    (.seq (.seq (.region 8 [o1 37 (.load 34 (some 2) (tm 3)), o1 38 (.load 34 (some 2) (tm 7)), o1 39 (.load 34 (some 2) (tm 8)), o1 40 (.call 70 [(tm 37), (tm 38), (tm 39)] [34, 34, 34] .snap)] 0 none) []
    (.cond (tm 40)
    (.seq (.region 9 [o1 4 (.assign (ic 0))] 0 none) []
      (.ret (rl 0 4 (rl 5 81 []))))
    .skip)) (4 :: (rl 37 4 []))
    A40v1))) (4 :: (rl 7 4 (rl 25 60 [])))
  A40v2)
def A40v4 : AC := (.seq (.seq (.region 5 [mv 19 6, mv 20 0, o1 21 (.len 22 false (tm 20)), o1 22 (.binOp .lss 3 (tm 19) (tm 21) 3)] 0 none) []
  (.cond (tm 22)
  .skip
  (.exit 0 (rl 0 5 (rl 6 80 []))))) (rl 19 4 [])
  A40v3)
def A40v5 : AC := (.seq (.region 16 [o1 4 (.assign (ic (-1)))] 0 none) []
  (.ret (rl 0 4 (rl 5 81 []))))
def A40v6 : AC := (.seq (.seq (.region 14 [mv 85 5] 0 none) []
  (.cond (tm 85)
  (.seq (.region 15 [o1 4 (.assign (ic 1))] 0 none) []
    (.ret (rl 0 4 (rl 5 81 []))))
  .skip)) [4, 85]
  A40v5)
def A40v7 : AC := (.seq (.region 3 [o1 5 (.assign (.const (.bool false)))] 0 none) []
  (.seq (.seq (.region 4 [o1 6 (.assign (ic 0))] 0 none) []
  (.block 0
  (.loop [] (1 :: 2 :: 4 :: (rl 7 79 []))
    A40v4))) (4 :: (rl 6 5 (rl 19 66 [])))
  A40v6))
def A40 : AF := ⟨86, [.tmp 4],
  (.seq (.region 0 [o1 3 (.box 0 34 (tm 1)), o1 4 (.assign (ic 0))] 1 none) []
  (.seq (.seq (.region 1 [mv 11 0, o1 12 (.call 37 [(tm 11)] [22] .snap), o1 13 (.binOp .neq 27 (tm 12) (ic 0) 27), mv 14 13, og 15 (.load 34 (some 2) (tm 3)) 14 false, og 16 (.call 69 [(tm 15)] [34] .snap) 14 false, og 17 (.unOp .not 4 (tm 16)) 14 false, o1 18 (.pick (tm 14) (.const (.bool true)) (tm 17))] 0 none) []
  (.cond (tm 18)
  (.seq (.region 2 [o1 4 (.assign (ic (-1)))] 0 none) []
    (.ret (rl 0 4 (rl 5 81 []))))
  .skip)) (4 :: (rl 11 8 []))
  A40v7))⟩
def B40v1 (C : Oracle) (fuel : Nat) {ρ : Type} : St → (Ex → St → Option ρ) → Option ρ := fun st k => evalC C fuel A40v4 st k
def N40v1 : St → Option St := fun s => s.norm (1 :: 2 :: 4 :: (rl 7 79 [])) 1
def s40v0 (x16 : Nat) (x17 : Nat → Nat → CV) (x18 : Bool) (x19 : Int) (x20 : Int) (x21 : Int) : St := ⟨(.x (.c (.ro false (.pr (.int .i64) (.pr (.int .i64) .nil)) x16 x17)) :: .u :: .u :: .x (.ptr 0 0) :: .u :: .x (.c (.b x18)) :: .x (.c (.i .i64 x19)) :: (us 79 [])), [.box [(.c (.i .i64 x20)), (.c (.i .i64 x21))]]⟩
def s40v1 (x20 : Int) (x21 : Int) (x27 : Int) (x28 : Int) (x29 : Int) (x30 : Int) : St := ⟨(us 4 (.x (.c (.i .i64 0)) :: (us 81 []))), [.box [(.c (.i .i64 x20)), (.c (.i .i64 x21))], .box [(.c (.i .i64 x27)), (.c (.i .i64 x28))], .box [(.c (.i .i64 x29)), (.c (.i .i64 x30))]]⟩
def s40v2 (x31 : Bool) (x20 : Int) (x21 : Int) : St := ⟨(us 5 (.x (.c (.b x31)) :: (us 80 []))), [.box [(.c (.i .i64 x20)), (.c (.i .i64 x21))]]⟩
def L40v1 {ρ : Type} (fuel : Nat) (x16 : Nat) (x17 : Nat → Nat → CV) (x20 : Int) (x21 : Int) : Nat → Bool → Int → (Int → Int → Int → Int → Option ρ) → (Bool → Option ρ) → Option ρ
  | 0, _, _, _, _ => none
  | m + 1, x18, x19, k0, k1 =>
    (bif (decide (x19 < (Int.ofNat x16))) then (bif (inb x19 x16) then (bif ((Int.ofNat x16) == 0) then none else (bif (inb (Int.tmod (w64 (x19 + 1)) (Int.ofNat x16)) x16) then (ob (F70 fuel x20 x21 (CV.int (x17 (Int.toNat x19) 0)) (CV.int (x17 (Int.toNat x19) 1)) (CV.int (x17 (Int.toNat (Int.tmod (w64 (x19 + 1)) (Int.ofNat x16))) 0)) (CV.int (x17 (Int.toNat (Int.tmod (w64 (x19 + 1)) (Int.ofNat x16))) 1))) fun x22 => (bif x22 then (k0 (CV.int (x17 (Int.toNat x19) 0)) (CV.int (x17 (Int.toNat x19) 1)) (CV.int (x17 (Int.toNat (Int.tmod (w64 (x19 + 1)) (Int.ofNat x16))) 0)) (CV.int (x17 (Int.toNat (Int.tmod (w64 (x19 + 1)) (Int.ofNat x16))) 1))) else (bif ((decide ((CV.int (x17 (Int.toNat x19) 1)) ≤ x21)) == true) then (bif ((decide (x21 < (CV.int (x17 (Int.toNat (Int.tmod (w64 (x19 + 1)) (Int.ofNat x16))) 1)))) == true) then (ob (F71 fuel (CV.int (x17 (Int.toNat x19) 0)) (CV.int (x17 (Int.toNat x19) 1)) (CV.int (x17 (Int.toNat (Int.tmod (w64 (x19 + 1)) (Int.ofNat x16))) 0)) (CV.int (x17 (Int.toNat (Int.tmod (w64 (x19 + 1)) (Int.ofNat x16))) 1)) x20 x21) fun x23 => (bif ((decide ((CV.int (x17 (Int.toNat (Int.tmod (w64 (x19 + 1)) (Int.ofNat x16))) 1)) ≤ x21)) == true) then (bif ((decide (x21 < (CV.int (x17 (Int.toNat x19) 1)))) == true) then (ob (F71 fuel (CV.int (x17 (Int.toNat x19) 0)) (CV.int (x17 (Int.toNat x19) 1)) (CV.int (x17 (Int.toNat (Int.tmod (w64 (x19 + 1)) (Int.ofNat x16))) 0)) (CV.int (x17 (Int.toNat (Int.tmod (w64 (x19 + 1)) (Int.ofNat x16))) 1)) x20 x21) fun x24 => (bif ((decide (x23 > 0)) == false) then (bif (decide (x24 < 0)) then (L40v1 fuel x16 x17 x20 x21 m (!x18) (w64 (x19 + 1)) k0 k1) else (L40v1 fuel x16 x17 x20 x21 m x18 (w64 (x19 + 1)) k0 k1)) else (L40v1 fuel x16 x17 x20 x21 m (!x18) (w64 (x19 + 1)) k0 k1))) else (bif ((decide (x23 > 0)) == false) then (L40v1 fuel x16 x17 x20 x21 m x18 (w64 (x19 + 1)) k0 k1) else (L40v1 fuel x16 x17 x20 x21 m (!x18) (w64 (x19 + 1)) k0 k1))) else (bif ((decide (x23 > 0)) == false) then (L40v1 fuel x16 x17 x20 x21 m x18 (w64 (x19 + 1)) k0 k1) else (L40v1 fuel x16 x17 x20 x21 m (!x18) (w64 (x19 + 1)) k0 k1)))) else (bif ((decide ((CV.int (x17 (Int.toNat (Int.tmod (w64 (x19 + 1)) (Int.ofNat x16))) 1)) ≤ x21)) == true) then (bif ((decide (x21 < (CV.int (x17 (Int.toNat x19) 1)))) == true) then (ob (F71 fuel (CV.int (x17 (Int.toNat x19) 0)) (CV.int (x17 (Int.toNat x19) 1)) (CV.int (x17 (Int.toNat (Int.tmod (w64 (x19 + 1)) (Int.ofNat x16))) 0)) (CV.int (x17 (Int.toNat (Int.tmod (w64 (x19 + 1)) (Int.ofNat x16))) 1)) x20 x21) fun x25 => (bif (decide (x25 < 0)) then (L40v1 fuel x16 x17 x20 x21 m (!x18) (w64 (x19 + 1)) k0 k1) else (L40v1 fuel x16 x17 x20 x21 m x18 (w64 (x19 + 1)) k0 k1))) else (L40v1 fuel x16 x17 x20 x21 m x18 (w64 (x19 + 1)) k0 k1)) else (L40v1 fuel x16 x17 x20 x21 m x18 (w64 (x19 + 1)) k0 k1))) else (bif ((decide ((CV.int (x17 (Int.toNat (Int.tmod (w64 (x19 + 1)) (Int.ofNat x16))) 1)) ≤ x21)) == true) then (bif ((decide (x21 < (CV.int (x17 (Int.toNat x19) 1)))) == true) then (ob (F71 fuel (CV.int (x17 (Int.toNat x19) 0)) (CV.int (x17 (Int.toNat x19) 1)) (CV.int (x17 (Int.toNat (Int.tmod (w64 (x19 + 1)) (Int.ofNat x16))) 0)) (CV.int (x17 (Int.toNat (Int.tmod (w64 (x19 + 1)) (Int.ofNat x16))) 1)) x20 x21) fun x26 => (bif (decide (x26 < 0)) then (L40v1 fuel x16 x17 x20 x21 m (!x18) (w64 (x19 + 1)) k0 k1) else (L40v1 fuel x16 x17 x20 x21 m x18 (w64 (x19 + 1)) k0 k1))) else (L40v1 fuel x16 x17 x20 x21 m x18 (w64 (x19 + 1)) k0 k1)) else (L40v1 fuel x16 x17 x20 x21 m x18 (w64 (x19 + 1)) k0 k1))))) else none)) else none) else (k1 x18))
theorem nl40v1 {ρ σ : Type} (fuel : Nat) (x16 : Nat) (x17 : Nat → Nat → CV) (x20 : Int) (x21 : Int) (g : ρ → Option σ) : ∀ (m : Nat) (x18 : Bool) (x19 : Int) (k0 : Int → Int → Int → Int → Option ρ) (k1 : Bool → Option ρ), ob (L40v1 fuel x16 x17 x20 x21 m x18 x19 k0 k1) g = L40v1 fuel x16 x17 x20 x21 m x18 x19 (fun x27 x28 x29 x30 => ob (k0 x27 x28 x29 x30) g) (fun x31 => ob (k1 x31) g)
  | 0, _, _, _, _ => rfl
  | m + 1, x18, x19, k0, k1 => by
    simp only [L40v1, ob_bif, ob_ob, ob_none, nl40v1 fuel x16 x17 x20 x21 g m]
theorem r40v1 (fuel : Nat) (m : Nat) {ρ : Type} (k : Ex → St → Option ρ) (x16 : Nat) (x17 : Nat → Nat → CV) (x20 : Int) (x21 : Int) (x18 : Bool) (x19 : Int) :
    loopH (B40v1 (C40 fuel) fuel) N40v1 (m + 1) (s40v0 x16 x17 x18 x19 x20 x21) k =
    (bif (decide (x19 < (Int.ofNat x16))) then (bif (inb x19 x16) then (bif ((Int.ofNat x16) == 0) then none else (bif (inb (Int.tmod (w64 (x19 + 1)) (Int.ofNat x16)) x16) then (ob (F70 fuel x20 x21 (CV.int (x17 (Int.toNat x19) 0)) (CV.int (x17 (Int.toNat x19) 1)) (CV.int (x17 (Int.toNat (Int.tmod (w64 (x19 + 1)) (Int.ofNat x16))) 0)) (CV.int (x17 (Int.toNat (Int.tmod (w64 (x19 + 1)) (Int.ofNat x16))) 1))) fun x22 => (bif x22 then (k .ret (s40v1 x20 x21 (CV.int (x17 (Int.toNat x19) 0)) (CV.int (x17 (Int.toNat x19) 1)) (CV.int (x17 (Int.toNat (Int.tmod (w64 (x19 + 1)) (Int.ofNat x16))) 0)) (CV.int (x17 (Int.toNat (Int.tmod (w64 (x19 + 1)) (Int.ofNat x16))) 1)))) else (bif ((decide ((CV.int (x17 (Int.toNat x19) 1)) ≤ x21)) == true) then (bif ((decide (x21 < (CV.int (x17 (Int.toNat (Int.tmod (w64 (x19 + 1)) (Int.ofNat x16))) 1)))) == true) then (ob (F71 fuel (CV.int (x17 (Int.toNat x19) 0)) (CV.int (x17 (Int.toNat x19) 1)) (CV.int (x17 (Int.toNat (Int.tmod (w64 (x19 + 1)) (Int.ofNat x16))) 0)) (CV.int (x17 (Int.toNat (Int.tmod (w64 (x19 + 1)) (Int.ofNat x16))) 1)) x20 x21) fun x23 => (bif ((decide ((CV.int (x17 (Int.toNat (Int.tmod (w64 (x19 + 1)) (Int.ofNat x16))) 1)) ≤ x21)) == true) then (bif ((decide (x21 < (CV.int (x17 (Int.toNat x19) 1)))) == true) then (ob (F71 fuel (CV.int (x17 (Int.toNat x19) 0)) (CV.int (x17 (Int.toNat x19) 1)) (CV.int (x17 (Int.toNat (Int.tmod (w64 (x19 + 1)) (Int.ofNat x16))) 0)) (CV.int (x17 (Int.toNat (Int.tmod (w64 (x19 + 1)) (Int.ofNat x16))) 1)) x20 x21) fun x24 => (bif ((decide (x23 > 0)) == false) then (bif (decide (x24 < 0)) then (loopH (B40v1 (C40 fuel) fuel) N40v1 m (s40v0 x16 x17 (!x18) (w64 (x19 + 1)) x20 x21) k) else (loopH (B40v1 (C40 fuel) fuel) N40v1 m (s40v0 x16 x17 x18 (w64 (x19 + 1)) x20 x21) k)) else (loopH (B40v1 (C40 fuel) fuel) N40v1 m (s40v0 x16 x17 (!x18) (w64 (x19 + 1)) x20 x21) k))) else (bif ((decide (x23 > 0)) == false) then (loopH (B40v1 (C40 fuel) fuel) N40v1 m (s40v0 x16 x17 x18 (w64 (x19 + 1)) x20 x21) k) else (loopH (B40v1 (C40 fuel) fuel) N40v1 m (s40v0 x16 x17 (!x18) (w64 (x19 + 1)) x20 x21) k))) else (bif ((decide (x23 > 0)) == false) then (loopH (B40v1 (C40 fuel) fuel) N40v1 m (s40v0 x16 x17 x18 (w64 (x19 + 1)) x20 x21) k) else (loopH (B40v1 (C40 fuel) fuel) N40v1 m (s40v0 x16 x17 (!x18) (w64 (x19 + 1)) x20 x21) k)))) else (bif ((decide ((CV.int (x17 (Int.toNat (Int.tmod (w64 (x19 + 1)) (Int.ofNat x16))) 1)) ≤ x21)) == true) then (bif ((decide (x21 < (CV.int (x17 (Int.toNat x19) 1)))) == true) then (ob (F71 fuel (CV.int (x17 (Int.toNat x19) 0)) (CV.int (x17 (Int.toNat x19) 1)) (CV.int (x17 (Int.toNat (Int.tmod (w64 (x19 + 1)) (Int.ofNat x16))) 0)) (CV.int (x17 (Int.toNat (Int.tmod (w64 (x19 + 1)) (Int.ofNat x16))) 1)) x20 x21) fun x25 => (bif (decide (x25 < 0)) then (loopH (B40v1 (C40 fuel) fuel) N40v1 m (s40v0 x16 x17 (!x18) (w64 (x19 + 1)) x20 x21) k) else (loopH (B40v1 (C40 fuel) fuel) N40v1 m (s40v0 x16 x17 x18 (w64 (x19 + 1)) x20 x21) k))) else (loopH (B40v1 (C40 fuel) fuel) N40v1 m (s40v0 x16 x17 x18 (w64 (x19 + 1)) x20 x21) k)) else (loopH (B40v1 (C40 fuel) fuel) N40v1 m (s40v0 x16 x17 x18 (w64 (x19 + 1)) x20 x21) k))) else (bif ((decide ((CV.int (x17 (Int.toNat (Int.tmod (w64 (x19 + 1)) (Int.ofNat x16))) 1)) ≤ x21)) == true) then (bif ((decide (x21 < (CV.int (x17 (Int.toNat x19) 1)))) == true) then (ob (F71 fuel (CV.int (x17 (Int.toNat x19) 0)) (CV.int (x17 (Int.toNat x19) 1)) (CV.int (x17 (Int.toNat (Int.tmod (w64 (x19 + 1)) (Int.ofNat x16))) 0)) (CV.int (x17 (Int.toNat (Int.tmod (w64 (x19 + 1)) (Int.ofNat x16))) 1)) x20 x21) fun x26 => (bif (decide (x26 < 0)) then (loopH (B40v1 (C40 fuel) fuel) N40v1 m (s40v0 x16 x17 (!x18) (w64 (x19 + 1)) x20 x21) k) else (loopH (B40v1 (C40 fuel) fuel) N40v1 m (s40v0 x16 x17 x18 (w64 (x19 + 1)) x20 x21) k))) else (loopH (B40v1 (C40 fuel) fuel) N40v1 m (s40v0 x16 x17 x18 (w64 (x19 + 1)) x20 x21) k)) else (loopH (B40v1 (C40 fuel) fuel) N40v1 m (s40v0 x16 x17 x18 (w64 (x19 + 1)) x20 x21) k))))) else none)) else none) else (k (.exit 0) (s40v2 x18 x20 x21))) := by kernel_rfl
theorem q40v1 (fuel : Nat) (x16 : Nat) (x17 : Nat → Nat → CV) (x20 : Int) (x21 : Int) {ρ : Type} (k : Ex → St → Option ρ) : ∀ (m : Nat) (x18 : Bool) (x19 : Int),
    loopH (B40v1 (C40 fuel) fuel) N40v1 m (s40v0 x16 x17 x18 x19 x20 x21) k = L40v1 fuel x16 x17 x20 x21 m x18 x19 (fun x27 x28 x29 x30 => k .ret (s40v1 x20 x21 x27 x28 x29 x30)) (fun x31 => k (.exit 0) (s40v2 x31 x20 x21))
  | 0, _, _ => rfl
  | m + 1, x18, x19 => by
    rw [r40v1]
    simp only [L40v1, q40v1 fuel x16 x17 x20 x21 k m]
def D40 {ρ : Type} (fuel : Nat) (x1 : Nat) (x2 : Nat → Nat → CV) (x3 : Int) (x4 : Int) (k : Int → Option ρ) : Option ρ :=
  (ob (F37 fuel x1 x2) fun x5 => (bif ((x5 != 0) == false) then (ob (F69 fuel x3 x4) fun x6 => (bif (!x6) then (k (-1)) else (L40v1 fuel x1 x2 x3 x4 fuel false 0
    (fun x32 x33 x34 x35 => (k 0))
    (fun x36 => (bif x36 then (k 1) else (k (-1))))))) else (k (-1))))
def F40 (fuel : Nat) (x1 : Nat) (x2 : Nat → Nat → CV) (x3 : Int) (x4 : Int) : Option (Int) := D40 fuel x1 x2 x3 x4 some
theorem n40 {ρ σ : Type} (fuel : Nat) (x1 : Nat) (x2 : Nat → Nat → CV) (x3 : Int) (x4 : Int) (k : (Int) → Option ρ) (g : ρ → Option σ) : ob (D40 fuel x1 x2 x3 x4 k) g = D40 fuel x1 x2 x3 x4 fun t => ob (k t) g := by
  simp only [D40, ob_bif, ob_ob, ob_none, nl40v1]
theorem f40 {ρ : Type} (fuel : Nat) (x1 : Nat) (x2 : Nat → Nat → CV) (x3 : Int) (x4 : Int) (k : (Int) → Option ρ) : D40 fuel x1 x2 x3 x4 k = ob (F40 fuel x1 x2 x3 x4) k := by
  unfold F40
  rw [n40]
  simp only [ob_some]
def s40v3 (x1 : Nat) (x2 : Nat → Nat → CV) (x3 : Int) (x4 : Int) : St := ⟨(.x (.c (.ro false (.pr (.int .i64) (.pr (.int .i64) .nil)) x1 x2)) :: .agg [(.c (.i .i64 x3)), (.c (.i .i64 x4))] :: .undef :: .x (.ptr 0 0) :: .u :: .x (.c (.b false)) :: .x (.c (.i .i64 0)) :: .undef :: .undef :: .undef :: .undef :: (us 8 [.undef, .undef, .undef, .undef, .undef, .undef, .undef, .undef, .undef, .undef, .undef, .undef, .undef, .undef, .undef, .undef, .undef, .undef, .undef, .undef, .undef, .undef, .undef, .undef, .undef, .undef, .undef, .undef, .undef, .undef, .undef, .undef, .undef, .undef, .undef, .undef, .undef, .undef, .undef, .undef, .undef, .undef, .undef, .undef, .undef, .undef, .undef, .undef, .undef, .undef, .undef, .undef, .undef, .undef, .undef, .undef, .undef, .undef, .undef, .undef, .undef, .undef, .undef, .undef, .undef, .undef, .undef])), [.box [(.c (.i .i64 x3)), (.c (.i .i64 x4))]]⟩
theorem walk40 (fuel : Nat) (x1 : Nat) (x2 : Nat → Nat → CV) (x3 : Int) (x4 : Int) :
    evalF (C40 fuel) fuel A40 [.v (.ro false (.pr (.int .i64) (.pr (.int .i64) .nil)) x1 x2), .agg [(.i .i64 x3), (.i .i64 x4)]] =
    (ob (F37 fuel x1 x2) fun x5 => (bif ((x5 != 0) == false) then (ob (F69 fuel x3 x4) fun x6 => (bif (!x6) then (some [.v (.i .i64 (-1))]) else (loopN (B40v1 (C40 fuel) fuel) N40v1 fuel (s40v3 x1 x2 x3 x4) (kBlk 0 (kSeq (C40 fuel) fuel (4 :: (rl 6 5 (rl 19 66 []))) A40v6 (finish A40)))))) else (some [.v (.i .i64 (-1))]))) := by kernel_rfl
theorem t40v1 (fuel : Nat) {ρ : Type} (k : Ex → St → Option ρ) (x1 : Nat) (x2 : Nat → Nat → CV) (x3 : Int) (x4 : Int) :
    loopN (B40v1 (C40 fuel) fuel) N40v1 fuel (s40v3 x1 x2 x3 x4) k =
    L40v1 fuel x1 x2 x3 x4 fuel false 0 (fun x27 x28 x29 x30 => k .ret (s40v1 x3 x4 x27 x28 x29 x30)) (fun x31 => k (.exit 0) (s40v2 x31 x3 x4)) :=
  (loopN_at (st' := (s40v0 x1 x2 false 0 x3 x4)) (by kernel_rfl)).trans (q40v1 fuel x1 x2 x3 x4 k fuel false 0)
theorem g40v2 (fuel : Nat) (x3 : Int) (x4 : Int) (x32 : Int) (x33 : Int) (x34 : Int) (x35 : Int) :
    (kBlk 0 (kSeq (C40 fuel) fuel (4 :: (rl 6 5 (rl 19 66 []))) A40v6 (finish A40))) .ret (s40v1 x3 x4 x32 x33 x34 x35) =
    (some [.v (.i .i64 0)]) := by kernel_rfl
theorem g40v3 (fuel : Nat) (x36 : Bool) (x3 : Int) (x4 : Int) :
    (kBlk 0 (kSeq (C40 fuel) fuel (4 :: (rl 6 5 (rl 19 66 []))) A40v6 (finish A40))) (.exit 0) (s40v2 x36 x3 x4) =
    (bif x36 then (some [.v (.i .i64 1)]) else (some [.v (.i .i64 (-1))])) := by kernel_rfl
theorem e40 (fuel : Nat) (x1 : Nat) (x2 : Nat → Nat → CV) (x3 : Int) (x4 : Int) : evalF (C40 fuel) fuel A40 [.v (.ro false (.pr (.int .i64) (.pr (.int .i64) .nil)) x1 x2), .agg [(.i .i64 x3), (.i .i64 x4)]] = ob (F40 fuel x1 x2 x3 x4) fun t => some [.v (.i .i64 t)] := by
  rw [walk40, ← f40]
  simp only [D40, t40v1, g40v2, g40v3]
def O40 (fuel : Nat) : Ora where
  o := fun args {ρ} K =>
    wc args fun a1 l2 =>
    wv a1 fun c3 =>
    wL (.pr (.int .i64) (.pr (.int .i64) .nil)) c3 fun y4 y5 =>
    wc l2 fun a7 l8 =>
    wagg a7 fun l9 =>
    wc l9 fun c10 l11 =>
    wI .i64 c10 fun y12 =>
    wc l11 fun c14 l15 =>
    wI .i64 c14 fun y16 =>
    wn l15 <|
    wn l8 <|
    (ob (F40 fuel y4 y5 y12 y16) fun t => K [.v (.i .i64 t)])
  nat := fun args {ρ} K => by
    simp only [bind_wc, bind_wn, bind_wv, bind_wagg, bind_wI, bind_wB, bind_wS, bind_wL, bind_wP, bind_wFn, bind_ob, Option.bind_some]
theorem d40 {P : Program} (fuel : Nat) (hmix : P.follows .mixedOrders = true) (hC : Sound P (C40 fuel)) (hF : FFits P 40 A40) (args res : List A) (h : (O40 fuel).o args some = some res) : Den P 40 args res := by
  obtain ⟨a1, l2, rfl, z0⟩ := inv_wc h
  obtain ⟨c3, rfl, z1⟩ := inv_wv z0
  obtain ⟨y4, y5, h6, z2⟩ := inv_wL z1
  obtain ⟨a7, l8, rfl, z3⟩ := inv_wc z2
  obtain ⟨l9, rfl, z4⟩ := inv_wagg z3
  obtain ⟨c10, l11, rfl, z5⟩ := inv_wc z4
  obtain ⟨y12, h13, z6⟩ := inv_wI z5
  obtain ⟨c14, l15, rfl, z7⟩ := inv_wc z6
  obtain ⟨y16, h17, z8⟩ := inv_wI z7
  obtain ⟨hn, z9⟩ := inv_wn z8
  cases hn
  obtain ⟨hn, z10⟩ := inv_wn z9
  cases hn
  exact Den.weaken (.cons (WkA.v h6) (.cons (WkA.agg (.cons (Wk.i h13) (.cons (Wk.i h17) .nil))) .nil)) (evalF_sound hmix hC hF ((e40 fuel y4 y5 y12 y16).trans z10))
def C41 (fuel : Nat) : Oracle := (C40 fuel).add 40 (fun _ => true) (O40 fuel)
def A14v1 : AC := (.region 19 [mv 60 7, o1 61 (.binOp .add 3 (tm 60) (ic 1) 3), o1 7 (.assign (tm 61))] 0 none)
def A14v2 : AC := (.seq (.block 3
  (.seq (.region 20 [mv 62 5, o1 63 (.fieldAddr 25 (tm 1) 1 1), o1 64 (.load 23 none (tm 63)), mv 65 7, o1 66 (.indexAddr 23 22 1 (tm 64) (tm 65)), o1 67 (.load 22 none (tm 66)), o1 68 (.call 39 [(tm 62), (tm 67)] [22, 22] .snap), mv 69 68, og 70 (.move (tm 5)) 69 false, og 71 (.fieldAddr 25 (tm 1) 1 1) 69 false, og 72 (.load 23 none (tm 71)) 69 false, og 73 (.move (tm 7)) 69 false, og 74 (.indexAddr 23 22 1 (tm 72) (tm 73)) 69 false, og 75 (.load 22 none (tm 74)) 69 false, og 76 (.indexAddr 22 34 2 (tm 75) (ic 0)) 69 false, og 77 (.load 34 (some 2) (tm 76)) 69 false, og 78 (.call 40 [(tm 70), (tm 77)] [22, 34] .snap) 69 false, og 79 (.binOp .neq 3 (tm 78) (ic (-1)) 3) 69 false, o1 80 (.pick (tm 69) (.const (.bool true)) (tm 79)), mv 81 80, og 82 (.fieldAddr 25 (tm 1) 1 1) 81 false, og 83 (.load 23 none (tm 82)) 81 false, og 84 (.move (tm 7)) 81 false, og 85 (.indexAddr 23 22 1 (tm 83) (tm 84)) 81 false, og 86 (.load 22 none (tm 85)) 81 false, og 87 (.move (tm 5)) 81 false, og 88 (.indexAddr 22 34 2 (tm 87) (ic 0)) 81 false, og 89 (.load 34 (some 2) (tm 88)) 81 false, og 90 (.call 40 [(tm 86), (tm 89)] [22, 34] .snap) 81 false, og 91 (.binOp .neq 3 (tm 90) (ic (-1)) 3) 81 false, o1 92 (.pick (tm 81) (.const (.bool true)) (tm 91))] 0 (some [[], [], [1], [], [1, 2, 3], (rl 1 4 []), (rl 0 6 []), (rl 0 7 []), (rl 0 8 []), (rl 0 8 []), (rl 0 8 [9]), (rl 0 8 []), (rl 0 8 [9, 10, 11]), (rl 0 8 (rl 9 4 [])), (rl 0 8 (rl 9 5 [])), (rl 0 8 (rl 9 6 [])), (rl 0 16 []), (rl 0 17 []), (rl 0 18 []), (rl 0 19 []), (rl 0 20 []), (rl 0 21 []), (rl 0 20 []), (rl 0 23 []), (rl 0 24 []), (rl 0 20 []), (rl 0 20 [25]), (rl 0 20 [25, 26]), (rl 0 28 []), (rl 0 29 []), (rl 0 30 [])])) []
    (.cond (tm 92)
    (.seq (.region 21 [o1 2 (.assign (ic 17))] 0 none) []
      (.ret (0 :: 1 :: (rl 3 90 []))))
    .skip))) (2 :: (rl 62 31 []))
  A14v1)
def A14v3 : AC := (.seq (.seq (.region 18 [mv 57 7, mv 58 4, o1 59 (.binOp .lss 3 (tm 57) (tm 58) 3)] 0 none) []
  (.cond (tm 59)
  .skip
  (.exit 2 (0 :: 2 :: 3 :: (rl 5 88 []))))) [57, 58, 59]
  A14v2)
def A14v4 : AC := (.seq (.region 17 [o1 7 (.assign (ic 0))] 0 none) []
  (.block 2
  (.loop [] (0 :: 2 :: 3 :: 6 :: (rl 8 85 []))
    A14v3)))
def A14v5 : AC := (.seq (.seq (.region 15 [mv 39 5, o1 40 (.call 38 [(tm 39)] [22] .snap), o1 41 (.binOp .geq 3 (tm 40) (ic 0) 3), mv 42 41, og 43 (.fieldAddr 25 (tm 1) 0 0) 42 false, og 44 (.load 22 none (tm 43)) 42 false, og 45 (.move (tm 5)) 42 false, og 46 (.call 39 [(tm 44), (tm 45)] [22, 22] .snap) 42 false, o1 47 (.pick (tm 42) (.const (.bool true)) (tm 46)), mv 48 47, og 49 (.fieldAddr 25 (tm 1) 0 0) 48 false, og 50 (.load 22 none (tm 49)) 48 false, og 51 (.move (tm 5)) 48 false, og 52 (.indexAddr 22 34 2 (tm 51) (ic 0)) 48 false, og 53 (.load 34 (some 2) (tm 52)) 48 false, og 54 (.call 40 [(tm 50), (tm 53)] [22, 34] .snap) 48 false, og 55 (.binOp .neq 3 (tm 54) (ic 1) 3) 48 false, o1 56 (.pick (tm 48) (.const (.bool true)) (tm 55))] 0 (some [[], [0], [0, 1], [0, 1, 2], (rl 0 4 []), (rl 0 5 []), (rl 0 4 []), (rl 0 7 []), (rl 0 8 []), (rl 0 9 []), (rl 0 10 []), (rl 0 11 []), (rl 0 10 []), (rl 0 10 [12]), (rl 0 10 [12, 13]), (rl 0 15 []), (rl 0 16 []), (rl 0 17 [])])) []
  (.cond (tm 56)
  (.seq (.region 16 [o1 2 (.assign (ic 17))] 0 none) []
    (.ret (0 :: 1 :: (rl 3 90 []))))
  .skip)) (2 :: (rl 39 18 []))
  A14v4)
def A14v6 : AC := (.region 10 [mv 27 4, o1 28 (.binOp .add 3 (tm 27) (ic 1) 3), o1 4 (.assign (tm 28))] 0 none)
def A14v7 : AC := (.seq (.block 1
  (.seq (.region 11 [o1 29 (.fieldAddr 25 (tm 1) 1 1), o1 30 (.load 23 none (tm 29)), mv 31 4, o1 32 (.indexAddr 23 22 1 (tm 30) (tm 31)), o1 33 (.load 22 none (tm 32)), o1 5 (.assign (tm 33))] 0 none) []
    (.seq (.seq (.region 12 [mv 34 5, o1 35 (.call 37 [(tm 34)] [22] .snap), o1 6 (.assign (tm 35))] 0 none) []
    (.seq (.region 13 [mv 36 6, o1 37 (.binOp .neq 27 (tm 36) (ic 0) 27)] 0 none) []
    (.cond (tm 37)
    (.seq (.region 14 [mv 38 6, o1 2 (.assign (tm 38))] 0 none) []
      (.ret (0 :: 1 :: (rl 3 90 []))))
    .skip))) (2 :: 6 :: (rl 34 5 []))
    A14v5))) (2 :: 5 :: 6 :: 7 :: (rl 29 64 []))
  A14v6)
def A14v8 : AC := (.seq (.seq (.region 9 [mv 22 4, o1 23 (.fieldAddr 25 (tm 1) 1 1), o1 24 (.load 23 none (tm 23)), o1 25 (.len 23 false (tm 24)), o1 26 (.binOp .lss 3 (tm 22) (tm 25) 3)] 0 none) []
  (.cond (tm 26)
  .skip
  (.exit 0 (rl 0 93 [])))) (rl 22 5 [])
  A14v7)
def A14v9 : AC := (.seq (.region 22 [o1 2 (.assign (ic 0))] 0 none) []
  (.ret (0 :: 1 :: (rl 3 90 []))))
def A14v10 : AC := (.seq (.seq (.region 8 [o1 4 (.assign (ic 0))] 0 none) []
  (.block 0
  (.loop [] (0 :: 2 :: 3 :: (rl 5 88 []))
    A14v8))) (2 :: (rl 4 4 (rl 22 71 [])))
  A14v9)
def A14v11 : AC := (.seq (.seq (.region 6 [o1 18 (.fieldAddr 25 (tm 1) 0 0), o1 19 (.load 22 none (tm 18)), o1 20 (.call 38 [(tm 19)] [22] .snap), o1 21 (.binOp .leq 3 (tm 20) (ic 0) 3)] 0 none) []
  (.cond (tm 21)
  (.seq (.region 7 [o1 2 (.assign (ic 17))] 0 none) []
    (.ret (0 :: 1 :: (rl 3 90 []))))
  .skip)) (2 :: (rl 18 4 []))
  A14v10)
def A14v12 : AC := (.seq (.seq (.region 3 [o1 12 (.fieldAddr 25 (tm 1) 0 0), o1 13 (.load 22 none (tm 12)), o1 14 (.call 37 [(tm 13)] [22] .snap), o1 3 (.assign (tm 14))] 0 none) []
  (.seq (.region 4 [mv 15 3, o1 16 (.binOp .neq 27 (tm 15) (ic 0) 27)] 0 none) []
  (.cond (tm 16)
  (.seq (.region 5 [mv 17 3, o1 2 (.assign (tm 17))] 0 none) []
    (.ret (0 :: 1 :: (rl 3 90 []))))
  .skip))) (2 :: 3 :: (rl 12 6 []))
  A14v11)
def A14 : AF := ⟨93, [.tmp 2],
  (.seq (.region 0 [o1 1 (.box 0 25 (tm 0)), o1 2 (.assign (ic 0))] 1 none) []
  (.seq (.seq (.region 1 [o1 8 (.fieldAddr 25 (tm 1) 1 1), o1 9 (.load 23 none (tm 8)), o1 10 (.len 23 false (tm 9)), o1 11 (.binOp .gtr 3 (tm 10) (ic 8) 3)] 0 none) []
  (.cond (tm 11)
  (.seq (.region 2 [o1 2 (.assign (ic 12))] 0 none) []
    (.ret (0 :: 1 :: (rl 3 90 []))))
  .skip)) (2 :: (rl 8 4 []))
  A14v12))⟩
def B14v2 (C : Oracle) (fuel : Nat) {ρ : Type} : St → (Ex → St → Option ρ) → Option ρ := fun st k => evalC C fuel A14v3 st k
def N14v2 : St → Option St := fun s => s.norm (0 :: 2 :: 3 :: 6 :: (rl 8 85 [])) 1
def s14v0 (x40 : Int) (x41 : Nat) (x42 : Nat → Nat → CV) (x43 : Int) (x44 : Nat) (x45 : Nat → Nat → CV) (x46 : Nat) (x47 : Nat → Nat → CV) : St := ⟨(.u :: .x (.ptr 0 0) :: .u :: .u :: .x (.c (.i .i64 x40)) :: .x (.c (.ro false (.pr (.int .i64) (.pr (.int .i64) .nil)) x41 x42)) :: .u :: .x (.c (.i .i64 x43)) :: (us 85 [])), [.box [(.c (.ro false (.pr (.int .i64) (.pr (.int .i64) .nil)) x44 x45)), (.c (.ro false (.pr (.sl (.pr (.int .i64) (.pr (.int .i64) .nil))) .nil) x46 x47))]]⟩
def s14v1 (x44 : Nat) (x45 : Nat → Nat → CV) (x46 : Nat) (x47 : Nat → Nat → CV) : St := ⟨(.u :: .u :: .x (.c (.i .i64 17)) :: (us 90 [])), [.box [(.c (.ro false (.pr (.int .i64) (.pr (.int .i64) .nil)) x44 x45)), (.c (.ro false (.pr (.sl (.pr (.int .i64) (.pr (.int .i64) .nil))) .nil) x46 x47))]]⟩
def s14v2 (x40 : Int) (x44 : Nat) (x45 : Nat → Nat → CV) (x46 : Nat) (x47 : Nat → Nat → CV) : St := ⟨(.u :: .x (.ptr 0 0) :: .u :: .u :: .x (.c (.i .i64 x40)) :: (us 88 [])), [.box [(.c (.ro false (.pr (.int .i64) (.pr (.int .i64) .nil)) x44 x45)), (.c (.ro false (.pr (.sl (.pr (.int .i64) (.pr (.int .i64) .nil))) .nil) x46 x47))]]⟩
def L14v2 {ρ : Type} (fuel : Nat) (x40 : Int) (x41 : Nat) (x42 : Nat → Nat → CV) (x44 : Nat) (x45 : Nat → Nat → CV) (x46 : Nat) (x47 : Nat → Nat → CV) : Nat → Int → (Option ρ) → (Option ρ) → Option ρ
  | 0, _, _, _ => none
  | m + 1, x43, k0, k1 =>
    (bif (decide (x43 < x40)) then (bif (inb x43 x46) then (ob (F39 fuel x41 x42 (CV.len (x47 (Int.toNat x43) 0)) (CV.el (x47 (Int.toNat x43) 0))) fun x48 => (bif (x48 == false) then (bif (inb x43 x46) then (bif (inb 0 (CV.len (x47 (Int.toNat x43) 0))) then (ob (F40 fuel x41 x42 (CV.int ((CV.el (x47 (Int.toNat x43) 0)) 0 0)) (CV.int ((CV.el (x47 (Int.toNat x43) 0)) 0 1))) fun x49 => (bif ((x49 != (-1)) == false) then (bif (inb x43 x46) then (bif (inb 0 x41) then (ob (F40 fuel (CV.len (x47 (Int.toNat x43) 0)) (CV.el (x47 (Int.toNat x43) 0)) (CV.int (x42 0 0)) (CV.int (x42 0 1))) fun x50 => (bif (x50 != (-1)) then k0 else (L14v2 fuel x40 x41 x42 x44 x45 x46 x47 m (w64 (x43 + 1)) k0 k1))) else none) else none) else k0)) else none) else none) else k0)) else none) else k1)
theorem nl14v2 {ρ σ : Type} (fuel : Nat) (x40 : Int) (x41 : Nat) (x42 : Nat → Nat → CV) (x44 : Nat) (x45 : Nat → Nat → CV) (x46 : Nat) (x47 : Nat → Nat → CV) (g : ρ → Option σ) : ∀ (m : Nat) (x43 : Int) (k0 : Option ρ) (k1 : Option ρ), ob (L14v2 fuel x40 x41 x42 x44 x45 x46 x47 m x43 k0 k1) g = L14v2 fuel x40 x41 x42 x44 x45 x46 x47 m x43 (ob k0 g) (ob k1 g)
  | 0, _, _, _ => rfl
  | m + 1, x43, k0, k1 => by
    simp only [L14v2, ob_bif, ob_ob, ob_none, nl14v2 fuel x40 x41 x42 x44 x45 x46 x47 g m]
theorem r14v2 (fuel : Nat) (m : Nat) {ρ : Type} (k : Ex → St → Option ρ) (x40 : Int) (x41 : Nat) (x42 : Nat → Nat → CV) (x44 : Nat) (x45 : Nat → Nat → CV) (x46 : Nat) (x47 : Nat → Nat → CV) (x43 : Int) :
    loopH (B14v2 (C41 fuel) fuel) N14v2 (m + 1) (s14v0 x40 x41 x42 x43 x44 x45 x46 x47) k =
    (bif (decide (x43 < x40)) then (bif (inb x43 x46) then (ob (F39 fuel x41 x42 (CV.len (x47 (Int.toNat x43) 0)) (CV.el (x47 (Int.toNat x43) 0))) fun x48 => (bif (x48 == false) then (bif (inb x43 x46) then (bif (inb 0 (CV.len (x47 (Int.toNat x43) 0))) then (ob (F40 fuel x41 x42 (CV.int ((CV.el (x47 (Int.toNat x43) 0)) 0 0)) (CV.int ((CV.el (x47 (Int.toNat x43) 0)) 0 1))) fun x49 => (bif ((x49 != (-1)) == false) then (bif (inb x43 x46) then (bif (inb 0 x41) then (ob (F40 fuel (CV.len (x47 (Int.toNat x43) 0)) (CV.el (x47 (Int.toNat x43) 0)) (CV.int (x42 0 0)) (CV.int (x42 0 1))) fun x50 => (bif (x50 != (-1)) then (k .ret (s14v1 x44 x45 x46 x47)) else (loopH (B14v2 (C41 fuel) fuel) N14v2 m (s14v0 x40 x41 x42 (w64 (x43 + 1)) x44 x45 x46 x47) k))) else none) else none) else (k .ret (s14v1 x44 x45 x46 x47)))) else none) else none) else (k .ret (s14v1 x44 x45 x46 x47)))) else none) else (k (.exit 2) (s14v2 x40 x44 x45 x46 x47))) := by kernel_rfl
theorem q14v2 (fuel : Nat) (x40 : Int) (x41 : Nat) (x42 : Nat → Nat → CV) (x44 : Nat) (x45 : Nat → Nat → CV) (x46 : Nat) (x47 : Nat → Nat → CV) {ρ : Type} (k : Ex → St → Option ρ) : ∀ (m : Nat) (x43 : Int),
    loopH (B14v2 (C41 fuel) fuel) N14v2 m (s14v0 x40 x41 x42 x43 x44 x45 x46 x47) k = L14v2 fuel x40 x41 x42 x44 x45 x46 x47 m x43 (k .ret (s14v1 x44 x45 x46 x47)) (k (.exit 2) (s14v2 x40 x44 x45 x46 x47))
  | 0, _ => rfl
  | m + 1, x43 => by
    rw [r14v2]
    simp only [L14v2, q14v2 fuel x40 x41 x42 x44 x45 x46 x47 k m]
def B14v3 (C : Oracle) (fuel : Nat) {ρ : Type} : St → (Ex → St → Option ρ) → Option ρ := fun st k => evalC C fuel A14v8 st k
def N14v3 : St → Option St := fun s => s.norm (0 :: 2 :: 3 :: (rl 5 88 [])) 1
def s14v3 (x21 : Int) (x22 : Nat) (x23 : Nat → Nat → CV) (x24 : Nat) (x25 : Nat → Nat → CV) : St := ⟨(.u :: .x (.ptr 0 0) :: .u :: .u :: .x (.c (.i .i64 x21)) :: (us 88 [])), [.box [(.c (.ro false (.pr (.int .i64) (.pr (.int .i64) .nil)) x22 x23)), (.c (.ro false (.pr (.sl (.pr (.int .i64) (.pr (.int .i64) .nil))) .nil) x24 x25))]]⟩
def s14v4 (x51 : Int) (x22 : Nat) (x23 : Nat → Nat → CV) (x24 : Nat) (x25 : Nat → Nat → CV) : St := ⟨(.u :: .u :: .x (.c (.i .i64 x51)) :: (us 90 [])), [.box [(.c (.ro false (.pr (.int .i64) (.pr (.int .i64) .nil)) x22 x23)), (.c (.ro false (.pr (.sl (.pr (.int .i64) (.pr (.int .i64) .nil))) .nil) x24 x25))]]⟩
def s14v5 (x22 : Nat) (x23 : Nat → Nat → CV) (x24 : Nat) (x25 : Nat → Nat → CV) : St := ⟨(us 93 []), [.box [(.c (.ro false (.pr (.int .i64) (.pr (.int .i64) .nil)) x22 x23)), (.c (.ro false (.pr (.sl (.pr (.int .i64) (.pr (.int .i64) .nil))) .nil) x24 x25))]]⟩
def L14v3 {ρ : Type} (fuel : Nat) (x22 : Nat) (x23 : Nat → Nat → CV) (x24 : Nat) (x25 : Nat → Nat → CV) : Nat → Int → (Int → Option ρ) → (Option ρ) → Option ρ
  | 0, _, _, _ => none
  | m + 1, x21, k0, k1 =>
    (bif (decide (x21 < (Int.ofNat x24))) then (bif (inb x21 x24) then (ob (F37 fuel (CV.len (x25 (Int.toNat x21) 0)) (CV.el (x25 (Int.toNat x21) 0))) fun x26 => (bif (x26 != 0) then (k0 x26) else (ob (F38 fuel (CV.len (x25 (Int.toNat x21) 0)) (CV.el (x25 (Int.toNat x21) 0))) fun x27 => (bif ((decide (x27 ≥ 0)) == false) then (ob (F39 fuel x22 x23 (CV.len (x25 (Int.toNat x21) 0)) (CV.el (x25 (Int.toNat x21) 0))) fun x28 => (bif (x28 == false) then (bif (inb 0 (CV.len (x25 (Int.toNat x21) 0))) then (ob (F40 fuel x22 x23 (CV.int ((CV.el (x25 (Int.toNat x21) 0)) 0 0)) (CV.int ((CV.el (x25 (Int.toNat x21) 0)) 0 1))) fun x29 => (bif (x29 != 1) then (k0 17) else (L14v2 fuel x21 (CV.len (x25 (Int.toNat x21) 0)) (CV.el (x25 (Int.toNat x21) 0)) x22 x23 x24 x25 fuel 0
    (k0 17)
    (L14v3 fuel x22 x23 x24 x25 m (w64 (x21 + 1)) k0 k1)))) else none) else (k0 17))) else (k0 17))))) else none) else k1)
theorem nl14v3 {ρ σ : Type} (fuel : Nat) (x22 : Nat) (x23 : Nat → Nat → CV) (x24 : Nat) (x25 : Nat → Nat → CV) (g : ρ → Option σ) : ∀ (m : Nat) (x21 : Int) (k0 : Int → Option ρ) (k1 : Option ρ), ob (L14v3 fuel x22 x23 x24 x25 m x21 k0 k1) g = L14v3 fuel x22 x23 x24 x25 m x21 (fun x51 => ob (k0 x51) g) (ob k1 g)
  | 0, _, _, _ => rfl
  | m + 1, x21, k0, k1 => by
    simp only [L14v3, ob_bif, ob_ob, ob_none, nl14v3 fuel x22 x23 x24 x25 g m, nl14v2]
def s14v6 (x21 : Int) (x25 : Nat → Nat → CV) (x24 : Nat) (x22 : Nat) (x23 : Nat → Nat → CV) : St := ⟨(.u :: .x (.ptr 0 0) :: .u :: .u :: .x (.c (.i .i64 x21)) :: .x (.c (.ro false (.pr (.int .i64) (.pr (.int .i64) .nil)) (CV.len (x25 (Int.toNat x21) 0)) (CV.el (x25 (Int.toNat x21) 0)))) :: .u :: .x (.c (.i .i64 0)) :: (us 21 (.x (.ptr 0 1) :: .x (.c (.ro false (.pr (.sl (.pr (.int .i64) (.pr (.int .i64) .nil))) .nil) x24 x25)) :: .x (.c (.i .i64 x21)) :: .x (.c (.rp (.pr (.sl (.pr (.int .i64) (.pr (.int .i64) .nil))) .nil) (x25 (Int.toNat x21)))) :: .x (.c (.ro false (.pr (.int .i64) (.pr (.int .i64) .nil)) (CV.len (x25 (Int.toNat x21) 0)) (CV.el (x25 (Int.toNat x21) 0)))) :: (us 59 [])))), [.box [(.c (.ro false (.pr (.int .i64) (.pr (.int .i64) .nil)) x22 x23)), (.c (.ro false (.pr (.sl (.pr (.int .i64) (.pr (.int .i64) .nil))) .nil) x24 x25))]]⟩
theorem r14v3 (fuel : Nat) (m : Nat) {ρ : Type} (k : Ex → St → Option ρ) (x22 : Nat) (x23 : Nat → Nat → CV) (x24 : Nat) (x25 : Nat → Nat → CV) (x21 : Int) :
    loopH (B14v3 (C41 fuel) fuel) N14v3 (m + 1) (s14v3 x21 x22 x23 x24 x25) k =
    (bif (decide (x21 < (Int.ofNat x24))) then (bif (inb x21 x24) then (ob (F37 fuel (CV.len (x25 (Int.toNat x21) 0)) (CV.el (x25 (Int.toNat x21) 0))) fun x26 => (bif (x26 != 0) then (k .ret (s14v4 x26 x22 x23 x24 x25)) else (ob (F38 fuel (CV.len (x25 (Int.toNat x21) 0)) (CV.el (x25 (Int.toNat x21) 0))) fun x27 => (bif ((decide (x27 ≥ 0)) == false) then (ob (F39 fuel x22 x23 (CV.len (x25 (Int.toNat x21) 0)) (CV.el (x25 (Int.toNat x21) 0))) fun x28 => (bif (x28 == false) then (bif (inb 0 (CV.len (x25 (Int.toNat x21) 0))) then (ob (F40 fuel x22 x23 (CV.int ((CV.el (x25 (Int.toNat x21) 0)) 0 0)) (CV.int ((CV.el (x25 (Int.toNat x21) 0)) 0 1))) fun x29 => (bif (x29 != 1) then (k .ret (s14v4 17 x22 x23 x24 x25)) else (loopN (B14v2 (C41 fuel) fuel) N14v2 fuel (s14v6 x21 x25 x24 x22 x23) (kBlk 2 (kBlk 1 (kSeq (C41 fuel) fuel (2 :: 5 :: 6 :: 7 :: (rl 29 64 [])) A14v6 (kLoop (B14v3 (C41 fuel) fuel) N14v3 m k))))))) else none) else (k .ret (s14v4 17 x22 x23 x24 x25)))) else (k .ret (s14v4 17 x22 x23 x24 x25)))))) else none) else (k (.exit 0) (s14v5 x22 x23 x24 x25))) := by kernel_rfl
theorem t14v1 (fuel : Nat) {ρ : Type} (k : Ex → St → Option ρ) (x21 : Int) (x25 : Nat → Nat → CV) (x24 : Nat) (x22 : Nat) (x23 : Nat → Nat → CV) :
    loopN (B14v2 (C41 fuel) fuel) N14v2 fuel (s14v6 x21 x25 x24 x22 x23) k =
    L14v2 fuel x21 (CV.len (x25 (Int.toNat x21) 0)) (CV.el (x25 (Int.toNat x21) 0)) x22 x23 x24 x25 fuel 0 (k .ret (s14v1 x22 x23 x24 x25)) (k (.exit 2) (s14v2 x21 x22 x23 x24 x25)) :=
  (loopN_at (st' := (s14v0 x21 (CV.len (x25 (Int.toNat x21) 0)) (CV.el (x25 (Int.toNat x21) 0)) 0 x22 x23 x24 x25)) (by kernel_rfl)).trans (q14v2 fuel x21 (CV.len (x25 (Int.toNat x21) 0)) (CV.el (x25 (Int.toNat x21) 0)) x22 x23 x24 x25 k fuel 0)
theorem g14v2 (fuel : Nat) (m : Nat) {ρ : Type} (k : Ex → St → Option ρ) (x22 : Nat) (x23 : Nat → Nat → CV) (x24 : Nat) (x25 : Nat → Nat → CV) :
    (kBlk 2 (kBlk 1 (kSeq (C41 fuel) fuel (2 :: 5 :: 6 :: 7 :: (rl 29 64 [])) A14v6 (kLoop (B14v3 (C41 fuel) fuel) N14v3 m k)))) .ret (s14v1 x22 x23 x24 x25) =
    (k .ret (s14v4 17 x22 x23 x24 x25)) := by kernel_rfl
theorem g14v3 (fuel : Nat) (m : Nat) {ρ : Type} (k : Ex → St → Option ρ) (x21 : Int) (x22 : Nat) (x23 : Nat → Nat → CV) (x24 : Nat) (x25 : Nat → Nat → CV) :
    (kBlk 2 (kBlk 1 (kSeq (C41 fuel) fuel (2 :: 5 :: 6 :: 7 :: (rl 29 64 [])) A14v6 (kLoop (B14v3 (C41 fuel) fuel) N14v3 m k)))) (.exit 2) (s14v2 x21 x22 x23 x24 x25) =
    (loopH (B14v3 (C41 fuel) fuel) N14v3 m (s14v3 (w64 (x21 + 1)) x22 x23 x24 x25) k) := by kernel_rfl
theorem q14v3 (fuel : Nat) (x22 : Nat) (x23 : Nat → Nat → CV) (x24 : Nat) (x25 : Nat → Nat → CV) {ρ : Type} (k : Ex → St → Option ρ) : ∀ (m : Nat) (x21 : Int),
    loopH (B14v3 (C41 fuel) fuel) N14v3 m (s14v3 x21 x22 x23 x24 x25) k = L14v3 fuel x22 x23 x24 x25 m x21 (fun x51 => k .ret (s14v4 x51 x22 x23 x24 x25)) (k (.exit 0) (s14v5 x22 x23 x24 x25))
  | 0, _ => rfl
  | m + 1, x21 => by
    rw [r14v3]
    simp only [L14v3, q14v3 fuel x22 x23 x24 x25 k m, t14v1, g14v2, g14v3]
def D14 {ρ : Type} (fuel : Nat) (x1 : Nat) (x2 : Nat → Nat → CV) (x3 : Nat) (x4 : Nat → Nat → CV) (k : Int → Option ρ) : Option ρ :=
  (bif (decide ((Int.ofNat x3) > 8)) then (k 12) else (ob (F37 fuel x1 x2) fun x5 => (bif (x5 != 0) then (k x5) else (ob (F38 fuel x1 x2) fun x6 => (bif (decide (x6 ≤ 0)) then (k 17) else (L14v3 fuel x1 x2 x3 x4 fuel 0
    (fun x52 => (k x52))
    (k 0)))))))
def F14 (fuel : Nat) (x1 : Nat) (x2 : Nat → Nat → CV) (x3 : Nat) (x4 : Nat → Nat → CV) : Option (Int) := D14 fuel x1 x2 x3 x4 some
theorem n14 {ρ σ : Type} (fuel : Nat) (x1 : Nat) (x2 : Nat → Nat → CV) (x3 : Nat) (x4 : Nat → Nat → CV) (k : (Int) → Option ρ) (g : ρ → Option σ) : ob (D14 fuel x1 x2 x3 x4 k) g = D14 fuel x1 x2 x3 x4 fun t => ob (k t) g := by
  simp only [D14, ob_bif, ob_ob, ob_none, nl14v3]
theorem f14 {ρ : Type} (fuel : Nat) (x1 : Nat) (x2 : Nat → Nat → CV) (x3 : Nat) (x4 : Nat → Nat → CV) (k : (Int) → Option ρ) : D14 fuel x1 x2 x3 x4 k = ob (F14 fuel x1 x2 x3 x4) k := by
  unfold F14
  rw [n14]
  simp only [ob_some]
def s14v7 (x1 : Nat) (x2 : Nat → Nat → CV) (x3 : Nat) (x4 : Nat → Nat → CV) : St := ⟨(.agg [(.c (.ro false (.pr (.int .i64) (.pr (.int .i64) .nil)) x1 x2)), (.c (.ro false (.pr (.sl (.pr (.int .i64) (.pr (.int .i64) .nil))) .nil) x3 x4))] :: .x (.ptr 0 0) :: .u :: .u :: .x (.c (.i .i64 0)) :: .undef :: .undef :: .undef :: (us 14 [.undef, .undef, .undef, .undef, .undef, .undef, .undef, .undef, .undef, .undef, .undef, .undef, .undef, .undef, .undef, .undef, .undef, .undef, .undef, .undef, .undef, .undef, .undef, .undef, .undef, .undef, .undef, .undef, .undef, .undef, .undef, .undef, .undef, .undef, .undef, .undef, .undef, .undef, .undef, .undef, .undef, .undef, .undef, .undef, .undef, .undef, .undef, .undef, .undef, .undef, .undef, .undef, .undef, .undef, .undef, .undef, .undef, .undef, .undef, .undef, .undef, .undef, .undef, .undef, .undef, .undef, .undef, .undef, .undef, .undef, .undef])), [.box [(.c (.ro false (.pr (.int .i64) (.pr (.int .i64) .nil)) x1 x2)), (.c (.ro false (.pr (.sl (.pr (.int .i64) (.pr (.int .i64) .nil))) .nil) x3 x4))]]⟩
theorem walk14 (fuel : Nat) (x1 : Nat) (x2 : Nat → Nat → CV) (x3 : Nat) (x4 : Nat → Nat → CV) :
    evalF (C41 fuel) fuel A14 [.agg [(.ro false (.pr (.int .i64) (.pr (.int .i64) .nil)) x1 x2), (.ro false (.pr (.sl (.pr (.int .i64) (.pr (.int .i64) .nil))) .nil) x3 x4)]] =
    (bif (decide ((Int.ofNat x3) > 8)) then (some [.v (.i .i64 12)]) else (ob (F37 fuel x1 x2) fun x5 => (bif (x5 != 0) then (some [.v (.i .i64 x5)]) else (ob (F38 fuel x1 x2) fun x6 => (bif (decide (x6 ≤ 0)) then (some [.v (.i .i64 17)]) else (loopN (B14v3 (C41 fuel) fuel) N14v3 fuel (s14v7 x1 x2 x3 x4) (kBlk 0 (kSeq (C41 fuel) fuel (2 :: (rl 4 4 (rl 22 71 []))) A14v9 (finish A14))))))))) := by kernel_rfl
theorem t14v4 (fuel : Nat) {ρ : Type} (k : Ex → St → Option ρ) (x1 : Nat) (x2 : Nat → Nat → CV) (x3 : Nat) (x4 : Nat → Nat → CV) :
    loopN (B14v3 (C41 fuel) fuel) N14v3 fuel (s14v7 x1 x2 x3 x4) k =
    L14v3 fuel x1 x2 x3 x4 fuel 0 (fun x51 => k .ret (s14v4 x51 x1 x2 x3 x4)) (k (.exit 0) (s14v5 x1 x2 x3 x4)) :=
  (loopN_at (st' := (s14v3 0 x1 x2 x3 x4)) (by kernel_rfl)).trans (q14v3 fuel x1 x2 x3 x4 k fuel 0)
theorem g14v5 (fuel : Nat) (x52 : Int) (x1 : Nat) (x2 : Nat → Nat → CV) (x3 : Nat) (x4 : Nat → Nat → CV) :
    (kBlk 0 (kSeq (C41 fuel) fuel (2 :: (rl 4 4 (rl 22 71 []))) A14v9 (finish A14))) .ret (s14v4 x52 x1 x2 x3 x4) =
    (some [.v (.i .i64 x52)]) := by kernel_rfl
theorem g14v6 (fuel : Nat) (x1 : Nat) (x2 : Nat → Nat → CV) (x3 : Nat) (x4 : Nat → Nat → CV) :
    (kBlk 0 (kSeq (C41 fuel) fuel (2 :: (rl 4 4 (rl 22 71 []))) A14v9 (finish A14))) (.exit 0) (s14v5 x1 x2 x3 x4) =
    (some [.v (.i .i64 0)]) := by kernel_rfl
theorem e14 (fuel : Nat) (x1 : Nat) (x2 : Nat → Nat → CV) (x3 : Nat) (x4 : Nat → Nat → CV) : evalF (C41 fuel) fuel A14 [.agg [(.ro false (.pr (.int .i64) (.pr (.int .i64) .nil)) x1 x2), (.ro false (.pr (.sl (.pr (.int .i64) (.pr (.int .i64) .nil))) .nil) x3 x4)]] = ob (F14 fuel x1 x2 x3 x4) fun t => some [.v (.i .i64 t)] := by
  rw [walk14, ← f14]
  simp only [D14, t14v4, g14v5, g14v6]
def O14 (fuel : Nat) : Ora where
  o := fun args {ρ} K =>
    wc args fun a1 l2 =>
    wagg a1 fun l3 =>
    wc l3 fun c4 l5 =>
    wL (.pr (.int .i64) (.pr (.int .i64) .nil)) c4 fun y6 y7 =>
    wc l5 fun c9 l10 =>
    wL (.pr (.sl (.pr (.int .i64) (.pr (.int .i64) .nil))) .nil) c9 fun y11 y12 =>
    wn l10 <|
    wn l2 <|
    (ob (F14 fuel y6 y7 y11 y12) fun t => K [.v (.i .i64 t)])
  nat := fun args {ρ} K => by
    simp only [bind_wc, bind_wn, bind_wv, bind_wagg, bind_wI, bind_wB, bind_wS, bind_wL, bind_wP, bind_wFn, bind_ob, Option.bind_some]
theorem d14 {P : Program} (fuel : Nat) (hmix : P.follows .mixedOrders = true) (hC : Sound P (C41 fuel)) (hF : FFits P 14 A14) (args res : List A) (h : (O14 fuel).o args some = some res) : Den P 14 args res := by
  obtain ⟨a1, l2, rfl, z0⟩ := inv_wc h
  obtain ⟨l3, rfl, z1⟩ := inv_wagg z0
  obtain ⟨c4, l5, rfl, z2⟩ := inv_wc z1
  obtain ⟨y6, y7, h8, z3⟩ := inv_wL z2
  obtain ⟨c9, l10, rfl, z4⟩ := inv_wc z3
  obtain ⟨y11, y12, h13, z5⟩ := inv_wL z4
  obtain ⟨hn, z6⟩ := inv_wn z5
  cases hn
  obtain ⟨hn, z7⟩ := inv_wn z6
  cases hn
  exact Den.weaken (.cons (WkA.agg (.cons h8 (.cons h13 .nil))) .nil) (evalF_sound hmix hC hF ((e14 fuel y6 y7 y11 y12).trans z7))
def C42 (fuel : Nat) : Oracle := (C41 fuel).add 14 (fun _ => true) (O14 fuel)
def A41 : AF := ⟨28, [.tmp 6],
  (.seq (.region 0 [o1 6 (.assign (.const (.slice none 0 0)))] 0 none) []
  (.seq (.region 1 [mv 7 0, mv 8 1, o1 9 (.build 34 [.c (.i .i64 0), .c (.i .i64 0)] [(0, 1), (1, 1)] 0 [(0, (tm 7)), (1, (tm 8))]), mv 10 0, mv 11 2, o1 12 (.binOp .add 3 (tm 10) (tm 11) 3), mv 13 1, o1 14 (.build 34 [.c (.i .i64 0), .c (.i .i64 0)] [(0, 1), (1, 1)] 0 [(0, (tm 12)), (1, (tm 13))]), mv 15 0, mv 16 2, o1 17 (.binOp .add 3 (tm 15) (tm 16) 3), mv 18 1, mv 19 2, o1 20 (.binOp .add 3 (tm 18) (tm 19) 3), o1 21 (.build 34 [.c (.i .i64 0), .c (.i .i64 0)] [(0, 1), (1, 1)] 0 [(0, (tm 17)), (1, (tm 20))]), mv 22 0, mv 23 1, mv 24 2, o1 25 (.binOp .add 3 (tm 23) (tm 24) 3), o1 26 (.build 34 [.c (.i .i64 0), .c (.i .i64 0)] [(0, 1), (1, 1)] 0 [(0, (tm 22)), (1, (tm 25))]), o1 27 (.buildSlice 0 22 34 (.pr (.int .i64) (.pr (.int .i64) .nil)) 4 [.c (.i .i64 0), .c (.i .i64 0)] [(0, (tm 9)), (1, (tm 14)), (2, (tm 21)), (3, (tm 26))]), o1 6 (.assign (tm 27))] 1 none) []
  (.ret (rl 0 6 (rl 7 21 [])))))⟩
def D41 {ρ : Type} (fuel : Nat) (x1 : Int) (x2 : Int) (x3 : Int) (k : (Nat × (Nat → Nat → CV)) → Option ρ) : Option ρ :=
  (k (4, (rowsF 2 [(.i .i64 x1), (.i .i64 x2), (.i .i64 (w64 (x1 + x3))), (.i .i64 x2), (.i .i64 (w64 (x1 + x3))), (.i .i64 (w64 (x2 + x3))), (.i .i64 x1), (.i .i64 (w64 (x2 + x3)))])))
def F41 (fuel : Nat) (x1 : Int) (x2 : Int) (x3 : Int) : Option (Nat × (Nat → Nat → CV)) := D41 fuel x1 x2 x3 some
theorem n41 {ρ σ : Type} (fuel : Nat) (x1 : Int) (x2 : Int) (x3 : Int) (k : (Nat × (Nat → Nat → CV)) → Option ρ) (g : ρ → Option σ) : ob (D41 fuel x1 x2 x3 k) g = D41 fuel x1 x2 x3 fun t => ob (k t) g := by
  simp only [D41, ob_bif, ob_ob, ob_none]
theorem f41 {ρ : Type} (fuel : Nat) (x1 : Int) (x2 : Int) (x3 : Int) (k : (Nat × (Nat → Nat → CV)) → Option ρ) : D41 fuel x1 x2 x3 k = ob (F41 fuel x1 x2 x3) k := by
  unfold F41
  rw [n41]
  simp only [ob_some]
theorem walk41 (fuel : Nat) (x1 : Int) (x2 : Int) (x3 : Int) :
    evalF (C42 fuel) fuel A41 [.v (.i .i64 x1), .v (.i .i64 x2), .v (.i .i64 x3)] =
    (some [.v (.ro false (.pr (.int .i64) (.pr (.int .i64) .nil)) 4 (rowsF 2 [(.i .i64 x1), (.i .i64 x2), (.i .i64 (w64 (x1 + x3))), (.i .i64 x2), (.i .i64 (w64 (x1 + x3))), (.i .i64 (w64 (x2 + x3))), (.i .i64 x1), (.i .i64 (w64 (x2 + x3)))]))]) := by kernel_rfl
theorem e41 (fuel : Nat) (x1 : Int) (x2 : Int) (x3 : Int) : evalF (C42 fuel) fuel A41 [.v (.i .i64 x1), .v (.i .i64 x2), .v (.i .i64 x3)] = ob (F41 fuel x1 x2 x3) fun t => some [.v (.ro false (.pr (.int .i64) (.pr (.int .i64) .nil)) t.1 t.2)] := by
  rw [walk41, ← f41]
  simp only [D41]
def O41 (fuel : Nat) : Ora where
  o := fun args {ρ} K =>
    wc args fun a1 l2 =>
    wv a1 fun c3 =>
    wI .i64 c3 fun y4 =>
    wc l2 fun a6 l7 =>
    wv a6 fun c8 =>
    wI .i64 c8 fun y9 =>
    wc l7 fun a11 l12 =>
    wv a11 fun c13 =>
    wI .i64 c13 fun y14 =>
    wn l12 <|
    (ob (F41 fuel y4 y9 y14) fun t => K [.v (.ro false (.pr (.int .i64) (.pr (.int .i64) .nil)) t.1 t.2)])
  nat := fun args {ρ} K => by
    simp only [bind_wc, bind_wn, bind_wv, bind_wagg, bind_wI, bind_wB, bind_wS, bind_wL, bind_wP, bind_wFn, bind_ob, Option.bind_some]
theorem d41 {P : Program} (fuel : Nat) (hmix : P.follows .mixedOrders = true) (hC : Sound P (C42 fuel)) (hF : FFits P 41 A41) (args res : List A) (h : (O41 fuel).o args some = some res) : Den P 41 args res := by
  obtain ⟨a1, l2, rfl, z0⟩ := inv_wc h
  obtain ⟨c3, rfl, z1⟩ := inv_wv z0
  obtain ⟨y4, h5, z2⟩ := inv_wI z1
  obtain ⟨a6, l7, rfl, z3⟩ := inv_wc z2
  obtain ⟨c8, rfl, z4⟩ := inv_wv z3
  obtain ⟨y9, h10, z5⟩ := inv_wI z4
  obtain ⟨a11, l12, rfl, z6⟩ := inv_wc z5
  obtain ⟨c13, rfl, z7⟩ := inv_wv z6
  obtain ⟨y14, h15, z8⟩ := inv_wI z7
  obtain ⟨hn, z9⟩ := inv_wn z8
  cases hn
  exact Den.weaken (.cons (WkA.v (Wk.i h5)) (.cons (WkA.v (Wk.i h10)) (.cons (WkA.v (Wk.i h15)) .nil))) (evalF_sound hmix hC hF ((e41 fuel y4 y9 y14).trans z9))
def C43 (fuel : Nat) : Oracle := (C42 fuel).add 41 (fun _ => true) (O41 fuel)
def A49 : AF := ⟨21, [.tmp 2],
  (.seq (.region 0 [o1 1 (.box 0 34 (tm 0)), o1 2 (.assign (.const (.bool false)))] 1 none) []
  (.seq (.region 1 [o1 3 (.fieldAddr 34 (tm 1) 0 0), o1 4 (.load 3 none (tm 3)), o1 5 (.binOp .lss 3 (tm 4) (ic (-1099511627776)) 3), mv 6 5, og 7 (.fieldAddr 34 (tm 1) 0 0) 6 false, og 8 (.load 3 none (tm 7)) 6 false, og 9 (.binOp .gtr 3 (tm 8) (ic 1099511627776) 3) 6 false, o1 10 (.pick (tm 6) (.const (.bool true)) (tm 9)), mv 11 10, og 12 (.fieldAddr 34 (tm 1) 1 1) 11 false, og 13 (.load 3 none (tm 12)) 11 false, og 14 (.binOp .lss 3 (tm 13) (ic (-1099511627776)) 3) 11 false, o1 15 (.pick (tm 11) (.const (.bool true)) (tm 14)), mv 16 15, og 17 (.fieldAddr 34 (tm 1) 1 1) 16 false, og 18 (.load 3 none (tm 17)) 16 false, og 19 (.binOp .gtr 3 (tm 18) (ic 1099511627776) 3) 16 false, o1 20 (.pick (tm 16) (.const (.bool true)) (tm 19)), o1 2 (.assign (tm 20))] 0 none) []
  (.ret (0 :: 1 :: (rl 3 18 [])))))⟩
def D49 {ρ : Type} (fuel : Nat) (x1 : Int) (x2 : Int) (k : Bool → Option ρ) : Option ρ :=
  (bif ((decide (x1 < (-1099511627776))) == false) then (bif ((decide (x1 > 1099511627776)) == false) then (bif ((decide (x2 < (-1099511627776))) == false) then (k (decide (x2 > 1099511627776))) else (k true)) else (k true)) else (k true))
def F49 (fuel : Nat) (x1 : Int) (x2 : Int) : Option (Bool) := D49 fuel x1 x2 some
theorem n49 {ρ σ : Type} (fuel : Nat) (x1 : Int) (x2 : Int) (k : (Bool) → Option ρ) (g : ρ → Option σ) : ob (D49 fuel x1 x2 k) g = D49 fuel x1 x2 fun t => ob (k t) g := by
  simp only [D49, ob_bif, ob_ob, ob_none]
theorem f49 {ρ : Type} (fuel : Nat) (x1 : Int) (x2 : Int) (k : (Bool) → Option ρ) : D49 fuel x1 x2 k = ob (F49 fuel x1 x2) k := by
  unfold F49
  rw [n49]
  simp only [ob_some]
theorem walk49 (fuel : Nat) (x1 : Int) (x2 : Int) :
    evalF (C43 fuel) fuel A49 [.agg [(.i .i64 x1), (.i .i64 x2)]] =
    (bif ((decide (x1 < (-1099511627776))) == false) then (bif ((decide (x1 > 1099511627776)) == false) then (bif ((decide (x2 < (-1099511627776))) == false) then (some [.v (.b (decide (x2 > 1099511627776)))]) else (some [.v (.b true)])) else (some [.v (.b true)])) else (some [.v (.b true)])) := by kernel_rfl
theorem e49 (fuel : Nat) (x1 : Int) (x2 : Int) : evalF (C43 fuel) fuel A49 [.agg [(.i .i64 x1), (.i .i64 x2)]] = ob (F49 fuel x1 x2) fun t => some [.v (.b t)] := by
  rw [walk49, ← f49]
  simp only [D49]
def O49 (fuel : Nat) : Ora where
  o := fun args {ρ} K =>
    wc args fun a1 l2 =>
    wagg a1 fun l3 =>
    wc l3 fun c4 l5 =>
    wI .i64 c4 fun y6 =>
    wc l5 fun c8 l9 =>
    wI .i64 c8 fun y10 =>
    wn l9 <|
    wn l2 <|
    (ob (F49 fuel y6 y10) fun t => K [.v (.b t)])
  nat := fun args {ρ} K => by
    simp only [bind_wc, bind_wn, bind_wv, bind_wagg, bind_wI, bind_wB, bind_wS, bind_wL, bind_wP, bind_wFn, bind_ob, Option.bind_some]
theorem d49 {P : Program} (fuel : Nat) (hmix : P.follows .mixedOrders = true) (hC : Sound P (C43 fuel)) (hF : FFits P 49 A49) (args res : List A) (h : (O49 fuel).o args some = some res) : Den P 49 args res := by
  obtain ⟨a1, l2, rfl, z0⟩ := inv_wc h
  obtain ⟨l3, rfl, z1⟩ := inv_wagg z0
  obtain ⟨c4, l5, rfl, z2⟩ := inv_wc z1
  obtain ⟨y6, h7, z3⟩ := inv_wI z2
  obtain ⟨c8, l9, rfl, z4⟩ := inv_wc z3
  obtain ⟨y10, h11, z5⟩ := inv_wI z4
  obtain ⟨hn, z6⟩ := inv_wn z5
  cases hn
  obtain ⟨hn, z7⟩ := inv_wn z6
  cases hn
  exact Den.weaken (.cons (WkA.agg (.cons (Wk.i h7) (.cons (Wk.i h11) .nil))) .nil) (evalF_sound hmix hC hF ((e49 fuel y6 y10).trans z7))
def C44 (fuel : Nat) : Oracle := (C43 fuel).add 49 (fun _ => true) (O49 fuel)
def A42 : AF := ⟨9, [.tmp 2],
  (.seq (.region 0 [o1 1 (.box 0 25 (tm 0)), o1 2 (.assign (.const (.slice none 0 0)))] 1 none) []
  (.seq (.region 1 [o1 3 (.fieldAddr 25 (tm 1) 0 0), o1 4 (.load 22 none (tm 3)), o1 5 (.buildSlice 0 23 22 (.pr (.sl (.pr (.int .i64) (.pr (.int .i64) .nil))) .nil) 1 [.c (.ro true .nil 0 (fun _ _ => .any))] [(0, (tm 4))]), o1 6 (.fieldAddr 25 (tm 1) 1 1), o1 7 (.load 23 none (tm 6)), o1 8 (.append 1 23 22 (.pr (.sl (.pr (.int .i64) (.pr (.int .i64) .nil))) .nil) 24 (tm 5) (tm 7)), o1 2 (.assign (tm 8))] 2 none) []
  (.ret (0 :: 1 :: (rl 3 6 [])))))⟩
def D42 {ρ : Type} (fuel : Nat) (x1 : Nat) (x2 : Nat → Nat → CV) (x3 : Nat) (x4 : Nat → Nat → CV) (k : (Nat × (Nat → Nat → CV)) → Option ρ) : Option ρ :=
  (bif (Nat.ble (1 + x3) 1073741824) then (k ((1 + x3), (joinF 1 (rowsF 1 [(.ro false (.pr (.int .i64) (.pr (.int .i64) .nil)) x1 x2)]) x4))) else none)
def F42 (fuel : Nat) (x1 : Nat) (x2 : Nat → Nat → CV) (x3 : Nat) (x4 : Nat → Nat → CV) : Option (Nat × (Nat → Nat → CV)) := D42 fuel x1 x2 x3 x4 some
theorem n42 {ρ σ : Type} (fuel : Nat) (x1 : Nat) (x2 : Nat → Nat → CV) (x3 : Nat) (x4 : Nat → Nat → CV) (k : (Nat × (Nat → Nat → CV)) → Option ρ) (g : ρ → Option σ) : ob (D42 fuel x1 x2 x3 x4 k) g = D42 fuel x1 x2 x3 x4 fun t => ob (k t) g := by
  simp only [D42, ob_bif, ob_ob, ob_none]
theorem f42 {ρ : Type} (fuel : Nat) (x1 : Nat) (x2 : Nat → Nat → CV) (x3 : Nat) (x4 : Nat → Nat → CV) (k : (Nat × (Nat → Nat → CV)) → Option ρ) : D42 fuel x1 x2 x3 x4 k = ob (F42 fuel x1 x2 x3 x4) k := by
  unfold F42
  rw [n42]
  simp only [ob_some]
theorem walk42 (fuel : Nat) (x1 : Nat) (x2 : Nat → Nat → CV) (x3 : Nat) (x4 : Nat → Nat → CV) :
    evalF (C44 fuel) fuel A42 [.agg [(.ro false (.pr (.int .i64) (.pr (.int .i64) .nil)) x1 x2), (.ro false (.pr (.sl (.pr (.int .i64) (.pr (.int .i64) .nil))) .nil) x3 x4)]] =
    (bif (Nat.ble (1 + x3) 1073741824) then (some [.v (.ro false (.pr (.sl (.pr (.int .i64) (.pr (.int .i64) .nil))) .nil) (1 + x3) (joinF 1 (rowsF 1 [(.ro false (.pr (.int .i64) (.pr (.int .i64) .nil)) x1 x2)]) x4))]) else none) := by kernel_rfl
theorem e42 (fuel : Nat) (x1 : Nat) (x2 : Nat → Nat → CV) (x3 : Nat) (x4 : Nat → Nat → CV) : evalF (C44 fuel) fuel A42 [.agg [(.ro false (.pr (.int .i64) (.pr (.int .i64) .nil)) x1 x2), (.ro false (.pr (.sl (.pr (.int .i64) (.pr (.int .i64) .nil))) .nil) x3 x4)]] = ob (F42 fuel x1 x2 x3 x4) fun t => some [.v (.ro false (.pr (.sl (.pr (.int .i64) (.pr (.int .i64) .nil))) .nil) t.1 t.2)] := by
  rw [walk42, ← f42]
  simp only [D42]
def O42 (fuel : Nat) : Ora where
  o := fun args {ρ} K =>
    wc args fun a1 l2 =>
    wagg a1 fun l3 =>
    wc l3 fun c4 l5 =>
    wL (.pr (.int .i64) (.pr (.int .i64) .nil)) c4 fun y6 y7 =>
    wc l5 fun c9 l10 =>
    wL (.pr (.sl (.pr (.int .i64) (.pr (.int .i64) .nil))) .nil) c9 fun y11 y12 =>
    wn l10 <|
    wn l2 <|
    (ob (F42 fuel y6 y7 y11 y12) fun t => K [.v (.ro false (.pr (.sl (.pr (.int .i64) (.pr (.int .i64) .nil))) .nil) t.1 t.2)])
  nat := fun args {ρ} K => by
    simp only [bind_wc, bind_wn, bind_wv, bind_wagg, bind_wI, bind_wB, bind_wS, bind_wL, bind_wP, bind_wFn, bind_ob, Option.bind_some]
theorem d42 {P : Program} (fuel : Nat) (hmix : P.follows .mixedOrders = true) (hC : Sound P (C44 fuel)) (hF : FFits P 42 A42) (args res : List A) (h : (O42 fuel).o args some = some res) : Den P 42 args res := by
  obtain ⟨a1, l2, rfl, z0⟩ := inv_wc h
  obtain ⟨l3, rfl, z1⟩ := inv_wagg z0
  obtain ⟨c4, l5, rfl, z2⟩ := inv_wc z1
  obtain ⟨y6, y7, h8, z3⟩ := inv_wL z2
  obtain ⟨c9, l10, rfl, z4⟩ := inv_wc z3
  obtain ⟨y11, y12, h13, z5⟩ := inv_wL z4
  obtain ⟨hn, z6⟩ := inv_wn z5
  cases hn
  obtain ⟨hn, z7⟩ := inv_wn z6
  cases hn
  exact Den.weaken (.cons (WkA.agg (.cons h8 (.cons h13 .nil))) .nil) (evalF_sound hmix hC hF ((e42 fuel y6 y7 y11 y12).trans z7))
def C45 (fuel : Nat) : Oracle := (C44 fuel).add 42 (fun _ => true) (O42 fuel)
def B73cv1 (C : Oracle) (fuel : Nat) {ρ : Type} : St → (Ex → St → Option ρ) → Option ρ := fun st k => evalC C fuel A73v3 st k
def N73cv1 : St → Option St := fun s => s.norm (rl 2 5 (rl 9 10 [])) 0
def s73cv0 (x7 : Nat) (x8 : Nat → Nat → CV) (x9 : Int) (x10 : Int) : St := ⟨(.x (.c (.ro false (.pr (.int .i64) (.pr (.int .i64) .nil)) x7 x8)) :: .x (.c (.fn 49 0 (listF []))) :: (us 5 (.x (.c (.i .i64 x9)) :: .x (.c (.i .i64 x10)) :: (us 10 [])))), []⟩
def s73cv1 (x12 : Int) : St := ⟨(us 4 (.x (.c (.i .i64 x12)) :: (us 14 []))), []⟩
def s73cv2 : St := ⟨(us 19 []), []⟩
def L73cv1 {ρ : Type} (fuel : Nat) (x7 : Nat) (x8 : Nat → Nat → CV) (x9 : Int) : Nat → Int → (Int → Option ρ) → (Option ρ) → Option ρ
  | 0, _, _, _ => none
  | m + 1, x10, k0, k1 =>
    (bif (decide (x10 < x9)) then (bif (inb x10 x7) then (ob (F49 fuel (CV.int (x8 (Int.toNat x10) 0)) (CV.int (x8 (Int.toNat x10) 1))) fun x11 => (bif x11 then (k0 x10) else (L73cv1 fuel x7 x8 x9 m (w64 (x10 + 1)) k0 k1))) else none) else k1)
theorem nl73cv1 {ρ σ : Type} (fuel : Nat) (x7 : Nat) (x8 : Nat → Nat → CV) (x9 : Int) (g : ρ → Option σ) : ∀ (m : Nat) (x10 : Int) (k0 : Int → Option ρ) (k1 : Option ρ), ob (L73cv1 fuel x7 x8 x9 m x10 k0 k1) g = L73cv1 fuel x7 x8 x9 m x10 (fun x12 => ob (k0 x12) g) (ob k1 g)
  | 0, _, _, _ => rfl
  | m + 1, x10, k0, k1 => by
    simp only [L73cv1, ob_bif, ob_ob, ob_none, nl73cv1 fuel x7 x8 x9 g m]
theorem r73cv1 (fuel : Nat) (m : Nat) {ρ : Type} (k : Ex → St → Option ρ) (x7 : Nat) (x8 : Nat → Nat → CV) (x9 : Int) (x10 : Int) :
    loopH (B73cv1 (C45 fuel) fuel) N73cv1 (m + 1) (s73cv0 x7 x8 x9 x10) k =
    (bif (decide (x10 < x9)) then (bif (inb x10 x7) then (ob (F49 fuel (CV.int (x8 (Int.toNat x10) 0)) (CV.int (x8 (Int.toNat x10) 1))) fun x11 => (bif x11 then (k .ret (s73cv1 x10)) else (loopH (B73cv1 (C45 fuel) fuel) N73cv1 m (s73cv0 x7 x8 x9 (w64 (x10 + 1))) k))) else none) else (k (.exit 0) s73cv2)) := by kernel_rfl
theorem q73cv1 (fuel : Nat) (x7 : Nat) (x8 : Nat → Nat → CV) (x9 : Int) {ρ : Type} (k : Ex → St → Option ρ) : ∀ (m : Nat) (x10 : Int),
    loopH (B73cv1 (C45 fuel) fuel) N73cv1 m (s73cv0 x7 x8 x9 x10) k = L73cv1 fuel x7 x8 x9 m x10 (fun x12 => k .ret (s73cv1 x12)) (k (.exit 0) s73cv2)
  | 0, _ => rfl
  | m + 1, x10 => by
    rw [r73cv1]
    simp only [L73cv1, q73cv1 fuel x7 x8 x9 k m]
def D73c {ρ : Type} (fuel : Nat) (x1 : Nat) (x2 : Nat → Nat → CV) (k : Int → Option ρ) : Option ρ :=
  (L73cv1 fuel x1 x2 (Int.ofNat x1) fuel 0
    (fun x13 => (k x13))
    (k (-1)))
def F73c (fuel : Nat) (x1 : Nat) (x2 : Nat → Nat → CV) : Option (Int) := D73c fuel x1 x2 some
theorem n73c {ρ σ : Type} (fuel : Nat) (x1 : Nat) (x2 : Nat → Nat → CV) (k : (Int) → Option ρ) (g : ρ → Option σ) : ob (D73c fuel x1 x2 k) g = D73c fuel x1 x2 fun t => ob (k t) g := by
  simp only [D73c, ob_bif, ob_ob, ob_none, nl73cv1]
theorem f73c {ρ : Type} (fuel : Nat) (x1 : Nat) (x2 : Nat → Nat → CV) (k : (Int) → Option ρ) : D73c fuel x1 x2 k = ob (F73c fuel x1 x2) k := by
  unfold F73c
  rw [n73c]
  simp only [ob_some]
def s73cv3 (x1 : Nat) (x2 : Nat → Nat → CV) : St := ⟨[.x (.c (.ro false (.pr (.int .i64) (.pr (.int .i64) .nil)) x1 x2)), .x (.c (.fn 49 0 (listF []))), .undef, .undef, .x (.c (.i .i64 0)), .undef, .x (.c (.ro false (.pr (.int .i64) (.pr (.int .i64) .nil)) x1 x2)), .x (.c (.i .i64 (Int.ofNat x1))), .x (.c (.i .i64 0)), .undef, .undef, .undef, .undef, .undef, .undef, .undef, .undef, .undef, .undef], []⟩
theorem walk73c (fuel : Nat) (x1 : Nat) (x2 : Nat → Nat → CV) :
    evalF (C45 fuel) fuel A73 [.v (.ro false (.pr (.int .i64) (.pr (.int .i64) .nil)) x1 x2), .v (.fn 49 0 (listF []))] =
    (loopN (B73cv1 (C45 fuel) fuel) N73cv1 fuel (s73cv3 x1 x2) (kBlk 0 (kSeq (C45 fuel) fuel (rl 4 15 []) A73v4 (finish A73)))) := by kernel_rfl
theorem t73cv1 (fuel : Nat) {ρ : Type} (k : Ex → St → Option ρ) (x1 : Nat) (x2 : Nat → Nat → CV) :
    loopN (B73cv1 (C45 fuel) fuel) N73cv1 fuel (s73cv3 x1 x2) k =
    L73cv1 fuel x1 x2 (Int.ofNat x1) fuel 0 (fun x12 => k .ret (s73cv1 x12)) (k (.exit 0) s73cv2) :=
  (loopN_at (st' := (s73cv0 x1 x2 (Int.ofNat x1) 0)) (by kernel_rfl)).trans (q73cv1 fuel x1 x2 (Int.ofNat x1) k fuel 0)
theorem g73cv2 (fuel : Nat) (x13 : Int) :
    (kBlk 0 (kSeq (C45 fuel) fuel (rl 4 15 []) A73v4 (finish A73))) .ret (s73cv1 x13) =
    (some [.v (.i .i64 x13)]) := by kernel_rfl
theorem g73cv3 (fuel : Nat) :
    (kBlk 0 (kSeq (C45 fuel) fuel (rl 4 15 []) A73v4 (finish A73))) (.exit 0) s73cv2 =
    (some [.v (.i .i64 (-1))]) := by kernel_rfl
theorem e73c (fuel : Nat) (x1 : Nat) (x2 : Nat → Nat → CV) : evalF (C45 fuel) fuel A73 [.v (.ro false (.pr (.int .i64) (.pr (.int .i64) .nil)) x1 x2), .v (.fn 49 0 (listF []))] = ob (F73c fuel x1 x2) fun t => some [.v (.i .i64 t)] := by
  rw [walk73c, ← f73c]
  simp only [D73c, t73cv1, g73cv2, g73cv3]
def O73c (fuel : Nat) : Ora where
  o := fun args {ρ} K =>
    wc args fun a1 l2 =>
    wv a1 fun c3 =>
    wL (.pr (.int .i64) (.pr (.int .i64) .nil)) c3 fun y4 y5 =>
    wc l2 fun a7 l8 =>
    wv a7 fun c9 =>
    wFn 49 0 c9 fun y10 =>
    wn l8 <|
    (ob (F73c fuel y4 y5) fun t => K [.v (.i .i64 t)])
  nat := fun args {ρ} K => by
    simp only [bind_wc, bind_wn, bind_wv, bind_wagg, bind_wI, bind_wB, bind_wS, bind_wL, bind_wP, bind_wFn, bind_ob, Option.bind_some]
theorem d73c {P : Program} (fuel : Nat) (hmix : P.follows .mixedOrders = true) (hC : Sound P (C45 fuel)) (hF : FFits P 73 A73) (args res : List A) (h : (O73c fuel).o args some = some res) : Den P 73 args res := by
  obtain ⟨a1, l2, rfl, z0⟩ := inv_wc h
  obtain ⟨c3, rfl, z1⟩ := inv_wv z0
  obtain ⟨y4, y5, h6, z2⟩ := inv_wL z1
  obtain ⟨a7, l8, rfl, z3⟩ := inv_wc z2
  obtain ⟨c9, rfl, z4⟩ := inv_wv z3
  obtain ⟨y10, h11, z5⟩ := inv_wFn z4
  obtain ⟨hn, z6⟩ := inv_wn z5
  cases hn
  exact Den.weaken (.cons (WkA.v h6) (.cons (WkA.v (wk_fn0 h11)) .nil)) (evalF_sound hmix hC hF ((e73c fuel y4 y5).trans z6))
def C46 (fuel : Nat) : Oracle := (C45 fuel).add 73 (fun l => isFn 49 l 1) (O73c fuel)
def D50c {ρ : Type} (fuel : Nat) (x1 : Nat) (x2 : Nat → Nat → CV) (k : Bool → Option ρ) : Option ρ :=
  (ob (F73c fuel x1 x2) fun x3 => (k (decide (x3 ≥ 0))))
def F50c (fuel : Nat) (x1 : Nat) (x2 : Nat → Nat → CV) : Option (Bool) := D50c fuel x1 x2 some
theorem n50c {ρ σ : Type} (fuel : Nat) (x1 : Nat) (x2 : Nat → Nat → CV) (k : (Bool) → Option ρ) (g : ρ → Option σ) : ob (D50c fuel x1 x2 k) g = D50c fuel x1 x2 fun t => ob (k t) g := by
  simp only [D50c, ob_bif, ob_ob, ob_none]
theorem f50c {ρ : Type} (fuel : Nat) (x1 : Nat) (x2 : Nat → Nat → CV) (k : (Bool) → Option ρ) : D50c fuel x1 x2 k = ob (F50c fuel x1 x2) k := by
  unfold F50c
  rw [n50c]
  simp only [ob_some]
theorem walk50c (fuel : Nat) (x1 : Nat) (x2 : Nat → Nat → CV) :
    evalF (C46 fuel) fuel A50 [.v (.ro false (.pr (.int .i64) (.pr (.int .i64) .nil)) x1 x2), .v (.fn 49 0 (listF []))] =
    (ob (F73c fuel x1 x2) fun x3 => (some [.v (.b (decide (x3 ≥ 0)))])) := by kernel_rfl
theorem e50c (fuel : Nat) (x1 : Nat) (x2 : Nat → Nat → CV) : evalF (C46 fuel) fuel A50 [.v (.ro false (.pr (.int .i64) (.pr (.int .i64) .nil)) x1 x2), .v (.fn 49 0 (listF []))] = ob (F50c fuel x1 x2) fun t => some [.v (.b t)] := by
  rw [walk50c, ← f50c]
  simp only [D50c]
def O50c (fuel : Nat) : Ora where
  o := fun args {ρ} K =>
    wc args fun a1 l2 =>
    wv a1 fun c3 =>
    wL (.pr (.int .i64) (.pr (.int .i64) .nil)) c3 fun y4 y5 =>
    wc l2 fun a7 l8 =>
    wv a7 fun c9 =>
    wFn 49 0 c9 fun y10 =>
    wn l8 <|
    (ob (F50c fuel y4 y5) fun t => K [.v (.b t)])
  nat := fun args {ρ} K => by
    simp only [bind_wc, bind_wn, bind_wv, bind_wagg, bind_wI, bind_wB, bind_wS, bind_wL, bind_wP, bind_wFn, bind_ob, Option.bind_some]
theorem d50c {P : Program} (fuel : Nat) (hmix : P.follows .mixedOrders = true) (hC : Sound P (C46 fuel)) (hF : FFits P 50 A50) (args res : List A) (h : (O50c fuel).o args some = some res) : Den P 50 args res := by
  obtain ⟨a1, l2, rfl, z0⟩ := inv_wc h
  obtain ⟨c3, rfl, z1⟩ := inv_wv z0
  obtain ⟨y4, y5, h6, z2⟩ := inv_wL z1
  obtain ⟨a7, l8, rfl, z3⟩ := inv_wc z2
  obtain ⟨c9, rfl, z4⟩ := inv_wv z3
  obtain ⟨y10, h11, z5⟩ := inv_wFn z4
  obtain ⟨hn, z6⟩ := inv_wn z5
  cases hn
  exact Den.weaken (.cons (WkA.v h6) (.cons (WkA.v (wk_fn0 h11)) .nil)) (evalF_sound hmix hC hF ((e50c fuel y4 y5).trans z6))
def C47 (fuel : Nat) : Oracle := (C46 fuel).add 50 (fun l => isFn 49 l 1) (O50c fuel)
def A51v1 : AC := (.seq (.block 3
  (.region 9 [o1 23 (.fieldAddr 34 (tm 6) 1 1), o1 24 (.load 3 none (tm 23)), o1 25 (.unOp .neg 3 (tm 24)), o1 26 (.fieldAddr 34 (tm 6) 0 0), o1 27 (.load 3 none (tm 26)), o1 28 (.build 34 [.c (.i .i64 0), .c (.i .i64 0)] [(0, 1), (1, 1)] 0 [(0, (tm 25)), (1, (tm 27))]), o0 (.store 34 2 (tm 6) (tm 28))] 0 none)) []
  (.region 10 [o1 29 (.binOp .add 3 (tm 21) (ic 1) 3), mv 21 29] 0 none))
def A51v2 : AC := (.seq (.region 8 [o1 22 (.binOp .lss 3 (tm 21) (tm 20) 3)] 0 none) []
  (.seq (.cond (tm 22)
  .skip
  (.exit 2 (0 :: 2 :: 3 :: 5 :: (rl 10 42 [])))) []
  A51v1))
def A51v3 : AC := (.region 11 [mv 30 4, o1 31 (.fieldAddr 34 (tm 6) 0 0), o1 32 (.load 3 none (tm 31)), o1 33 (.fieldAddr 41 (tm 1) 1 1), o1 34 (.fieldAddr 34 (tm 33) 0 0), o1 35 (.load 3 none (tm 34)), o1 36 (.binOp .add 3 (tm 32) (tm 35) 3), o1 37 (.fieldAddr 34 (tm 6) 1 1), o1 38 (.load 3 none (tm 37)), o1 39 (.fieldAddr 41 (tm 1) 1 1), o1 40 (.fieldAddr 34 (tm 39) 1 1), o1 41 (.load 3 none (tm 40)), o1 42 (.binOp .add 3 (tm 38) (tm 41) 3), o1 43 (.build 34 [.c (.i .i64 0), .c (.i .i64 0)] [(0, 1), (1, 1)] 0 [(0, (tm 36)), (1, (tm 42))]), o1 44 (.buildSlice 0 22 34 (.pr (.int .i64) (.pr (.int .i64) .nil)) 1 [.c (.i .i64 0), .c (.i .i64 0)] [(0, (tm 43))]), o1 45 (.append 1 22 34 (.pr (.int .i64) (.pr (.int .i64) .nil)) 16 (tm 30) (tm 44)), o1 4 (.assign (tm 45))] 2 none)
def A51v4 : AC := (.seq (.seq (.region 7 [o1 19 (.fieldAddr 41 (tm 1) 2 3), o1 20 (.load 3 none (tm 19)), o1 21 (.move (ic 0))] 0 none) []
  (.block 2
  (.loop [] (0 :: 2 :: 3 :: 5 :: (rl 10 10 (rl 22 30 [])))
    A51v2))) (rl 19 11 [])
  A51v3)
def A51v5 : AC := (.region 12 [o1 46 (.binOp .add 3 (tm 9) (ic 1) 3), mv 9 46] 0 none)
def A51v6 : AC := (.seq (.block 1
  (.seq (.region 4 [o1 11 (.indexAddr 22 34 2 (tm 7) (tm 9)), o1 12 (.load 34 (some 2) (tm 11)), o1 6 (.alloc 0 34 [.c (.i .i64 0), .c (.i .i64 0)]), o0 (.store 34 2 (tm 6) (tm 12))] 1 none) []
    (.seq (.seq (.region 5 [o1 13 (.fieldAddr 41 (tm 1) 3 4), o1 14 (.load 4 none (tm 13))] 0 none) []
    (.cond (tm 14)
    (.region 6 [o1 15 (.fieldAddr 34 (tm 6) 0 0), o1 16 (.load 3 none (tm 15)), o1 17 (.unOp .neg 3 (tm 16)), o1 18 (.fieldAddr 34 (tm 6) 0 0), o0 (.store 3 1 (tm 18) (tm 17))] 0 none)
    .skip)) (rl 13 6 [])
    A51v4))) (6 :: (rl 11 35 []))
  A51v5)
def A51v7 : AC := (.seq (.region 3 [o1 10 (.binOp .lss 3 (tm 9) (tm 8) 3)] 0 none) []
  (.seq (.cond (tm 10)
  .skip
  (.exit 0 (0 :: 2 :: 3 :: (rl 5 47 [])))) []
  A51v6))
def A51v8 : AC := (.seq (.region 15 [mv 51 4, o1 3 (.assign (tm 51))] 0 none) []
  (.ret (0 :: 1 :: 2 :: (rl 4 48 []))))
def A51v9 : AC := (.seq (.seq (.region 13 [o1 47 (.fieldAddr 41 (tm 1) 3 4), o1 48 (.load 4 none (tm 47))] 0 none) []
  (.cond (tm 48)
  (.region 14 [mv 49 4, o1 50 (.turn 52 (tm 49) [] [22])] 0 none)
  .skip)) (rl 47 4 [])
  A51v8)
def A51 : AF := ⟨52, [.tmp 3],
  (.seq (.region 0 [o1 3 (.assign (.const (.slice none 0 0)))] 0 none) []
  (.seq (.region 1 [o1 4 (.assign (.const (.slice none 0 0)))] 0 none) []
  (.seq (.seq (.region 2 [mv 7 0, o1 8 (.len 22 false (tm 7)), o1 9 (.move (ic 0))] 0 none) []
  (.block 0
  (.loop [.slot 4 (.pr (.int .i64) (.pr (.int .i64) .nil))] (0 :: 2 :: 3 :: 5 :: 6 :: (rl 10 42 []))
    A51v7))) (rl 6 41 [])
  A51v9)))⟩
def B51v2 (C : Oracle) (fuel : Nat) {ρ : Type} : St → (Ex → St → Option ρ) → Option ρ := fun st k => evalC C fuel A51v2 st k
def N51v2 : St → Option St := fun s => s.norm (0 :: 2 :: 3 :: 5 :: (rl 10 10 (rl 22 30 []))) 2
def s51v0 (x46 : Nat → CV) (x47 : Nat) (x48 : Nat) (x49 : Nat → Nat → CV) (x50 : Int) (x51 : Int) (x52 : Int) (x53 : Int) (x54 : Nat → Nat → CV) (x55 : Int) (x56 : Int) : St := ⟨(.u :: .x (.c (.rp (.pr .str (.pr (.int .i64) (.pr (.int .i64) (.pr (.int .i64) (.pr .bool .nil))))) x46)) :: .u :: .u :: .x (.own 0 0 x47) :: .u :: .x (.ptr 1 0) :: .x (.c (.ro false (.pr (.int .i64) (.pr (.int .i64) .nil)) x48 x49)) :: .x (.c (.i .i64 x50)) :: .x (.c (.i .i64 x51)) :: (us 10 (.x (.c (.i .i64 x52)) :: .x (.c (.i .i64 x53)) :: (us 30 [])))), [.arr (.pr (.int .i64) (.pr (.int .i64) .nil)) x47 x54, .box [(.c (.i .i64 x55)), (.c (.i .i64 x56))]]⟩
def s51v1 (x46 : Nat → CV) (x47 : Nat) (x48 : Nat) (x49 : Nat → Nat → CV) (x50 : Int) (x51 : Int) (x54 : Nat → Nat → CV) (x57 : Int) (x58 : Int) : St := ⟨(.u :: .x (.c (.rp (.pr .str (.pr (.int .i64) (.pr (.int .i64) (.pr (.int .i64) (.pr .bool .nil))))) x46)) :: .u :: .u :: .x (.own 0 0 x47) :: .u :: .x (.ptr 1 0) :: .x (.c (.ro false (.pr (.int .i64) (.pr (.int .i64) .nil)) x48 x49)) :: .x (.c (.i .i64 x50)) :: .x (.c (.i .i64 x51)) :: (us 42 [])), [.arr (.pr (.int .i64) (.pr (.int .i64) .nil)) x47 x54, .box [(.c (.i .i64 x57)), (.c (.i .i64 x58))]]⟩
def L51v2 {ρ : Type} (fuel : Nat) (x46 : Nat → CV) (x47 : Nat) (x48 : Nat) (x49 : Nat → Nat → CV) (x50 : Int) (x51 : Int) (x52 : Int) (x54 : Nat → Nat → CV) : Nat → Int → Int → Int → (Int → Int → Option ρ) → Option ρ
  | 0, _, _, _, _ => none
  | m + 1, x53, x55, x56, k0 =>
    (bif (decide (x53 < x52)) then (L51v2 fuel x46 x47 x48 x49 x50 x51 x52 x54 m (w64 (x53 + 1)) (w64 (0 - x56)) x55 k0) else (k0 x55 x56))
theorem nl51v2 {ρ σ : Type} (fuel : Nat) (x46 : Nat → CV) (x47 : Nat) (x48 : Nat) (x49 : Nat → Nat → CV) (x50 : Int) (x51 : Int) (x52 : Int) (x54 : Nat → Nat → CV) (g : ρ → Option σ) : ∀ (m : Nat) (x53 : Int) (x55 : Int) (x56 : Int) (k0 : Int → Int → Option ρ), ob (L51v2 fuel x46 x47 x48 x49 x50 x51 x52 x54 m x53 x55 x56 k0) g = L51v2 fuel x46 x47 x48 x49 x50 x51 x52 x54 m x53 x55 x56 (fun x57 x58 => ob (k0 x57 x58) g)
  | 0, _, _, _, _ => rfl
  | m + 1, x53, x55, x56, k0 => by
    simp only [L51v2, ob_bif, ob_ob, ob_none, nl51v2 fuel x46 x47 x48 x49 x50 x51 x52 x54 g m]
theorem r51v2 (fuel : Nat) (m : Nat) {ρ : Type} (k : Ex → St → Option ρ) (x46 : Nat → CV) (x47 : Nat) (x48 : Nat) (x49 : Nat → Nat → CV) (x50 : Int) (x51 : Int) (x52 : Int) (x54 : Nat → Nat → CV) (x53 : Int) (x55 : Int) (x56 : Int) :
    loopH (B51v2 (C47 fuel) fuel) N51v2 (m + 1) (s51v0 x46 x47 x48 x49 x50 x51 x52 x53 x54 x55 x56) k =
    (bif (decide (x53 < x52)) then (loopH (B51v2 (C47 fuel) fuel) N51v2 m (s51v0 x46 x47 x48 x49 x50 x51 x52 (w64 (x53 + 1)) x54 (w64 (0 - x56)) x55) k) else (k (.exit 2) (s51v1 x46 x47 x48 x49 x50 x51 x54 x55 x56))) := by kernel_rfl
theorem q51v2 (fuel : Nat) (x46 : Nat → CV) (x47 : Nat) (x48 : Nat) (x49 : Nat → Nat → CV) (x50 : Int) (x51 : Int) (x52 : Int) (x54 : Nat → Nat → CV) {ρ : Type} (k : Ex → St → Option ρ) : ∀ (m : Nat) (x53 : Int) (x55 : Int) (x56 : Int),
    loopH (B51v2 (C47 fuel) fuel) N51v2 m (s51v0 x46 x47 x48 x49 x50 x51 x52 x53 x54 x55 x56) k = L51v2 fuel x46 x47 x48 x49 x50 x51 x52 x54 m x53 x55 x56 (fun x57 x58 => k (.exit 2) (s51v1 x46 x47 x48 x49 x50 x51 x54 x57 x58))
  | 0, _, _, _ => rfl
  | m + 1, x53, x55, x56 => by
    rw [r51v2]
    simp only [L51v2, q51v2 fuel x46 x47 x48 x49 x50 x51 x52 x54 k m]
def B51v3 (C : Oracle) (fuel : Nat) {ρ : Type} : St → (Ex → St → Option ρ) → Option ρ := fun st k => evalC C fuel A51v7 st k
def N51v3 : St → Option St := fun s => s.norm (0 :: 2 :: 3 :: 5 :: 6 :: (rl 10 42 [])) 1
def s51v2 (x29 : Nat → CV) (x30 : Nat) (x31 : Nat) (x32 : Nat → Nat → CV) (x33 : Int) (x34 : Int) (x35 : Nat → Nat → CV) : St := ⟨(.u :: .x (.c (.rp (.pr .str (.pr (.int .i64) (.pr (.int .i64) (.pr (.int .i64) (.pr .bool .nil))))) x29)) :: .u :: .u :: .x (.own 0 0 x30) :: .u :: .u :: .x (.c (.ro false (.pr (.int .i64) (.pr (.int .i64) .nil)) x31 x32)) :: .x (.c (.i .i64 x33)) :: .x (.c (.i .i64 x34)) :: (us 42 [])), [.arr (.pr (.int .i64) (.pr (.int .i64) .nil)) x30 x35]⟩
def s51v3 (x29 : Nat → CV) (x63 : Nat) (x64 : Nat → Nat → CV) : St := ⟨(.u :: .x (.c (.rp (.pr .str (.pr (.int .i64) (.pr (.int .i64) (.pr (.int .i64) (.pr .bool .nil))))) x29)) :: .u :: .u :: .x (.own 0 0 x63) :: (us 47 [])), [.arr (.pr (.int .i64) (.pr (.int .i64) .nil)) x63 x64]⟩
def L51v3 {ρ : Type} (fuel : Nat) (x29 : Nat → CV) (x31 : Nat) (x32 : Nat → Nat → CV) (x33 : Int) : Nat → Nat → Int → (Nat → Nat → CV) → (Nat → (Nat → Nat → CV) → Option ρ) → Option ρ
  | 0, _, _, _, _ => none
  | m + 1, x30, x34, x35, k0 =>
    (bif (decide (x34 < x33)) then (bif (inb x34 x31) then (bif (CV.bool (x29 4)) then (L51v2 fuel x29 x30 x31 x32 x33 x34 (CV.int (x29 3)) x35 fuel 0 (w64 (0 - (CV.int (x32 (Int.toNat x34) 0)))) (CV.int (x32 (Int.toNat x34) 1))
    (fun x59 x60 => (bif (Nat.ble (x30 + 1) 1073741824) then (L51v3 fuel x29 x31 x32 x33 m (x30 + 1) (w64 (x34 + 1)) (joinF x30 x35 (rowsF 2 [(.i .i64 (w64 (x59 + (CV.int (x29 1))))), (.i .i64 (w64 (x60 + (CV.int (x29 2)))))])) k0) else none))) else (L51v2 fuel x29 x30 x31 x32 x33 x34 (CV.int (x29 3)) x35 fuel 0 (CV.int (x32 (Int.toNat x34) 0)) (CV.int (x32 (Int.toNat x34) 1))
    (fun x61 x62 => (bif (Nat.ble (x30 + 1) 1073741824) then (L51v3 fuel x29 x31 x32 x33 m (x30 + 1) (w64 (x34 + 1)) (joinF x30 x35 (rowsF 2 [(.i .i64 (w64 (x61 + (CV.int (x29 1))))), (.i .i64 (w64 (x62 + (CV.int (x29 2)))))])) k0) else none)))) else none) else (k0 x30 x35))
theorem nl51v3 {ρ σ : Type} (fuel : Nat) (x29 : Nat → CV) (x31 : Nat) (x32 : Nat → Nat → CV) (x33 : Int) (g : ρ → Option σ) : ∀ (m : Nat) (x30 : Nat) (x34 : Int) (x35 : Nat → Nat → CV) (k0 : Nat → (Nat → Nat → CV) → Option ρ), ob (L51v3 fuel x29 x31 x32 x33 m x30 x34 x35 k0) g = L51v3 fuel x29 x31 x32 x33 m x30 x34 x35 (fun x63 x64 => ob (k0 x63 x64) g)
  | 0, _, _, _, _ => rfl
  | m + 1, x30, x34, x35, k0 => by
    simp only [L51v3, ob_bif, ob_ob, ob_none, nl51v3 fuel x29 x31 x32 x33 g m, nl51v2]
def s51v4 (x29 : Nat → CV) (x30 : Nat) (x31 : Nat) (x32 : Nat → Nat → CV) (x33 : Int) (x34 : Int) (x35 : Nat → Nat → CV) : St := ⟨(.u :: .x (.c (.rp (.pr .str (.pr (.int .i64) (.pr (.int .i64) (.pr (.int .i64) (.pr .bool .nil))))) x29)) :: .u :: .u :: .x (.own 0 0 x30) :: .u :: .x (.ptr 1 0) :: .x (.c (.ro false (.pr (.int .i64) (.pr (.int .i64) .nil)) x31 x32)) :: .x (.c (.i .i64 x33)) :: .x (.c (.i .i64 x34)) :: .x (.c (.b true)) :: .x (.c (.rp (.pr (.int .i64) (.pr (.int .i64) .nil)) (x32 (Int.toNat x34)))) :: .agg [(.c (.i .i64 (CV.int (x32 (Int.toNat x34) 0)))), (.c (.i .i64 (CV.int (x32 (Int.toNat x34) 1))))] :: (us 6 (.x (.c (.rp (.pr (.int .i64) (.pr .bool .nil)) (fun j => x29 (3 + j)))) :: .x (.c (.i .i64 (CV.int (x29 3)))) :: .x (.c (.i .i64 0)) :: (us 30 [])))), [.arr (.pr (.int .i64) (.pr (.int .i64) .nil)) x30 x35, .box [(.c (.i .i64 (w64 (0 - (CV.int (x32 (Int.toNat x34) 0)))))), (.c (.i .i64 (CV.int (x32 (Int.toNat x34) 1))))]]⟩
def s51v5 (x29 : Nat → CV) (x30 : Nat) (x31 : Nat) (x32 : Nat → Nat → CV) (x33 : Int) (x34 : Int) (x35 : Nat → Nat → CV) : St := ⟨(.u :: .x (.c (.rp (.pr .str (.pr (.int .i64) (.pr (.int .i64) (.pr (.int .i64) (.pr .bool .nil))))) x29)) :: .u :: .u :: .x (.own 0 0 x30) :: .u :: .x (.ptr 1 0) :: .x (.c (.ro false (.pr (.int .i64) (.pr (.int .i64) .nil)) x31 x32)) :: .x (.c (.i .i64 x33)) :: .x (.c (.i .i64 x34)) :: .x (.c (.b true)) :: .x (.c (.rp (.pr (.int .i64) (.pr (.int .i64) .nil)) (x32 (Int.toNat x34)))) :: .agg [(.c (.i .i64 (CV.int (x32 (Int.toNat x34) 0)))), (.c (.i .i64 (CV.int (x32 (Int.toNat x34) 1))))] :: (us 6 (.x (.c (.rp (.pr (.int .i64) (.pr .bool .nil)) (fun j => x29 (3 + j)))) :: .x (.c (.i .i64 (CV.int (x29 3)))) :: .x (.c (.i .i64 0)) :: (us 30 [])))), [.arr (.pr (.int .i64) (.pr (.int .i64) .nil)) x30 x35, .box [(.c (.i .i64 (CV.int (x32 (Int.toNat x34) 0)))), (.c (.i .i64 (CV.int (x32 (Int.toNat x34) 1))))]]⟩
theorem r51v3 (fuel : Nat) (m : Nat) {ρ : Type} (k : Ex → St → Option ρ) (x29 : Nat → CV) (x31 : Nat) (x32 : Nat → Nat → CV) (x33 : Int) (x30 : Nat) (x34 : Int) (x35 : Nat → Nat → CV) :
    loopH (B51v3 (C47 fuel) fuel) N51v3 (m + 1) (s51v2 x29 x30 x31 x32 x33 x34 x35) k =
    (bif (decide (x34 < x33)) then (bif (inb x34 x31) then (bif (CV.bool (x29 4)) then (loopN (B51v2 (C47 fuel) fuel) N51v2 fuel (s51v4 x29 x30 x31 x32 x33 x34 x35) (kBlk 2 (kSeq (C47 fuel) fuel (rl 19 11 []) A51v3 (kBlk 1 (kSeq (C47 fuel) fuel (6 :: (rl 11 35 [])) A51v5 (kLoop (B51v3 (C47 fuel) fuel) N51v3 m k)))))) else (loopN (B51v2 (C47 fuel) fuel) N51v2 fuel (s51v5 x29 x30 x31 x32 x33 x34 x35) (kBlk 2 (kSeq (C47 fuel) fuel (rl 19 11 []) A51v3 (kBlk 1 (kSeq (C47 fuel) fuel (6 :: (rl 11 35 [])) A51v5 (kLoop (B51v3 (C47 fuel) fuel) N51v3 m k))))))) else none) else (k (.exit 0) (s51v3 x29 x30 x35))) := by kernel_rfl
theorem t51v1 (fuel : Nat) {ρ : Type} (k : Ex → St → Option ρ) (x29 : Nat → CV) (x30 : Nat) (x31 : Nat) (x32 : Nat → Nat → CV) (x33 : Int) (x34 : Int) (x35 : Nat → Nat → CV) :
    loopN (B51v2 (C47 fuel) fuel) N51v2 fuel (s51v4 x29 x30 x31 x32 x33 x34 x35) k =
    L51v2 fuel x29 x30 x31 x32 x33 x34 (CV.int (x29 3)) x35 fuel 0 (w64 (0 - (CV.int (x32 (Int.toNat x34) 0)))) (CV.int (x32 (Int.toNat x34) 1)) (fun x57 x58 => k (.exit 2) (s51v1 x29 x30 x31 x32 x33 x34 x35 x57 x58)) :=
  (loopN_at (st' := (s51v0 x29 x30 x31 x32 x33 x34 (CV.int (x29 3)) 0 x35 (w64 (0 - (CV.int (x32 (Int.toNat x34) 0)))) (CV.int (x32 (Int.toNat x34) 1)))) (by kernel_rfl)).trans (q51v2 fuel x29 x30 x31 x32 x33 x34 (CV.int (x29 3)) x35 k fuel 0 (w64 (0 - (CV.int (x32 (Int.toNat x34) 0)))) (CV.int (x32 (Int.toNat x34) 1)))
theorem g51v2 (fuel : Nat) (m : Nat) {ρ : Type} (k : Ex → St → Option ρ) (x29 : Nat → CV) (x30 : Nat) (x31 : Nat) (x32 : Nat → Nat → CV) (x33 : Int) (x34 : Int) (x35 : Nat → Nat → CV) (x59 : Int) (x60 : Int) :
    (kBlk 2 (kSeq (C47 fuel) fuel (rl 19 11 []) A51v3 (kBlk 1 (kSeq (C47 fuel) fuel (6 :: (rl 11 35 [])) A51v5 (kLoop (B51v3 (C47 fuel) fuel) N51v3 m k))))) (.exit 2) (s51v1 x29 x30 x31 x32 x33 x34 x35 x59 x60) =
    (bif (Nat.ble (x30 + 1) 1073741824) then (loopH (B51v3 (C47 fuel) fuel) N51v3 m (s51v2 x29 (x30 + 1) x31 x32 x33 (w64 (x34 + 1)) (joinF x30 x35 (rowsF 2 [(.i .i64 (w64 (x59 + (CV.int (x29 1))))), (.i .i64 (w64 (x60 + (CV.int (x29 2)))))]))) k) else none) := by kernel_rfl
theorem t51v3 (fuel : Nat) {ρ : Type} (k : Ex → St → Option ρ) (x29 : Nat → CV) (x30 : Nat) (x31 : Nat) (x32 : Nat → Nat → CV) (x33 : Int) (x34 : Int) (x35 : Nat → Nat → CV) :
    loopN (B51v2 (C47 fuel) fuel) N51v2 fuel (s51v5 x29 x30 x31 x32 x33 x34 x35) k =
    L51v2 fuel x29 x30 x31 x32 x33 x34 (CV.int (x29 3)) x35 fuel 0 (CV.int (x32 (Int.toNat x34) 0)) (CV.int (x32 (Int.toNat x34) 1)) (fun x57 x58 => k (.exit 2) (s51v1 x29 x30 x31 x32 x33 x34 x35 x57 x58)) :=
  (loopN_at (st' := (s51v0 x29 x30 x31 x32 x33 x34 (CV.int (x29 3)) 0 x35 (CV.int (x32 (Int.toNat x34) 0)) (CV.int (x32 (Int.toNat x34) 1)))) (by kernel_rfl)).trans (q51v2 fuel x29 x30 x31 x32 x33 x34 (CV.int (x29 3)) x35 k fuel 0 (CV.int (x32 (Int.toNat x34) 0)) (CV.int (x32 (Int.toNat x34) 1)))
theorem g51v4 (fuel : Nat) (m : Nat) {ρ : Type} (k : Ex → St → Option ρ) (x29 : Nat → CV) (x30 : Nat) (x31 : Nat) (x32 : Nat → Nat → CV) (x33 : Int) (x34 : Int) (x35 : Nat → Nat → CV) (x61 : Int) (x62 : Int) :
    (kBlk 2 (kSeq (C47 fuel) fuel (rl 19 11 []) A51v3 (kBlk 1 (kSeq (C47 fuel) fuel (6 :: (rl 11 35 [])) A51v5 (kLoop (B51v3 (C47 fuel) fuel) N51v3 m k))))) (.exit 2) (s51v1 x29 x30 x31 x32 x33 x34 x35 x61 x62) =
    (bif (Nat.ble (x30 + 1) 1073741824) then (loopH (B51v3 (C47 fuel) fuel) N51v3 m (s51v2 x29 (x30 + 1) x31 x32 x33 (w64 (x34 + 1)) (joinF x30 x35 (rowsF 2 [(.i .i64 (w64 (x61 + (CV.int (x29 1))))), (.i .i64 (w64 (x62 + (CV.int (x29 2)))))]))) k) else none) := by kernel_rfl
theorem q51v3 (fuel : Nat) (x29 : Nat → CV) (x31 : Nat) (x32 : Nat → Nat → CV) (x33 : Int) {ρ : Type} (k : Ex → St → Option ρ) : ∀ (m : Nat) (x30 : Nat) (x34 : Int) (x35 : Nat → Nat → CV),
    loopH (B51v3 (C47 fuel) fuel) N51v3 m (s51v2 x29 x30 x31 x32 x33 x34 x35) k = L51v3 fuel x29 x31 x32 x33 m x30 x34 x35 (fun x63 x64 => k (.exit 0) (s51v3 x29 x63 x64))
  | 0, _, _, _ => rfl
  | m + 1, x30, x34, x35 => by
    rw [r51v3]
    simp only [L51v3, q51v3 fuel x29 x31 x32 x33 k m, t51v1, g51v2, t51v3, g51v4]
def D51 {ρ : Type} (fuel : Nat) (x1 : Nat) (x2 : Nat → Nat → CV) (x3 : Nat → CV) (k : (Nat × (Nat → Nat → CV)) → Option ρ) : Option ρ :=
  (L51v3 fuel x3 x1 x2 (Int.ofNat x1) fuel 0 0 (fun _ _ => .any)
    (fun x65 x66 => (bif (CV.bool (x3 4)) then (bif (Nat.beq x65 x65) then (bif (Nat.beq x65 0) then (k (x65, x66)) else (k (x65, (revF x65 x66)))) else none) else (k (x65, x66)))))
def F51 (fuel : Nat) (x1 : Nat) (x2 : Nat → Nat → CV) (x3 : Nat → CV) : Option (Nat × (Nat → Nat → CV)) := D51 fuel x1 x2 x3 some
theorem n51 {ρ σ : Type} (fuel : Nat) (x1 : Nat) (x2 : Nat → Nat → CV) (x3 : Nat → CV) (k : (Nat × (Nat → Nat → CV)) → Option ρ) (g : ρ → Option σ) : ob (D51 fuel x1 x2 x3 k) g = D51 fuel x1 x2 x3 fun t => ob (k t) g := by
  simp only [D51, ob_bif, ob_ob, ob_none, nl51v3]
theorem f51 {ρ : Type} (fuel : Nat) (x1 : Nat) (x2 : Nat → Nat → CV) (x3 : Nat → CV) (k : (Nat × (Nat → Nat → CV)) → Option ρ) : D51 fuel x1 x2 x3 k = ob (F51 fuel x1 x2 x3) k := by
  unfold F51
  rw [n51]
  simp only [ob_some]
def s51v6 (x1 : Nat) (x2 : Nat → Nat → CV) (x3 : Nat → CV) : St := ⟨[.x (.c (.ro false (.pr (.int .i64) (.pr (.int .i64) .nil)) x1 x2)), .x (.c (.rp (.pr .str (.pr (.int .i64) (.pr (.int .i64) (.pr (.int .i64) (.pr .bool .nil))))) x3)), .undef, .x (.c (.ro true .nil 0 (fun _ _ => .any))), .x (.own 0 0 0), .undef, .undef, .x (.c (.ro false (.pr (.int .i64) (.pr (.int .i64) .nil)) x1 x2)), .x (.c (.i .i64 (Int.ofNat x1))), .x (.c (.i .i64 0)), .undef, .undef, .undef, .undef, .undef, .undef, .undef, .undef, .undef, .undef, .undef, .undef, .undef, .undef, .undef, .undef, .undef, .undef, .undef, .undef, .undef, .undef, .undef, .undef, .undef, .undef, .undef, .undef, .undef, .undef, .undef, .undef, .undef, .undef, .undef, .undef, .undef, .undef, .undef, .undef, .undef, .undef], [.arr (.pr (.int .i64) (.pr (.int .i64) .nil)) 0 (fun _ _ => .any)]⟩
theorem walk51 (fuel : Nat) (x1 : Nat) (x2 : Nat → Nat → CV) (x3 : Nat → CV) :
    evalF (C47 fuel) fuel A51 [.v (.ro false (.pr (.int .i64) (.pr (.int .i64) .nil)) x1 x2), .v (.rp (.pr .str (.pr (.int .i64) (.pr (.int .i64) (.pr (.int .i64) (.pr .bool .nil))))) x3)] =
    (loopN (B51v3 (C47 fuel) fuel) N51v3 fuel (s51v6 x1 x2 x3) (kBlk 0 (kSeq (C47 fuel) fuel (rl 6 41 []) A51v9 (finish A51)))) := by kernel_rfl
theorem t51v5 (fuel : Nat) {ρ : Type} (k : Ex → St → Option ρ) (x1 : Nat) (x2 : Nat → Nat → CV) (x3 : Nat → CV) :
    loopN (B51v3 (C47 fuel) fuel) N51v3 fuel (s51v6 x1 x2 x3) k =
    L51v3 fuel x3 x1 x2 (Int.ofNat x1) fuel 0 0 (fun _ _ => .any) (fun x63 x64 => k (.exit 0) (s51v3 x3 x63 x64)) :=
  (loopN_at (st' := (s51v2 x3 0 x1 x2 (Int.ofNat x1) 0 (fun _ _ => .any))) (by kernel_rfl)).trans (q51v3 fuel x3 x1 x2 (Int.ofNat x1) k fuel 0 0 (fun _ _ => .any))
theorem g51v6 (fuel : Nat) (x3 : Nat → CV) (x65 : Nat) (x66 : Nat → Nat → CV) :
    (kBlk 0 (kSeq (C47 fuel) fuel (rl 6 41 []) A51v9 (finish A51))) (.exit 0) (s51v3 x3 x65 x66) =
    (bif (CV.bool (x3 4)) then (bif (Nat.beq x65 x65) then (bif (Nat.beq x65 0) then (some [.v (.ro false (.pr (.int .i64) (.pr (.int .i64) .nil)) x65 x66)]) else (some [.v (.ro false (.pr (.int .i64) (.pr (.int .i64) .nil)) x65 (revF x65 x66))])) else none) else (some [.v (.ro false (.pr (.int .i64) (.pr (.int .i64) .nil)) x65 x66)])) := by kernel_rfl
theorem e51 (fuel : Nat) (x1 : Nat) (x2 : Nat → Nat → CV) (x3 : Nat → CV) : evalF (C47 fuel) fuel A51 [.v (.ro false (.pr (.int .i64) (.pr (.int .i64) .nil)) x1 x2), .v (.rp (.pr .str (.pr (.int .i64) (.pr (.int .i64) (.pr (.int .i64) (.pr .bool .nil))))) x3)] = ob (F51 fuel x1 x2 x3) fun t => some [.v (.ro false (.pr (.int .i64) (.pr (.int .i64) .nil)) t.1 t.2)] := by
  rw [walk51, ← f51]
  simp only [D51, t51v5, g51v6]
def O51 (fuel : Nat) : Ora where
  o := fun args {ρ} K =>
    wc args fun a1 l2 =>
    wv a1 fun c3 =>
    wL (.pr (.int .i64) (.pr (.int .i64) .nil)) c3 fun y4 y5 =>
    wc l2 fun a7 l8 =>
    wv a7 fun c9 =>
    wP (.pr .str (.pr (.int .i64) (.pr (.int .i64) (.pr (.int .i64) (.pr .bool .nil))))) c9 fun y10 =>
    wn l8 <|
    (ob (F51 fuel y4 y5 y10) fun t => K [.v (.ro false (.pr (.int .i64) (.pr (.int .i64) .nil)) t.1 t.2)])
  nat := fun args {ρ} K => by
    simp only [bind_wc, bind_wn, bind_wv, bind_wagg, bind_wI, bind_wB, bind_wS, bind_wL, bind_wP, bind_wFn, bind_ob, Option.bind_some]
theorem d51 {P : Program} (fuel : Nat) (hmix : P.follows .mixedOrders = true) (hC : Sound P (C47 fuel)) (hF : FFits P 51 A51) (args res : List A) (h : (O51 fuel).o args some = some res) : Den P 51 args res := by
  obtain ⟨a1, l2, rfl, z0⟩ := inv_wc h
  obtain ⟨c3, rfl, z1⟩ := inv_wv z0
  obtain ⟨y4, y5, h6, z2⟩ := inv_wL z1
  obtain ⟨a7, l8, rfl, z3⟩ := inv_wc z2
  obtain ⟨c9, rfl, z4⟩ := inv_wv z3
  obtain ⟨y10, h11, z5⟩ := inv_wP z4
  obtain ⟨hn, z6⟩ := inv_wn z5
  cases hn
  exact Den.weaken (.cons (WkA.v h6) (.cons (WkA.v (wk_rp h11)) .nil)) (evalF_sound hmix hC hF ((e51 fuel y4 y5 y10).trans z6))
def C48 (fuel : Nat) : Oracle := (C47 fuel).add 51 (fun _ => true) (O51 fuel)
end Go.Eng.R13
