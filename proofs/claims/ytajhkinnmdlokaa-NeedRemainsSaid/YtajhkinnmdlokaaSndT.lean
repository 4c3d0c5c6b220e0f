/-
 All functions are sound; printed by decomp.py.
-/
import Derived.Test.YtajhkinnmdlokaaDecT1
import Derived.Test.YtajhkinnmdlokaaDySort
import Derived.Test.YtajhkinnmdlokaaEngV
import Derived.Test.YtajhkinnmdlokaaNyLay
import Derived.Test.YtajhkinnmdlokaaEngX
import Derived.Test.YtajhkinnmdlokaaNmNum
import Derived.Test.YtajhkinnmdlokaaProg
set_option linter.all false
set_option maxRecDepth 1000000
set_option maxHeartbeats 4000000
namespace Go.Eng.R13
open Go Go.RowKit Go.Eng Go.Proofs
abbrev hM : Prop := Try.prog.follows .mixedOrders = true
variable (u : Nat)
theorem S0 (fuel : Nat) (hmix : Try.prog.follows .mixedOrders = true) : Sound Try.prog (C0 fuel) where
 call := fun f args res h => by cases h
 turn := fun f r n g rest g' h => by cases h
 fresh := fun f r args n g h hn => by
  unfold C0 at h
  dsimp only at h
  split at h
  ·obtain ⟨h1, _⟩ := bif_some h
   cases h1
  ·cases h
 cut := fun f r n g rest m g' h _ => by
  have h : (none : Option (Nat × FF)) = some (m, g') := h
  cases h
theorem fits20 : FFits Try.prog 20 A20 := ffits_of Try.func20 (by kernel_rfl) rfl (by kernel_rfl) rfl
theorem S1 (h : hM) : Sound Try.prog (C1 u) := (S0 u h).add (d268 u h (S0 u h) fits20)
theorem fits7 : FFits Try.prog 7 A7 := ffits_of Try.func7 (by kernel_rfl) rfl (by kernel_rfl) rfl
theorem S2 (h : hM) : Sound Try.prog (C2 u) := (S1 u h).add (d274 u h (S1 u h) fits7)
theorem fits21 : FFits Try.prog 21 A21 := ffits_of Try.func21 (by kernel_rfl) rfl (by kernel_rfl) rfl
theorem S3 (h : hM) : Sound Try.prog (C3 u) := (S2 u h).add (d272 u h (S2 u h) fits21)
theorem fits22 : FFits Try.prog 22 A22 := ffits_of Try.func22 (by kernel_rfl) rfl (by kernel_rfl) rfl
theorem S4 (h : hM) : Sound Try.prog (C4 u) := (S3 u h).add (d251 u h (S3 u h) fits22)
theorem num275 (args res : List A) (h : (O275 u).o args some = some res) : Den Try.prog 26 args res := by
 obtain ⟨a, ha, hk⟩ := (q1 (av (cL strK))).inv args _ res h
 obtain ⟨t, ht, hk⟩ := ob_inv hk
 cases hk
 obtain ⟨h1, h2⟩ := bif_some (show (bif Nat.ble a.1 1073741824 then some (a.1, a.2) else none) = some t from ht)
 cases h2
 exact Den.weaken ha (numbers_law false a.1 a.2 (Nat.le_of_ble_eq_true h1))
theorem S5 (h : hM) : Sound Try.prog (C5 u) := (S4 u h).add (num275 u)
theorem fits42 : FFits Try.prog 42 A42 := ffits_of Try.func42 (by kernel_rfl) rfl (by kernel_rfl) rfl
theorem S6 (h : hM) : Sound Try.prog (C6 u) := (S5 u h).add (d90 u h (S5 u h) fits42)
theorem fits30 : FFits Try.prog 30 A30 := ffits_of Try.func30 (by kernel_rfl) rfl (by kernel_rfl) rfl
theorem S7 (h : hM) : Sound Try.prog (C7 u) := (S6 u h).add (d89 u h (S6 u h) fits30)
theorem fits29 : FFits Try.prog 29 A29 := ffits_of Try.func29 (by kernel_rfl) rfl (by kernel_rfl) rfl
theorem S8 (h : hM) : Sound Try.prog (C8 u) := (S7 u h).add (d201 u h (S7 u h) fits29)
theorem fits28 : FFits Try.prog 28 A28 := ffits_of Try.func28 (by kernel_rfl) rfl (by kernel_rfl) rfl
theorem S9 (h : hM) : Sound Try.prog (C9 u) := (S8 u h).add (d273 u h (S8 u h) fits28)
theorem srt239b (h : hM) (r : Kd) (n : Nat) (g : FF) (rest : List A) (g' : FF) (hh : (bif r.beq kP && isClo 28 rest then F239b u n g else none) = some g') : MutDen Try.prog 27 r n g rest g' :=
 sortT_mut Try.sortL Try.isAgg53 Try.sizeOf53 rfl (callOk_of Try.func27 (by kernel_rfl) rfl) (enters_of Try.func28 (by kernel_rfl) rfl) clo_neg
  (fun x y => d273 100 h (S8 100 h) fits28 [.agg [vi x.1.1, vi x.1.2], .agg [vi y.1.1, vi y.1.2]] [.v (vi (cfI (cmpI x.1.1 y.1.1) (cmpI x.1.2 y.1.2)))] (by
   show (ob (F273 100 x.1.1 x.1.2 y.1.1 y.1.2) fun t => some [A.v (vi t)]) = some [A.v (vi (cfI (cmpI x.1.1 y.1.1) (cmpI x.1.2 y.1.2)))]
   rw [clo_law]; rfl)) hh
theorem S10 (h : hM) : Sound Try.prog (C10 u) := (S9 u h).addT (srt239b u h)
theorem fits12 : FFitsM Try.prog 60 53 36 12 A12 P12 [.tmp 2] := ffitsM_of Try.func12 (by kernel_rfl) rfl (by kernel_rfl) rfl
theorem S11 (h : hM) : Sound Try.prog (C11 u) := (S10 u h).add (d276 u h (S10 u h) fits12)
theorem fits38 : FFits Try.prog 38 A38 := ffits_of Try.func38 (by kernel_rfl) rfl (by kernel_rfl) rfl
theorem S12 (h : hM) : Sound Try.prog (C12 u) := (S11 u h).add (d224 u h (S11 u h) fits38)
theorem fits23 : FFits Try.prog 23 A23 := ffits_of Try.func23 (by kernel_rfl) rfl (by kernel_rfl) rfl
theorem S13 (h : hM) : Sound Try.prog (C13 u) := (S12 u h).add (d225 u h (S12 u h) fits23)
theorem fits9 : FFits Try.prog 9 A9 := ffits_of Try.func9 (by kernel_rfl) rfl (by kernel_rfl) rfl
theorem S14 (h : hM) : Sound Try.prog (C14 u) := (S13 u h).add (d277 u h (S13 u h) fits9)
theorem fits14 : FFits Try.prog 14 A14 := ffits_of Try.func14 (by kernel_rfl) rfl (by kernel_rfl) rfl
theorem S15 (h : hM) : Sound Try.prog (C15 u) := (S14 u h).add (d269 u h (S14 u h) fits14)
theorem fits11 : FFits Try.prog 11 A11 := ffits_of Try.func11 (by kernel_rfl) rfl (by kernel_rfl) rfl
theorem S16 (h : hM) : Sound Try.prog (C16 u) := (S15 u h).add (d271 u h (S15 u h) fits11)
theorem fits43 : FFits Try.prog 43 A43 := ffits_of Try.func43 (by kernel_rfl) rfl (by kernel_rfl) rfl
theorem S17 (h : hM) : Sound Try.prog (C17 u) := (S16 u h).add (d256 u h (S16 u h) fits43)
theorem fits32 : FFits Try.prog 32 A32 := ffits_of Try.func32 (by kernel_rfl) rfl (by kernel_rfl) rfl
theorem S18 (h : hM) : Sound Try.prog (C18 u) := (S17 u h).add (d257 u h (S17 u h) fits32)
theorem fits36 : FFits Try.prog 36 A36 := ffits_of Try.func36 (by kernel_rfl) rfl (by kernel_rfl) rfl
theorem S19 (h : hM) : Sound Try.prog (C19 u) := (S18 u h).add (d258 u h (S18 u h) fits36)
theorem fits18 : FFits Try.prog 18 A18 := ffits_of Try.func18 (by kernel_rfl) rfl (by kernel_rfl) rfl
theorem S20 (h : hM) : Sound Try.prog (C20 u) := (S19 u h).add (d259 u h (S19 u h) fits18)
theorem fits34 : FFits Try.prog 34 A34 := ffits_of Try.func34 (by kernel_rfl) rfl (by kernel_rfl) rfl
theorem S21 (h : hM) : Sound Try.prog (C21 u) := (S20 u h).add (d260 u h (S20 u h) fits34)
theorem fits44 : FFits Try.prog 44 A44 := ffits_of Try.func44 (by kernel_rfl) rfl (by kernel_rfl) rfl
theorem S22 (h : hM) : Sound Try.prog (C22 u) := (S21 u h).add (d261 u h (S21 u h) fits44)
theorem fits33 : FFits Try.prog 33 A33 := ffits_of Try.func33 (by kernel_rfl) rfl (by kernel_rfl) rfl
theorem S23 (h : hM) : Sound Try.prog (C23 u) := (S22 u h).add (d262 u h (S22 u h) fits33)
theorem fits15 : FFits Try.prog 15 A15 := ffits_of Try.func15 (by kernel_rfl) rfl (by kernel_rfl) rfl
theorem S24 (h : hM) : Sound Try.prog (C24 u) := (S23 u h).add (d263 u h (S23 u h) fits15)
theorem fits8 : FFits Try.prog 8 A8 := ffits_of Try.func8 (by kernel_rfl) rfl (by kernel_rfl) rfl
theorem S25 (h : hM) : Sound Try.prog (C25 u) := (S24 u h).add (d278 u h (S24 u h) fits8)
theorem fits6 : FFits Try.prog 6 A6 := ffits_of Try.func6 (by kernel_rfl) rfl (by kernel_rfl) rfl
theorem w282 (hmix : Try.prog.follows .mixedOrders = true) {fuel : Nat} {args res : List A} (h : (O282 fuel).o args some = some res) : Den Try.prog 6 args res := d282 fuel hmix (S25 fuel hmix) fits6 args res h
end Go.Eng.R13
