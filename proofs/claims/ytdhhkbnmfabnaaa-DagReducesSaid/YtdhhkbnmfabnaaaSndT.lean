/-
 All functions are sound; printed by decomp.py.
-/
import Derived.Test.YtdhhkbnmfabnaaaDecT1
import Derived.Test.YtdhhkbnmfabnaaaDySort
import Derived.Test.YtdhhkbnmfabnaaaEngV
import Derived.Test.YtdhhkbnmfabnaaaDyLay
import Derived.Test.YtdhhkbnmfabnaaaEngX
import Derived.Test.YtdhhkbnmfabnaaaProg
set_option linter.all false
set_option maxRecDepth 1000000
set_option maxHeartbeats 4000000
namespace Go.Eng.R13
open Go Go.RowKit Go.Eng Go.Proofs
abbrev hM : Prop := Try.prog.follows .mixedOrders = true
variable (u : Nat)
theorem fits34 : FFits Try.prog 34 (cloneAF 22 31 (.pr (.int .i64) (.pr (.int .i64) .nil)) 16 [.c (.i .i64 0), .c (.i .i64 0)]) := ffits_of Try.func34 (by kernel_rfl) rfl (by kernel_rfl) rfl
theorem own34 (hmix : Try.prog.follows .mixedOrders = true) (n : Nat) (g : Nat → Nat → CV) (fl : Bool) (h : n ≤ 1073741824) : FreshDen Try.prog 34 (.pr (.int .i64) (.pr (.int .i64) .nil)) [.v (.ro fl (.pr (.int .i64) (.pr (.int .i64) .nil)) n g)] n g := by
 have hb : Nat.ble (0 + n) 1073741824 = true := by rw [Nat.zero_add, Nat.ble_eq]; exact h
 exact clone_fresh (C := CE 2) hmix (soundE 2) fits34 rfl rfl Try.underlying22 n g fl (by kernel_rfl)
  ((show evalC (CE 2) 2 (.seq (.cond (tm 4) (.seq (.region 2 [o1 2 (.assign (.const (.slice none 0 0)))] 0 none) [] (.ret (0 :: 1 :: (rl 3 5 [])))) .skip) [2, 3, 4] (.seq (.region 3 [o1 5 (.buildSlice 0 22 31 (.pr (.int .i64) (.pr (.int .i64) .nil)) 0 [.c (.i .i64 0), .c (.i .i64 0)] []), mv 6 0, o1 7 (.append 1 22 31 (.pr (.int .i64) (.pr (.int .i64) .nil)) 16 (tm 5) (tm 6)), o1 2 (.assign (tm 7))] 2 none) [] (.ret (0 :: 1 :: (rl 3 5 []))))) ⟨[.x (.c (.ro fl (.pr (.int .i64) (.pr (.int .i64) .nil)) n g)), .undef, .x (.c (.ro true .nil 0 (fun _ _ => .any))), .x (.c (.ro fl (.pr (.int .i64) (.pr (.int .i64) .nil)) n g)), bl false, .undef, .undef, .undef], []⟩ (finO 2 (.pr (.int .i64) (.pr (.int .i64) .nil))) = bif Nat.ble (0 + n) 1073741824 then some (0 + n, joinF 0 (rowsF 2 []) g) else none from by kernel_rfl).trans (by rw [hb]; rfl))
theorem fits39 : FFits Try.prog 39 A39 := ffits_of Try.func39 (by kernel_rfl) rfl (by kernel_rfl) rfl
theorem zeroC39 (u : Nat) (g : FF) : evalF (CE u) u A39 [.v (.ro true (.pr (.int .i64) (.pr (.int .i64) .nil)) 0 g)] = some [.v (.ro true (.pr (.int .i64) (.pr (.int .i64) .nil)) 0 g)] := by kernel_rfl
theorem cut39 (hmix : hM) (n : Nat) (g : FF) : CutDen Try.prog 39 (.pr (.int .i64) (.pr (.int .i64) .nil)) n g [] (cutN n g) (cutF n g) := by
 by_cases h : n < 9223372036854775808
 ·refine cutDen_of (fuel := n + 1) hmix (soundE (n + 1)) fits39 (tr := 2) rfl (by decide) rfl (cutN_le n g) (fun h0 => by subst h0; exact ⟨g, zeroC39 1 g⟩) (fun hok => ?_)
  obtain ⟨g', h1, h2⟩ := cut_law (n + 1) n g (by omega) h (fun i j hi hj => by
   have := hok i j hi hj
   match j, hj with
   | 0, _ => exact this
   | 1, _ => exact this)
  exact ⟨g', (e250 (n + 1) n g).trans h1, h2⟩
 ·refine ⟨fits39.ok, fun h0 => absurd h0 (by omega), fun w okA gb cap cur e vs _ _ _ _ _ h1 h2 => ?_⟩
  have : maxLen = 9223372036854775807 := rfl
  omega
theorem S0 (fuel : Nat) (hmix : Try.prog.follows .mixedOrders = true) : Sound Try.prog (C0 fuel) where
 call := fun f args res h => by cases h
 turn := fun f r n g rest g' h => by cases h
 fresh := fun f r args n g h hn => by
  unfold C0 at h
  dsimp only at h
  split at h
  ·obtain ⟨h1, h2⟩ := bif_some h
   cases h2
   simp only [Bool.and_eq_true, Bool.or_eq_true] at h1
   have h3 := h1.1
   refine (fun hh => ?_ : _ → _) h3
   ·have e1 := Nat.eq_of_beq_eq_true hh.1
    have e2 := Kd.eq_of_beq hh.2
    have e3 := Kd.eq_of_beq h1.2
    subst e1; subst e3; subst e2
    exact own34 hmix _ _ _ hn
  ·cases h
 cut := fun f r n g rest m g' h _ => by
  obtain ⟨h1, h2⟩ := bif_some (show (bif _ && _ then some (cutN n g, cutF n g) else none) = some (m, g') from h)
  cases h2
  simp only [Bool.and_eq_true, Bool.or_eq_true] at h1
  have e3 : rest = [] := by simpa using h1.2
  have h1 := h1.1
  refine (fun hh => ?_ : _ → _) h1
  ·have e1 := Nat.eq_of_beq_eq_true hh.1
   have e2 := Kd.eq_of_beq hh.2
   subst e1; subst e2; subst e3
   exact cut39 hmix n g
theorem fits11 : FFits Try.prog 11 A11 := ffits_of Try.func11 (by kernel_rfl) rfl (by kernel_rfl) rfl
theorem S1 (h : hM) : Sound Try.prog (C1 u) := (S0 u h).add (d223 u h (S0 u h) fits11)
theorem fits27 : FFits Try.prog 27 A27 := ffits_of Try.func27 (by kernel_rfl) rfl (by kernel_rfl) rfl
theorem S2 (h : hM) : Sound Try.prog (C2 u) := (S1 u h).add (d224 u h (S1 u h) fits27)
theorem fits13 : FFits Try.prog 13 A13 := ffits_of Try.func13 (by kernel_rfl) rfl (by kernel_rfl) rfl
theorem S3 (h : hM) : Sound Try.prog (C3 u) := (S2 u h).add (d225 u h (S2 u h) fits13)
theorem fits31 : FFits Try.prog 31 A31 := ffits_of Try.func31 (by kernel_rfl) rfl (by kernel_rfl) rfl
theorem S4 (h : hM) : Sound Try.prog (C4 u) := (S3 u h).add (d226 u h (S3 u h) fits31)
theorem fits18 : FFits Try.prog 18 A18 := ffits_of Try.func18 (by kernel_rfl) rfl (by kernel_rfl) rfl
theorem S5 (h : hM) : Sound Try.prog (C5 u) := (S4 u h).add (d227 u h (S4 u h) fits18)
theorem fits40 : FFits Try.prog 40 (bwF 25 3 3 4) := ffits_of Try.func40 (by kernel_rfl) rfl (by kernel_rfl) rfl
theorem fits33 : FFits Try.prog 33 (bwdF 25 0 40) := ffits_of Try.func33 (by kernel_rfl) rfl (by kernel_rfl) rfl
theorem bwk33 (h : hM) : BwOk Try.prog 33 40 := ⟨⟨_, _, _, _, fits40⟩, fun kk fl n g => bwd_den h fits33 kk fl n g⟩
theorem fits20 : FFitsB Try.prog 33 20 A20 := ffitsB_of Try.func20 (by kernel_rfl) rfl (by kernel_rfl) rfl
theorem S6 (h : hM) : Sound Try.prog (C6 u) := (S5 u h).add (d241 u h (S5 u h) (bwk33 h) fits20)
theorem fits22 : FFits Try.prog 22 A22 := ffits_of Try.func22 (by kernel_rfl) rfl (by kernel_rfl) rfl
theorem S7 (h : hM) : Sound Try.prog (C7 u) := (S6 u h).add (d236 u h (S6 u h) fits22)
theorem fits43 : FFits Try.prog 43 A43 := ffits_of Try.func43 (by kernel_rfl) rfl (by kernel_rfl) rfl
theorem S8 (h : hM) : Sound Try.prog (C8 u) := (S7 u h).add (d90 u h (S7 u h) fits43)
theorem fits38 : FFits Try.prog 38 A38 := ffits_of Try.func38 (by kernel_rfl) rfl (by kernel_rfl) rfl
theorem S9 (h : hM) : Sound Try.prog (C9 u) := (S8 u h).add (d89 u h (S8 u h) fits38)
theorem fits37 : FFits Try.prog 37 A37 := ffits_of Try.func37 (by kernel_rfl) rfl (by kernel_rfl) rfl
theorem S10 (h : hM) : Sound Try.prog (C10 u) := (S9 u h).add (d201 u h (S9 u h) fits37)
theorem fits36 : FFits Try.prog 36 A36 := ffits_of Try.func36 (by kernel_rfl) rfl (by kernel_rfl) rfl
theorem S11 (h : hM) : Sound Try.prog (C11 u) := (S10 u h).add (d238 u h (S10 u h) fits36)
theorem srt239 (h : hM) (r : Kd) (n : Nat) (g : FF) (rest : List A) (g' : FF) (hh : (bif r.beq kP && isClo 36 rest then F239 u n g else none) = some g') : MutDen Try.prog 35 r n g rest g' :=
 sortT_mut Try.sortL Try.isAgg31 Try.sizeOf31 rfl (callOk_of Try.func35 (by kernel_rfl) rfl) (enters_of Try.func36 (by kernel_rfl) rfl) clo_neg
  (fun x y => d238 100 h (S10 100 h) fits36 [.agg [vi x.1.1, vi x.1.2], .agg [vi y.1.1, vi y.1.2]] [.v (vi (cfI (cmpI x.1.1 y.1.1) (cmpI x.1.2 y.1.2)))] (by
   show (ob (F238 100 x.1.1 x.1.2 y.1.1 y.1.2) fun t => some [A.v (vi t)]) = some [A.v (vi (cfI (cmpI x.1.1 y.1.1) (cmpI x.1.2 y.1.2)))]
   rw [clo_law]; rfl)) hh
theorem S12 (h : hM) : Sound Try.prog (C12 u) := (S11 u h).addT (srt239 u h)
theorem fits29 : FFits Try.prog 29 A29 := ffits_of Try.func29 (by kernel_rfl) rfl (by kernel_rfl) rfl
theorem S13 (h : hM) : Sound Try.prog (C13 u) := (S12 u h).add (d231 u h (S12 u h) fits29)
theorem fits24 : FFits Try.prog 24 A24 := ffits_of Try.func24 (by kernel_rfl) rfl (by kernel_rfl) rfl
theorem S14 (h : hM) : Sound Try.prog (C14 u) := (S13 u h).add (d242 u h (S13 u h) fits24)
theorem fits15 : FFits Try.prog 15 A15 := ffits_of Try.func15 (by kernel_rfl) rfl (by kernel_rfl) rfl
theorem S15 (h : hM) : Sound Try.prog (C15 u) := (S14 u h).add (d230 u h (S14 u h) fits15)
theorem fits26 : FFits Try.prog 26 A26 := ffits_of Try.func26 (by kernel_rfl) rfl (by kernel_rfl) rfl
theorem S16 (h : hM) : Sound Try.prog (C16 u) := (S15 u h).add (d240 u h (S15 u h) fits26)
theorem fits16 : FFits Try.prog 16 A16 := ffits_of Try.func16 (by kernel_rfl) rfl (by kernel_rfl) rfl
theorem S17 (h : hM) : Sound Try.prog (C17 u) := (S16 u h).add (d232 u h (S16 u h) fits16)
theorem fits12 : FFits Try.prog 12 A12 := ffits_of Try.func12 (by kernel_rfl) rfl (by kernel_rfl) rfl
theorem S18 (h : hM) : Sound Try.prog (C18 u) := (S17 u h).add (d243 u h (S17 u h) fits12)
theorem fits28 : FFits Try.prog 28 A28 := ffits_of Try.func28 (by kernel_rfl) rfl (by kernel_rfl) rfl
theorem S19 (h : hM) : Sound Try.prog (C19 u) := (S18 u h).add (d228 u h (S18 u h) fits28)
theorem fits14 : FFits Try.prog 14 A14 := ffits_of Try.func14 (by kernel_rfl) rfl (by kernel_rfl) rfl
theorem S20 (h : hM) : Sound Try.prog (C20 u) := (S19 u h).add (d229 u h (S19 u h) fits14)
theorem fits30 : FFits Try.prog 30 A30 := ffits_of Try.func30 (by kernel_rfl) rfl (by kernel_rfl) rfl
theorem S21 (h : hM) : Sound Try.prog (C21 u) := (S20 u h).add (d295 u h (S20 u h) fits30)
theorem fits25 : FFits Try.prog 25 A25 := ffits_of Try.func25 (by kernel_rfl) rfl (by kernel_rfl) rfl
theorem S22 (h : hM) : Sound Try.prog (C22 u) := (S21 u h).add (d298 u h (S21 u h) fits25)
theorem fits6 : FFits Try.prog 6 A6 := ffits_of Try.func6 (by kernel_rfl) rfl (by kernel_rfl) rfl
theorem w299 (hmix : Try.prog.follows .mixedOrders = true) {fuel : Nat} {args res : List A} (h : (O299 fuel).o args some = some res) : Den Try.prog 6 args res := d299 fuel hmix (S22 fuel hmix) fits6 args res h
end Go.Eng.R13
