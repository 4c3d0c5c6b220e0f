/-
 All functions are sound; printed by decomp.py.
-/
import Derived.Test.YtngjgbhdhaopmaaDecT0
import Derived.Test.YtngjgbhdhaopmaaPySort
import Derived.Test.YtngjgbhdhaopmaaEngV
import Derived.Test.YtngjgbhdhaopmaaPyLay
import Derived.Test.YtngjgbhdhaopmaaEngX
import Derived.Test.YtngjgbhdhaopmaaProg
set_option linter.all false
set_option maxRecDepth 1000000
set_option maxHeartbeats 4000000
namespace Go.Eng.R13
open Go Go.RowKit Go.Eng Go.Proofs
abbrev hM : Prop := Try.prog.follows .mixedOrders = true
variable (u : Nat)
theorem zero_run46 (g : Nat → Nat → CV) : evalF (CE 2) 2 A46 [.v (.ro false (.pr (.int .i64) (.pr (.int .i64) .nil)) 0 g)] = some [] := by kernel_rfl
theorem fits46 : FFits Try.prog 46 A46 := ffits_of Try.func46 (by kernel_rfl) rfl (by kernel_rfl) rfl
theorem mut46 (hmix : Try.prog.follows .mixedOrders = true) (n : Nat) (g : Nat → Nat → CV) : MutDen Try.prog 46 (.pr (.int .i64) (.pr (.int .i64) .nil)) n g [] (revF n g) := by
 by_cases h : n < 9223372036854775808
 ·by_cases h0 : n = 0
  ·subst h0
   exact mutDen_of (fuel := 2) hmix (soundE 2) fits46 rfl (by decide) rfl (fun _ => zero_run46 g) (fun h => absurd h (by omega))
  ·refine mutDen_of (fuel := n + 1) hmix (soundE (n + 1)) fits46 rfl (by decide) rfl (fun h => absurd h h0) (fun _ hok => ?_)
   obtain ⟨f', h1, h2⟩ := rev_law (n + 1) n g (by omega) h (fun i j hi hj => by
    have := hok i j hi hj
    match j, hj with
    | 0, _ => exact this
    | 1, _ => exact this)
   exact ⟨n, f', (e52 (n + 1) n g).trans h1, Nat.le_refl _, fun i j hi hj => h2 i j hi hj⟩
 ·refine ⟨fits46.ok, fun h0 => absurd h0 (by omega), fun _ w okA gb cap cur e vs _ _ _ _ _ h1 h2 => ?_⟩
  have : maxLen = 9223372036854775807 := rfl
  omega
theorem fits40 : FFits Try.prog 40 (cloneAF 22 31 (.pr (.int .i64) (.pr (.int .i64) .nil)) 16 [.c (.i .i64 0), .c (.i .i64 0)]) := ffits_of Try.func40 (by kernel_rfl) rfl (by kernel_rfl) rfl
theorem own40 (hmix : Try.prog.follows .mixedOrders = true) (n : Nat) (g : Nat → Nat → CV) (fl : Bool) (h : n ≤ 1073741824) : FreshDen Try.prog 40 (.pr (.int .i64) (.pr (.int .i64) .nil)) [.v (.ro fl (.pr (.int .i64) (.pr (.int .i64) .nil)) n g)] n g := by
 have hb : Nat.ble (0 + n) 1073741824 = true := by rw [Nat.zero_add, Nat.ble_eq]; exact h
 exact clone_fresh (C := CE 2) hmix (soundE 2) fits40 rfl rfl Try.underlying22 n g fl (by kernel_rfl)
  ((show evalC (CE 2) 2 (.seq (.cond (tm 4) (.seq (.region 2 [o1 2 (.assign (.const (.slice none 0 0)))] 0 none) [] (.ret (0 :: 1 :: (rl 3 5 [])))) .skip) [2, 3, 4] (.seq (.region 3 [o1 5 (.buildSlice 0 22 31 (.pr (.int .i64) (.pr (.int .i64) .nil)) 0 [.c (.i .i64 0), .c (.i .i64 0)] []), mv 6 0, o1 7 (.append 1 22 31 (.pr (.int .i64) (.pr (.int .i64) .nil)) 16 (tm 5) (tm 6)), o1 2 (.assign (tm 7))] 2 none) [] (.ret (0 :: 1 :: (rl 3 5 []))))) ⟨[.x (.c (.ro fl (.pr (.int .i64) (.pr (.int .i64) .nil)) n g)), .undef, .x (.c (.ro true .nil 0 (fun _ _ => .any))), .x (.c (.ro fl (.pr (.int .i64) (.pr (.int .i64) .nil)) n g)), bl false, .undef, .undef, .undef], []⟩ (finO 2 (.pr (.int .i64) (.pr (.int .i64) .nil))) = bif Nat.ble (0 + n) 1073741824 then some (0 + n, joinF 0 (rowsF 2 []) g) else none from by kernel_rfl).trans (by rw [hb]; rfl))
theorem fits44 : FFits Try.prog 44 A44 := ffits_of Try.func44 (by kernel_rfl) rfl (by kernel_rfl) rfl
theorem zeroC44 (u : Nat) (g : FF) : evalF (CE u) u A44 [.v (.ro true (.pr (.int .i64) (.pr (.int .i64) .nil)) 0 g)] = some [.v (.ro true (.pr (.int .i64) (.pr (.int .i64) .nil)) 0 g)] := by kernel_rfl
theorem cut44 (hmix : hM) (n : Nat) (g : FF) : CutDen Try.prog 44 (.pr (.int .i64) (.pr (.int .i64) .nil)) n g [] (cutN n g) (cutF n g) := by
 by_cases h : n < 9223372036854775808
 ·refine cutDen_of (fuel := n + 1) hmix (soundE (n + 1)) fits44 (tr := 2) rfl (by decide) rfl (cutN_le n g) (fun h0 => by subst h0; exact ⟨g, zeroC44 1 g⟩) (fun hok => ?_)
  obtain ⟨g', h1, h2⟩ := cut_law (n + 1) n g (by omega) h (fun i j hi hj => by
   have := hok i j hi hj
   match j, hj with
   | 0, _ => exact this
   | 1, _ => exact this)
  exact ⟨g', (e222 (n + 1) n g).trans h1, h2⟩
 ·refine ⟨fits44.ok, fun h0 => absurd h0 (by omega), fun w okA gb cap cur e vs _ _ _ _ _ h1 h2 => ?_⟩
  have : maxLen = 9223372036854775807 := rfl
  omega
theorem S0 (fuel : Nat) (hmix : Try.prog.follows .mixedOrders = true) : Sound Try.prog (C0 fuel) where
 call := fun f args res h => by cases h
 turn := fun f r n g rest g' h => by
  obtain ⟨h1, h2⟩ := bif_some (show (bif _ && _ then some (revF n g) else none) = some g' from h)
  cases h2
  simp only [Bool.and_eq_true, Bool.or_eq_true] at h1
  have e3 : rest = [] := by simpa using h1.2
  have h1 := h1.1
  refine (fun hh => ?_ : _ → _) h1
  ·have e1 := Nat.eq_of_beq_eq_true hh.1
   have e2 := Kd.eq_of_beq hh.2
   subst e1; subst e2; subst e3
   exact mut46 hmix n g
 fresh := fun f r args n g h hn => by
  unfold C0 at h
  dsimp only at h
  split at h
  ·obtain ⟨h1, h2⟩ := bif_some h
   cases h2
   simp only [Bool.and_eq_true, Bool.or_eq_true] at h1
   have h3 := h1.1
   refine (fun hh => ?_ : _ → _) h3
   ·have e1 := Nat.eq_of_beq_eq_true hh.1
    have e2 := Kd.eq_of_beq hh.2
    have e3 := Kd.eq_of_beq h1.2
    subst e1; subst e3; subst e2
    exact own40 hmix _ _ _ hn
  ·cases h
 cut := fun f r n g rest m g' h _ => by
  obtain ⟨h1, h2⟩ := bif_some (show (bif _ && _ then some (cutN n g, cutF n g) else none) = some (m, g') from h)
  cases h2
  simp only [Bool.and_eq_true, Bool.or_eq_true] at h1
  have e3 : rest = [] := by simpa using h1.2
  have h1 := h1.1
  refine (fun hh => ?_ : _ → _) h1
  ·have e1 := Nat.eq_of_beq_eq_true hh.1
   have e2 := Kd.eq_of_beq hh.2
   subst e1; subst e2; subst e3
   exact cut44 hmix n g
theorem fits30 : FFits Try.prog 30 A30 := ffits_of Try.func30 (by kernel_rfl) rfl (by kernel_rfl) rfl
theorem S1 (h : hM) : Sound Try.prog (C1 u) := (S0 u h).add (d61 u h (S0 u h) fits30)
theorem fits50 : FFits Try.prog 50 A50 := ffits_of Try.func50 (by kernel_rfl) rfl (by kernel_rfl) rfl
theorem S2 (h : hM) : Sound Try.prog (C2 u) := (S1 u h).add (d73 u h (S1 u h) fits50)
theorem fits29 : FFits Try.prog 29 A29 := ffits_of Try.func29 (by kernel_rfl) rfl (by kernel_rfl) rfl
theorem S3 (h : hM) : Sound Try.prog (C3 u) := (S2 u h).add (d50 u h (S2 u h) fits29)
theorem fits36 : FFits Try.prog 36 A36 := ffits_of Try.func36 (by kernel_rfl) rfl (by kernel_rfl) rfl
theorem S4 (h : hM) : Sound Try.prog (C4 u) := (S3 u h).add (d79 u h (S3 u h) fits36)
theorem fits54 : FFits Try.prog 54 A54 := ffits_of Try.func54 (by kernel_rfl) rfl (by kernel_rfl) rfl
theorem S5 (h : hM) : Sound Try.prog (C5 u) := (S4 u h).add (d87 u h (S4 u h) fits54)
theorem fits38 : FFits Try.prog 38 A38 := ffits_of Try.func38 (by kernel_rfl) rfl (by kernel_rfl) rfl
theorem S6 (h : hM) : Sound Try.prog (C6 u) := (S5 u h).add (d81 u h (S5 u h) fits38)
theorem fits58 : FFits Try.prog 58 A58 := ffits_of Try.func58 (by kernel_rfl) rfl (by kernel_rfl) rfl
theorem S7 (h : hM) : Sound Try.prog (C7 u) := (S6 u h).add (d90 u h (S6 u h) fits58)
theorem fits53 : FFits Try.prog 53 A53 := ffits_of Try.func53 (by kernel_rfl) rfl (by kernel_rfl) rfl
theorem S8 (h : hM) : Sound Try.prog (C8 u) := (S7 u h).add (d89 u h (S7 u h) fits53)
theorem fits35 : FFits Try.prog 35 A35 := ffits_of Try.func35 (by kernel_rfl) rfl (by kernel_rfl) rfl
theorem S9 (h : hM) : Sound Try.prog (C9 u) := (S8 u h).add (d86 u h (S8 u h) fits35)
theorem fits51 : FFits Try.prog 51 A51 := ffits_of Try.func51 (by kernel_rfl) rfl (by kernel_rfl) rfl
theorem S10 (h : hM) : Sound Try.prog (C10 u) := (S9 u h).add (d80 u h (S9 u h) fits51)
theorem fits31 : FFits Try.prog 31 A31 := ffits_of Try.func31 (by kernel_rfl) rfl (by kernel_rfl) rfl
theorem S11 (h : hM) : Sound Try.prog (C11 u) := (S10 u h).add (d62 u h (S10 u h) fits31)
theorem fits32 : FFits Try.prog 32 A32 := ffits_of Try.func32 (by kernel_rfl) rfl (by kernel_rfl) rfl
theorem S12 (h : hM) : Sound Try.prog (C12 u) := (S11 u h).add (d63 u h (S11 u h) fits32)
theorem fits12 : FFits Try.prog 12 A12 := ffits_of Try.func12 (by kernel_rfl) rfl (by kernel_rfl) rfl
theorem S13 (h : hM) : Sound Try.prog (C13 u) := (S12 u h).add (d33 u h (S12 u h) fits12)
theorem fits28 : FFits Try.prog 28 A28 := ffits_of Try.func28 (by kernel_rfl) rfl (by kernel_rfl) rfl
theorem S14 (h : hM) : Sound Try.prog (C14 u) := (S13 u h).add (d69 u h (S13 u h) fits28)
theorem fits33 : FFits Try.prog 33 A33 := ffits_of Try.func33 (by kernel_rfl) rfl (by kernel_rfl) rfl
theorem S15 (h : hM) : Sound Try.prog (C15 u) := (S14 u h).add (d66 u h (S14 u h) fits33)
theorem fits37 : FFits Try.prog 37 A37 := ffits_of Try.func37 (by kernel_rfl) rfl (by kernel_rfl) rfl
theorem S16 (h : hM) : Sound Try.prog (C16 u) := (S15 u h).add (d71 u h (S15 u h) fits37)
theorem fits39 : FFits Try.prog 39 A39 := ffits_of Try.func39 (by kernel_rfl) rfl (by kernel_rfl) rfl
theorem S17 (h : hM) : Sound Try.prog (C17 u) := (S16 u h).add (d70 u h (S16 u h) fits39)
theorem fits57 : FFits Try.prog 57 A57 := ffits_of Try.func57 (by kernel_rfl) rfl (by kernel_rfl) rfl
theorem S18 (h : hM) : Sound Try.prog (C18 u) := (S17 u h).add (d88 u h (S17 u h) fits57)
theorem fits52 : FFits Try.prog 52 A52 := ffits_of Try.func52 (by kernel_rfl) rfl (by kernel_rfl) rfl
theorem S19 (h : hM) : Sound Try.prog (C19 u) := (S18 u h).add (d82 u h (S18 u h) fits52)
theorem fits34 : FFits Try.prog 34 A34 := ffits_of Try.func34 (by kernel_rfl) rfl (by kernel_rfl) rfl
theorem S20 (h : hM) : Sound Try.prog (C20 u) := (S19 u h).add (d67 u h (S19 u h) fits34)
theorem fits13 : FFits Try.prog 13 A13 := ffits_of Try.func13 (by kernel_rfl) rfl (by kernel_rfl) rfl
theorem S21 (h : hM) : Sound Try.prog (C21 u) := (S20 u h).add (d37 u h (S20 u h) fits13)
theorem fits15 : FFits Try.prog 15 A15 := ffits_of Try.func15 (by kernel_rfl) rfl (by kernel_rfl) rfl
theorem S22 (h : hM) : Sound Try.prog (C22 u) := (S21 u h).add (d43 u h (S21 u h) fits15)
theorem fits17 : FFits Try.prog 17 A17 := ffits_of Try.func17 (by kernel_rfl) rfl (by kernel_rfl) rfl
theorem S23 (h : hM) : Sound Try.prog (C23 u) := (S22 u h).add (d34 u h (S22 u h) fits17)
theorem fits21 : FFits Try.prog 21 A21 := ffits_of Try.func21 (by kernel_rfl) rfl (by kernel_rfl) rfl
theorem S24 (h : hM) : Sound Try.prog (C24 u) := (S23 u h).add (d65 u h (S23 u h) fits21)
theorem fits19 : FFits Try.prog 19 A19 := ffits_of Try.func19 (by kernel_rfl) rfl (by kernel_rfl) rfl
theorem S25 (h : hM) : Sound Try.prog (C25 u) := (S24 u h).add (d200 u h (S24 u h) fits19)
theorem fits43 : FFits Try.prog 43 A43 := ffits_of Try.func43 (by kernel_rfl) rfl (by kernel_rfl) rfl
theorem S26 (h : hM) : Sound Try.prog (C26 u) := (S25 u h).add (d201 u h (S25 u h) fits43)
theorem fits42 : FFits Try.prog 42 A42 := ffits_of Try.func42 (by kernel_rfl) rfl (by kernel_rfl) rfl
theorem S27 (h : hM) : Sound Try.prog (C27 u) := (S26 u h).add (d202 u h (S26 u h) fits42)
theorem srt203 (h : hM) (r : Kd) (n : Nat) (g : FF) (rest : List A) (g' : FF) (hh : (bif r.beq kP && isClo 42 rest then F203 u n g else none) = some g') : MutDen Try.prog 41 r n g rest g' :=
 sortT_mut Try.sortL Try.isAgg31 Try.sizeOf31 rfl (callOk_of Try.func41 (by kernel_rfl) rfl) (enters_of Try.func42 (by kernel_rfl) rfl) clo_neg
  (fun x y => d202 100 h (S26 100 h) fits42 [.agg [vi x.1.1, vi x.1.2], .agg [vi y.1.1, vi y.1.2]] [.v (vi (cfI (w64 (x.1.1 - y.1.1)) (w64 (x.1.2 - y.1.2))))] (by
   show (ob (F202 100 x.1.1 x.1.2 y.1.1 y.1.2) fun t => some [A.v (vi t)]) = some [A.v (vi (cfI (w64 (x.1.1 - y.1.1)) (w64 (x.1.2 - y.1.2))))]
   rw [clo_law]; rfl)) hh
theorem S28 (h : hM) : Sound Try.prog (C28 u) := (S27 u h).addT (srt203 u h)
theorem fits45 : FFits Try.prog 45 A45 := ffits_of Try.func45 (by kernel_rfl) rfl (by kernel_rfl) rfl
theorem own204 (h : hM) (r : Kd) (args : List A) (n : Nat) (g : FF) (hh : (match (generalizing := false) args with | [.v (.ro _ r1 n g)] => bif r.beq (.pr (.int .i64) (.pr (.int .i64) .nil)) && r1.beq (.pr (.int .i64) (.pr (.int .i64) .nil)) then F204 u n g else none | _ => none) = some (n, g)) : FreshDen Try.prog 45 r args n g := by
 split at hh
 ·rename_i fl r1 n0 g0
  obtain ⟨h1, h2⟩ := bif_some hh
  rw [Bool.and_eq_true] at h1
  have e1 := Kd.eq_of_beq h1.1
  have e2 := Kd.eq_of_beq h1.2
  subst e1; subst e2
  exact (freshDen_of h (S28 u h) fits45 (tr := 2) rfl rfl rfl ((e204 u n0 g0).trans h2)).weaken (.cons (WkA.v (Wk.ro (by rfl))) .nil)
 ·cases hh
theorem S29 (h : hM) : Sound Try.prog (C29 u) := (S28 u h).addF fun r args n g hh _ => own204 u h r args n g hh
theorem fits24 : FFits Try.prog 24 A24 := ffits_of Try.func24 (by kernel_rfl) rfl (by kernel_rfl) rfl
theorem S30 (h : hM) : Sound Try.prog (C30 u) := (S29 u h).add (d205 u h (S29 u h) fits24)
theorem fits23 : FFits Try.prog 23 A23 := ffits_of Try.func23 (by kernel_rfl) rfl (by kernel_rfl) rfl
theorem S31 (h : hM) : Sound Try.prog (C31 u) := (S30 u h).add (d206 u h (S30 u h) fits23)
theorem fits49 : FFits Try.prog 49 A49 := ffits_of Try.func49 (by kernel_rfl) rfl (by kernel_rfl) rfl
theorem S32 (h : hM) : Sound Try.prog (C32 u) := (S31 u h).add (d72 u h (S31 u h) fits49)
theorem fits26 : FFits Try.prog 26 A26 := ffits_of Try.func26 (by kernel_rfl) rfl (by kernel_rfl) rfl
theorem S33 (h : hM) : Sound Try.prog (C33 u) := (S32 u h).add (d46 u h (S32 u h) fits26)
theorem fits14 : FFits Try.prog 14 A14 := ffits_of Try.func14 (by kernel_rfl) rfl (by kernel_rfl) rfl
theorem S34 (h : hM) : Sound Try.prog (C34 u) := (S33 u h).add (d207 u h (S33 u h) fits14)
theorem fits10 : FFits Try.prog 10 A10 := ffits_of Try.func10 (by kernel_rfl) rfl (by kernel_rfl) rfl
theorem w220 (hmix : Try.prog.follows .mixedOrders = true) {fuel : Nat} {args res : List A} (h : (O220 fuel).o args some = some res) : Den Try.prog 10 args res := d220 fuel hmix (S34 fuel hmix) fits10 args res h
end Go.Eng.R13
