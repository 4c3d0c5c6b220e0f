/-
 All functions are sound; printed by decomp.py.
-/
import Derived.Test.YtbjfmobjdipehaaGreatDoorDecT3
import Derived.Test.YtbjfmobjdipehaaGreatDoorPlRev
import Derived.Test.YtbjfmobjdipehaaGreatDoorEngV
import Derived.Test.YtbjfmobjdipehaaGreatDoorProg
set_option linter.all false
set_option maxRecDepth 1000000
set_option maxHeartbeats 4000000
namespace Go.Eng.R13
open Go Go.RowKit Go.Eng Go.Proofs
theorem zero_run50 (g : Nat → Nat → CV) : evalF (CE 2) 2 A50 [.v (.ro false (.pr (.int .i64) (.pr (.int .i64) .nil)) 0 g)] = some [] := by kernel_rfl
theorem fits50 : FFits Tryz.prog 50 A50 := ffits_of Tryz.func50 (by kernel_rfl) rfl (by kernel_rfl) rfl
theorem mut50 (hmix : Tryz.prog.follows .mixedOrders = true) (n : Nat) (g : Nat → Nat → CV) : MutDen Tryz.prog 50 (.pr (.int .i64) (.pr (.int .i64) .nil)) n g [] (revF n g) := by
 by_cases h : n < 9223372036854775808
 ·by_cases h0 : n = 0
  ·subst h0
   exact mutDen_of (fuel := 2) hmix (soundE 2) fits50 rfl (by decide) rfl (fun _ => zero_run50 g) (fun h => absurd h (by omega))
  ·refine mutDen_of (fuel := n + 1) hmix (soundE (n + 1)) fits50 rfl (by decide) rfl (fun h => absurd h h0) (fun _ hok => ?_)
   obtain ⟨f', h1, h2⟩ := rev_law (n + 1) n g (by omega) h (fun i j hi hj => by
    have := hok i j hi hj
    match j, hj with
    | 0, _ => exact this
    | 1, _ => exact this)
   exact ⟨n, f', (e52 (n + 1) n g).trans h1, Nat.le_refl _, fun i j hi hj => h2 i j hi hj⟩
 ·refine ⟨fits50.ok, fun h0 => absurd h0 (by omega), fun _ w okA gb cap cur e vs _ _ _ _ _ h1 h2 => ?_⟩
  have : maxLen = 9223372036854775807 := rfl
  omega
theorem fits49 : FFits Tryz.prog 49 (cloneAF 37 49 (.pr (.int .i64) (.pr (.int .i64) .nil)) 16 [.c (.i .i64 0), .c (.i .i64 0)]) := ffits_of Tryz.func49 (by kernel_rfl) rfl (by kernel_rfl) rfl
theorem own49 (hmix : Tryz.prog.follows .mixedOrders = true) (n : Nat) (g : Nat → Nat → CV) (fl : Bool) (h : n ≤ 1073741824) : FreshDen Tryz.prog 49 (.pr (.int .i64) (.pr (.int .i64) .nil)) [.v (.ro fl (.pr (.int .i64) (.pr (.int .i64) .nil)) n g)] n g := by
 have hb : Nat.ble (0 + n) 1073741824 = true := by rw [Nat.zero_add, Nat.ble_eq]; exact h
 exact clone_fresh (C := CE 2) hmix (soundE 2) fits49 rfl rfl Tryz.underlying37 n g fl (by kernel_rfl)
  ((show evalC (CE 2) 2 (.seq (.cond (tm 4) (.seq (.region 2 [o1 2 (.assign (.const (.slice none 0 0)))] 0 none) [] (.ret (0 :: 1 :: (rl 3 5 [])))) .skip) [2, 3, 4] (.seq (.region 3 [o1 5 (.buildSlice 0 37 49 (.pr (.int .i64) (.pr (.int .i64) .nil)) 0 [.c (.i .i64 0), .c (.i .i64 0)] []), mv 6 0, o1 7 (.append 1 37 49 (.pr (.int .i64) (.pr (.int .i64) .nil)) 16 (tm 5) (tm 6)), o1 2 (.assign (tm 7))] 2 none) [] (.ret (0 :: 1 :: (rl 3 5 []))))) ⟨[.x (.c (.ro fl (.pr (.int .i64) (.pr (.int .i64) .nil)) n g)), .undef, .x (.c (.ro true .nil 0 (fun _ _ => .any))), .x (.c (.ro fl (.pr (.int .i64) (.pr (.int .i64) .nil)) n g)), bl false, .undef, .undef, .undef], []⟩ (finO 2 (.pr (.int .i64) (.pr (.int .i64) .nil))) = bif Nat.ble (0 + n) 1073741824 then some (0 + n, joinF 0 (rowsF 2 []) g) else none from by kernel_rfl).trans (by rw [hb]; rfl))
theorem S0 (hmix : Tryz.prog.follows .mixedOrders = true) (fuel : Nat) : Sound Tryz.prog (C0 fuel) where
 call := fun f args res h => by cases h
 turn := fun f r n g rest g' h => by
  obtain ⟨h1, h2⟩ := bif_some (show (bif _ && _ then some (revF n g) else none) = some g' from h)
  cases h2
  simp only [Bool.and_eq_true, Bool.or_eq_true] at h1
  have e3 : rest = [] := by simpa using h1.2
  have h1 := h1.1
  refine (fun hh => ?_ : _ → _) h1
  ·have e1 := Nat.eq_of_beq_eq_true hh.1
   have e2 := Kd.eq_of_beq hh.2
   subst e1; subst e2; subst e3
   exact mut50 hmix n g
 fresh := fun f r args n g h hn => by
  unfold C0 at h
  dsimp only at h
  split at h
  ·obtain ⟨h1, h2⟩ := bif_some h
   cases h2
   simp only [Bool.and_eq_true, Bool.or_eq_true] at h1
   have h3 := h1.1
   refine (fun hh => ?_ : _ → _) h3
   ·have e1 := Nat.eq_of_beq_eq_true hh.1
    have e2 := Kd.eq_of_beq hh.2
    have e3 := Kd.eq_of_beq h1.2
    subst e1; subst e3; subst e2
    exact own49 hmix _ _ _ hn
  ·cases h
theorem fits11 : FFits Tryz.prog 11 A11 := ffits_of Tryz.func11 (by kernel_rfl) rfl (by kernel_rfl) rfl
theorem S1 (hmix : Tryz.prog.follows .mixedOrders = true) (fuel : Nat) : Sound Tryz.prog (C1 fuel) := (S0 hmix fuel).add (d100 100 hmix (S0 hmix 100) fits11)
theorem fits4 : FFits Tryz.prog 4 A4 := ffits_of Tryz.func4 (by kernel_rfl) rfl (by kernel_rfl) rfl
theorem S2 (hmix : Tryz.prog.follows .mixedOrders = true) (fuel : Nat) : Sound Tryz.prog (C2 fuel) := (S1 hmix fuel).add (d163 100 hmix (S1 hmix 100) fits4)
theorem fits12 : FFits Tryz.prog 12 A12 := ffits_of Tryz.func12 (by kernel_rfl) rfl (by kernel_rfl) rfl
theorem S3 (hmix : Tryz.prog.follows .mixedOrders = true) (fuel : Nat) : Sound Tryz.prog (C3 fuel) := (S2 hmix fuel).add (d101 100 hmix (S2 hmix 100) fits12)
theorem fits37 : FFits Tryz.prog 37 A37 := ffits_of Tryz.func37 (by kernel_rfl) rfl (by kernel_rfl) rfl
theorem S4 (hmix : Tryz.prog.follows .mixedOrders = true) (fuel : Nat) : Sound Tryz.prog (C4 fuel) := (S3 hmix fuel).add (d102 100 hmix (S3 hmix 100) fits37)
theorem fits64 : FFits Tryz.prog 64 A64 := ffits_of Tryz.func64 (by kernel_rfl) rfl (by kernel_rfl) rfl
theorem S5 (hmix : Tryz.prog.follows .mixedOrders = true) (fuel : Nat) : Sound Tryz.prog (C5 fuel) := (S4 hmix fuel).add (d103 100 hmix (S4 hmix 100) fits64)
theorem fits36 : FFits Tryz.prog 36 A36 := ffits_of Tryz.func36 (by kernel_rfl) rfl (by kernel_rfl) rfl
theorem S6 (hmix : Tryz.prog.follows .mixedOrders = true) (fuel : Nat) : Sound Tryz.prog (C6 fuel) := (S5 hmix fuel).add (d104 100 hmix (S5 hmix 100) fits36)
theorem fits41 : FFits Tryz.prog 41 A41 := ffits_of Tryz.func41 (by kernel_rfl) rfl (by kernel_rfl) rfl
theorem S7 (hmix : Tryz.prog.follows .mixedOrders = true) (fuel : Nat) : Sound Tryz.prog (C7 fuel) := (S6 hmix fuel).add (d105 100 hmix (S6 hmix 100) fits41)
theorem fits44 : FFits Tryz.prog 44 A44 := ffits_of Tryz.func44 (by kernel_rfl) rfl (by kernel_rfl) rfl
theorem S8 (hmix : Tryz.prog.follows .mixedOrders = true) (fuel : Nat) : Sound Tryz.prog (C8 fuel) := (S7 hmix fuel).add (d106 100 hmix (S7 hmix 100) fits44)
theorem fits45 : FFits Tryz.prog 45 A45 := ffits_of Tryz.func45 (by kernel_rfl) rfl (by kernel_rfl) rfl
theorem S9 (hmix : Tryz.prog.follows .mixedOrders = true) (fuel : Nat) : Sound Tryz.prog (C9 fuel) := (S8 hmix fuel).add (d107 100 hmix (S8 hmix 100) fits45)
theorem fits38 : FFits Tryz.prog 38 A38 := ffits_of Tryz.func38 (by kernel_rfl) rfl (by kernel_rfl) rfl
theorem S10 (hmix : Tryz.prog.follows .mixedOrders = true) (fuel : Nat) : Sound Tryz.prog (C10 fuel) := (S9 hmix fuel).add (d108 100 hmix (S9 hmix 100) fits38)
theorem fits17 : FFits Tryz.prog 17 A17 := ffits_of Tryz.func17 (by kernel_rfl) rfl (by kernel_rfl) rfl
theorem S11 (hmix : Tryz.prog.follows .mixedOrders = true) (fuel : Nat) : Sound Tryz.prog (C11 fuel) := (S10 hmix fuel).add (d109 100 hmix (S10 hmix 100) fits17)
theorem fits65 : FFits Tryz.prog 65 A65 := ffits_of Tryz.func65 (by kernel_rfl) rfl (by kernel_rfl) rfl
theorem S12 (hmix : Tryz.prog.follows .mixedOrders = true) (fuel : Nat) : Sound Tryz.prog (C12 fuel) := (S11 hmix fuel).add (d110 100 hmix (S11 hmix 100) fits65)
theorem fits39 : FFits Tryz.prog 39 A39 := ffits_of Tryz.func39 (by kernel_rfl) rfl (by kernel_rfl) rfl
theorem S13 (hmix : Tryz.prog.follows .mixedOrders = true) (fuel : Nat) : Sound Tryz.prog (C13 fuel) := (S12 hmix fuel).add (d111 100 hmix (S12 hmix 100) fits39)
theorem fits23 : FFits Tryz.prog 23 A23 := ffits_of Tryz.func23 (by kernel_rfl) rfl (by kernel_rfl) rfl
theorem S14 (hmix : Tryz.prog.follows .mixedOrders = true) (fuel : Nat) : Sound Tryz.prog (C14 fuel) := (S13 hmix fuel).add (d112 100 hmix (S13 hmix 100) fits23)
theorem fits82 : FFits Tryz.prog 82 A82 := ffits_of Tryz.func82 (by kernel_rfl) rfl (by kernel_rfl) rfl
theorem S15 (hmix : Tryz.prog.follows .mixedOrders = true) (fuel : Nat) : Sound Tryz.prog (C15 fuel) := (S14 hmix fuel).add (d61 100 hmix (S14 hmix 100) fits82)
theorem fits93 : FFits Tryz.prog 93 A93 := ffits_of Tryz.func93 (by kernel_rfl) rfl (by kernel_rfl) rfl
theorem S16 (hmix : Tryz.prog.follows .mixedOrders = true) (fuel : Nat) : Sound Tryz.prog (C16 fuel) := (S15 hmix fuel).add (d73 100 hmix (S15 hmix 100) fits93)
theorem fits81 : FFits Tryz.prog 81 A81 := ffits_of Tryz.func81 (by kernel_rfl) rfl (by kernel_rfl) rfl
theorem S17 (hmix : Tryz.prog.follows .mixedOrders = true) (fuel : Nat) : Sound Tryz.prog (C17 fuel) := (S16 hmix fuel).add (d50 100 hmix (S16 hmix 100) fits81)
theorem fits89 : FFits Tryz.prog 89 A89 := ffits_of Tryz.func89 (by kernel_rfl) rfl (by kernel_rfl) rfl
theorem S18 (hmix : Tryz.prog.follows .mixedOrders = true) (fuel : Nat) : Sound Tryz.prog (C18 fuel) := (S17 hmix fuel).add (d79 100 hmix (S17 hmix 100) fits89)
theorem fits98 : FFits Tryz.prog 98 A98 := ffits_of Tryz.func98 (by kernel_rfl) rfl (by kernel_rfl) rfl
theorem S19 (hmix : Tryz.prog.follows .mixedOrders = true) (fuel : Nat) : Sound Tryz.prog (C19 fuel) := (S18 hmix fuel).add (d87 100 hmix (S18 hmix 100) fits98)
theorem fits88 : FFits Tryz.prog 88 A88 := ffits_of Tryz.func88 (by kernel_rfl) rfl (by kernel_rfl) rfl
theorem S20 (hmix : Tryz.prog.follows .mixedOrders = true) (fuel : Nat) : Sound Tryz.prog (C20 fuel) := (S19 hmix fuel).add (d81 100 hmix (S19 hmix 100) fits88)
theorem fits105 : FFits Tryz.prog 105 A105 := ffits_of Tryz.func105 (by kernel_rfl) rfl (by kernel_rfl) rfl
theorem S21 (hmix : Tryz.prog.follows .mixedOrders = true) (fuel : Nat) : Sound Tryz.prog (C21 fuel) := (S20 hmix fuel).add (d90 100 hmix (S20 hmix 100) fits105)
theorem fits104 : FFits Tryz.prog 104 A104 := ffits_of Tryz.func104 (by kernel_rfl) rfl (by kernel_rfl) rfl
theorem S22 (hmix : Tryz.prog.follows .mixedOrders = true) (fuel : Nat) : Sound Tryz.prog (C22 fuel) := (S21 hmix fuel).add (d89 100 hmix (S21 hmix 100) fits104)
theorem fits102 : FFits Tryz.prog 102 A102 := ffits_of Tryz.func102 (by kernel_rfl) rfl (by kernel_rfl) rfl
theorem S23 (hmix : Tryz.prog.follows .mixedOrders = true) (fuel : Nat) : Sound Tryz.prog (C23 fuel) := (S22 hmix fuel).add (d86 100 hmix (S22 hmix 100) fits102)
theorem fits94 : FFits Tryz.prog 94 A94 := ffits_of Tryz.func94 (by kernel_rfl) rfl (by kernel_rfl) rfl
theorem S24 (hmix : Tryz.prog.follows .mixedOrders = true) (fuel : Nat) : Sound Tryz.prog (C24 fuel) := (S23 hmix fuel).add (d80 100 hmix (S23 hmix 100) fits94)
theorem fits83 : FFits Tryz.prog 83 A83 := ffits_of Tryz.func83 (by kernel_rfl) rfl (by kernel_rfl) rfl
theorem S25 (hmix : Tryz.prog.follows .mixedOrders = true) (fuel : Nat) : Sound Tryz.prog (C25 fuel) := (S24 hmix fuel).add (d62 100 hmix (S24 hmix 100) fits83)
theorem fits84 : FFits Tryz.prog 84 A84 := ffits_of Tryz.func84 (by kernel_rfl) rfl (by kernel_rfl) rfl
theorem S26 (hmix : Tryz.prog.follows .mixedOrders = true) (fuel : Nat) : Sound Tryz.prog (C26 fuel) := (S25 hmix fuel).add (d63 100 hmix (S25 hmix 100) fits84)
theorem fits66 : FFits Tryz.prog 66 A66 := ffits_of Tryz.func66 (by kernel_rfl) rfl (by kernel_rfl) rfl
theorem S27 (hmix : Tryz.prog.follows .mixedOrders = true) (fuel : Nat) : Sound Tryz.prog (C27 fuel) := (S26 hmix fuel).add (d33 100 hmix (S26 hmix 100) fits66)
theorem fits67 : FFits Tryz.prog 67 A67 := ffits_of Tryz.func67 (by kernel_rfl) rfl (by kernel_rfl) rfl
theorem S28 (hmix : Tryz.prog.follows .mixedOrders = true) (fuel : Nat) : Sound Tryz.prog (C28 fuel) := (S27 hmix fuel).add (d34 100 hmix (S27 hmix 100) fits67)
theorem fits96 : FFits Tryz.prog 96 A96 := ffits_of Tryz.func96 (by kernel_rfl) rfl (by kernel_rfl) rfl
theorem S29 (hmix : Tryz.prog.follows .mixedOrders = true) (fuel : Nat) : Sound Tryz.prog (C29 fuel) := (S28 hmix fuel).add (d75 100 hmix (S28 hmix 100) fits96)
theorem fits95 : FFits Tryz.prog 95 A95 := ffits_of Tryz.func95 (by kernel_rfl) rfl (by kernel_rfl) rfl
theorem S30 (hmix : Tryz.prog.follows .mixedOrders = true) (fuel : Nat) : Sound Tryz.prog (C30 fuel) := (S29 hmix fuel).add (d74 100 hmix (S29 hmix 100) fits95)
theorem fits97 : FFits Tryz.prog 97 A97 := ffits_of Tryz.func97 (by kernel_rfl) rfl (by kernel_rfl) rfl
theorem S31 (hmix : Tryz.prog.follows .mixedOrders = true) (fuel : Nat) : Sound Tryz.prog (C31 fuel) := (S30 hmix fuel).add (d76 100 hmix (S30 hmix 100) fits97)
theorem fits86 : FFits Tryz.prog 86 A86 := ffits_of Tryz.func86 (by kernel_rfl) rfl (by kernel_rfl) rfl
theorem S32 (hmix : Tryz.prog.follows .mixedOrders = true) (fuel : Nat) : Sound Tryz.prog (C32 fuel) := (S31 hmix fuel).add (d56 100 hmix (S31 hmix 100) fits86)
theorem fits85 : FFits Tryz.prog 85 A85 := ffits_of Tryz.func85 (by kernel_rfl) rfl (by kernel_rfl) rfl
theorem S33 (hmix : Tryz.prog.follows .mixedOrders = true) (fuel : Nat) : Sound Tryz.prog (C33 fuel) := (S32 hmix fuel).add (d58 100 hmix (S32 hmix 100) fits85)
theorem fits70 : FFits Tryz.prog 70 A70 := ffits_of Tryz.func70 (by kernel_rfl) rfl (by kernel_rfl) rfl
theorem S34 (hmix : Tryz.prog.follows .mixedOrders = true) (fuel : Nat) : Sound Tryz.prog (C34 fuel) := (S33 hmix fuel).add (d65 100 hmix (S33 hmix 100) fits70)
theorem fits87 : FFits Tryz.prog 87 A87 := ffits_of Tryz.func87 (by kernel_rfl) rfl (by kernel_rfl) rfl
theorem S35 (hmix : Tryz.prog.follows .mixedOrders = true) (fuel : Nat) : Sound Tryz.prog (C35 fuel) := (S34 hmix fuel).add (d64 100 hmix (S34 hmix 100) fits87)
theorem S36 (hmix : Tryz.prog.follows .mixedOrders = true) (fuel : Nat) : Sound Tryz.prog (C36 fuel) := (S35 hmix fuel).add (d73b 100 hmix (S35 hmix 100) fits93)
theorem S37 (hmix : Tryz.prog.follows .mixedOrders = true) (fuel : Nat) : Sound Tryz.prog (C37 fuel) := (S36 hmix fuel).add (d50b 100 hmix (S36 hmix 100) fits81)
theorem fits68 : FFits Tryz.prog 68 A68 := ffits_of Tryz.func68 (by kernel_rfl) rfl (by kernel_rfl) rfl
theorem S38 (hmix : Tryz.prog.follows .mixedOrders = true) (fuel : Nat) : Sound Tryz.prog (C38 fuel) := (S37 hmix fuel).add (d35 100 hmix (S37 hmix 100) fits68)
theorem fits69 : FFits Tryz.prog 69 A69 := ffits_of Tryz.func69 (by kernel_rfl) rfl (by kernel_rfl) rfl
theorem S39 (hmix : Tryz.prog.follows .mixedOrders = true) (fuel : Nat) : Sound Tryz.prog (C39 fuel) := (S38 hmix fuel).add (d36 100 hmix (S38 hmix 100) fits69)
theorem fits40 : FFits Tryz.prog 40 A40 := ffits_of Tryz.func40 (by kernel_rfl) rfl (by kernel_rfl) rfl
theorem S40 (hmix : Tryz.prog.follows .mixedOrders = true) (fuel : Nat) : Sound Tryz.prog (C40 fuel) := (S39 hmix fuel).add (d13 100 hmix (S39 hmix 100) fits40)
theorem fits18 : FFits Tryz.prog 18 A18 := ffits_of Tryz.func18 (by kernel_rfl) rfl (by kernel_rfl) rfl
theorem S41 (hmix : Tryz.prog.follows .mixedOrders = true) (fuel : Nat) : Sound Tryz.prog (C41 fuel) := (S40 hmix fuel).add (d113 100 hmix (S40 hmix 100) fits18)
theorem fits43 : FFits Tryz.prog 43 A43 := ffits_of Tryz.func43 (by kernel_rfl) rfl (by kernel_rfl) rfl
theorem S42 (hmix : Tryz.prog.follows .mixedOrders = true) (fuel : Nat) : Sound Tryz.prog (C42 fuel) := (S41 hmix fuel).add (d114 100 hmix (S41 hmix 100) fits43)
theorem fits42 : FFits Tryz.prog 42 A42 := ffits_of Tryz.func42 (by kernel_rfl) rfl (by kernel_rfl) rfl
theorem S43 (hmix : Tryz.prog.follows .mixedOrders = true) (fuel : Nat) : Sound Tryz.prog (C43 fuel) := (S42 hmix fuel).add (d115 100 hmix (S42 hmix 100) fits42)
theorem fits19 : FFits Tryz.prog 19 A19 := ffits_of Tryz.func19 (by kernel_rfl) rfl (by kernel_rfl) rfl
theorem S44 (hmix : Tryz.prog.follows .mixedOrders = true) (fuel : Nat) : Sound Tryz.prog (C44 fuel) := (S43 hmix fuel).add (d116 100 hmix (S43 hmix 100) fits19)
theorem fits21 : FFits Tryz.prog 21 A21 := ffits_of Tryz.func21 (by kernel_rfl) rfl (by kernel_rfl) rfl
theorem S45 (hmix : Tryz.prog.follows .mixedOrders = true) (fuel : Nat) : Sound Tryz.prog (C45 fuel) := (S44 hmix fuel).add (d117 100 hmix (S44 hmix 100) fits21)
theorem fits20 : FFits Tryz.prog 20 A20 := ffits_of Tryz.func20 (by kernel_rfl) rfl (by kernel_rfl) rfl
theorem S46 (hmix : Tryz.prog.follows .mixedOrders = true) (fuel : Nat) : Sound Tryz.prog (C46 fuel) := (S45 hmix fuel).add (d118 100 hmix (S45 hmix 100) fits20)
theorem fits46 : FFits Tryz.prog 46 A46 := ffits_of Tryz.func46 (by kernel_rfl) rfl (by kernel_rfl) rfl
theorem S47 (hmix : Tryz.prog.follows .mixedOrders = true) (fuel : Nat) : Sound Tryz.prog (C47 fuel) := (S46 hmix fuel).add (d47 100 hmix (S46 hmix 100) fits46)
theorem fits22 : FFits Tryz.prog 22 A22 := ffits_of Tryz.func22 (by kernel_rfl) rfl (by kernel_rfl) rfl
theorem S48 (hmix : Tryz.prog.follows .mixedOrders = true) (fuel : Nat) : Sound Tryz.prog (C48 fuel) := (S47 hmix fuel).add (d22 100 hmix (S47 hmix 100) fits22)
theorem fits47 : FFits Tryz.prog 47 A47 := ffits_of Tryz.func47 (by kernel_rfl) rfl (by kernel_rfl) rfl
theorem S49 (hmix : Tryz.prog.follows .mixedOrders = true) (fuel : Nat) : Sound Tryz.prog (C49 fuel) := (S48 hmix fuel).add (d119 100 hmix (S48 hmix 100) fits47)
theorem fits24 : FFits Tryz.prog 24 A24 := ffits_of Tryz.func24 (by kernel_rfl) rfl (by kernel_rfl) rfl
theorem S50 (hmix : Tryz.prog.follows .mixedOrders = true) (fuel : Nat) : Sound Tryz.prog (C50 fuel) := (S49 hmix fuel).add (d120 100 hmix (S49 hmix 100) fits24)
theorem fits13 : FFits Tryz.prog 13 A13 := ffits_of Tryz.func13 (by kernel_rfl) rfl (by kernel_rfl) rfl
theorem S51 (hmix : Tryz.prog.follows .mixedOrders = true) (fuel : Nat) : Sound Tryz.prog (C51 fuel) := (S50 hmix fuel).add (d121 100 hmix (S50 hmix 100) fits13)
theorem fits7 : FFits Tryz.prog 7 A7 := ffits_of Tryz.func7 (by kernel_rfl) rfl (by kernel_rfl) rfl
theorem S52 (hmix : Tryz.prog.follows .mixedOrders = true) (fuel : Nat) : Sound Tryz.prog (C52 fuel) := (S51 hmix fuel).add (d122 100 hmix (S51 hmix 100) fits7)
theorem fits51 : FFits Tryz.prog 51 A51 := ffits_of Tryz.func51 (by kernel_rfl) rfl (by kernel_rfl) rfl
theorem S53 (hmix : Tryz.prog.follows .mixedOrders = true) (fuel : Nat) : Sound Tryz.prog (C53 fuel) := (S52 hmix fuel).add (d123 100 hmix (S52 hmix 100) fits51)
theorem fits52 : FFits Tryz.prog 52 A52 := ffits_of Tryz.func52 (by kernel_rfl) rfl (by kernel_rfl) rfl
theorem S54 (hmix : Tryz.prog.follows .mixedOrders = true) (fuel : Nat) : Sound Tryz.prog (C54 fuel) := (S53 hmix fuel).add (d124 100 hmix (S53 hmix 100) fits52)
theorem fits27 : FFits Tryz.prog 27 A27 := ffits_of Tryz.func27 (by kernel_rfl) rfl (by kernel_rfl) rfl
theorem S55 (hmix : Tryz.prog.follows .mixedOrders = true) (fuel : Nat) : Sound Tryz.prog (C55 fuel) := (S54 hmix fuel).add (d125 100 hmix (S54 hmix 100) fits27)
theorem fits26 : FFits Tryz.prog 26 A26 := ffits_of Tryz.func26 (by kernel_rfl) rfl (by kernel_rfl) rfl
theorem S56 (hmix : Tryz.prog.follows .mixedOrders = true) (fuel : Nat) : Sound Tryz.prog (C56 fuel) := (S55 hmix fuel).add (d126 100 hmix (S55 hmix 100) fits26)
theorem fits48 : FFits Tryz.prog 48 A48 := ffits_of Tryz.func48 (by kernel_rfl) rfl (by kernel_rfl) rfl
theorem S57 (hmix : Tryz.prog.follows .mixedOrders = true) (fuel : Nat) : Sound Tryz.prog (C57 fuel) := (S56 hmix fuel).add (d127 100 hmix (S56 hmix 100) fits48)
theorem fits25 : FFits Tryz.prog 25 A25 := ffits_of Tryz.func25 (by kernel_rfl) rfl (by kernel_rfl) rfl
theorem S58 (hmix : Tryz.prog.follows .mixedOrders = true) (fuel : Nat) : Sound Tryz.prog (C58 fuel) := (S57 hmix fuel).add (d128 100 hmix (S57 hmix 100) fits25)
theorem fits14 : FFits Tryz.prog 14 A14 := ffits_of Tryz.func14 (by kernel_rfl) rfl (by kernel_rfl) rfl
theorem S59 (hmix : Tryz.prog.follows .mixedOrders = true) (fuel : Nat) : Sound Tryz.prog (C59 fuel) := (S58 hmix fuel).add (d129 100 hmix (S58 hmix 100) fits14)
theorem fits9 : FFits Tryz.prog 9 A9 := ffits_of Tryz.func9 (by kernel_rfl) rfl (by kernel_rfl) rfl
theorem S60 (hmix : Tryz.prog.follows .mixedOrders = true) (fuel : Nat) : Sound Tryz.prog (C60 fuel) := (S59 hmix fuel).add (d130 100 hmix (S59 hmix 100) fits9)
theorem fits6 : FFits Tryz.prog 6 A6 := ffits_of Tryz.func6 (by kernel_rfl) rfl (by kernel_rfl) rfl
theorem S61 (hmix : Tryz.prog.follows .mixedOrders = true) (fuel : Nat) : Sound Tryz.prog (C61 fuel) := (S60 hmix fuel).add (d131 fuel hmix (S60 hmix fuel) fits6)
theorem fits5 : FFits Tryz.prog 5 A5 := ffits_of Tryz.func5 (by kernel_rfl) rfl (by kernel_rfl) rfl
theorem S62 (hmix : Tryz.prog.follows .mixedOrders = true) (fuel : Nat) : Sound Tryz.prog (C62 fuel) := (S61 hmix fuel).add (d132 100 hmix (S61 hmix 100) fits5)
theorem fits53 : FFits Tryz.prog 53 A53 := ffits_of Tryz.func53 (by kernel_rfl) rfl (by kernel_rfl) rfl
theorem S63 (hmix : Tryz.prog.follows .mixedOrders = true) (fuel : Nat) : Sound Tryz.prog (C63 fuel) := (S62 hmix fuel).add (d133 100 hmix (S62 hmix 100) fits53)
theorem fits33 : FFits Tryz.prog 33 A33 := ffits_of Tryz.func33 (by kernel_rfl) rfl (by kernel_rfl) rfl
theorem S64 (hmix : Tryz.prog.follows .mixedOrders = true) (fuel : Nat) : Sound Tryz.prog (C64 fuel) := (S63 hmix fuel).add (d134 100 hmix (S63 hmix 100) fits33)
theorem fits77 : FFits Tryz.prog 77 A77 := ffits_of Tryz.func77 (by kernel_rfl) rfl (by kernel_rfl) rfl
theorem S65 (hmix : Tryz.prog.follows .mixedOrders = true) (fuel : Nat) : Sound Tryz.prog (C65 fuel) := (S64 hmix fuel).add (d69 100 hmix (S64 hmix 100) fits77)
theorem fits90 : FFits Tryz.prog 90 A90 := ffits_of Tryz.func90 (by kernel_rfl) rfl (by kernel_rfl) rfl
theorem S66 (hmix : Tryz.prog.follows .mixedOrders = true) (fuel : Nat) : Sound Tryz.prog (C66 fuel) := (S65 hmix fuel).add (d66 100 hmix (S65 hmix 100) fits90)
theorem fits79 : FFits Tryz.prog 79 A79 := ffits_of Tryz.func79 (by kernel_rfl) rfl (by kernel_rfl) rfl
theorem S67 (hmix : Tryz.prog.follows .mixedOrders = true) (fuel : Nat) : Sound Tryz.prog (C67 fuel) := (S66 hmix fuel).add (d71 100 hmix (S66 hmix 100) fits79)
theorem fits78 : FFits Tryz.prog 78 A78 := ffits_of Tryz.func78 (by kernel_rfl) rfl (by kernel_rfl) rfl
theorem S68 (hmix : Tryz.prog.follows .mixedOrders = true) (fuel : Nat) : Sound Tryz.prog (C68 fuel) := (S67 hmix fuel).add (d70 100 hmix (S67 hmix 100) fits78)
theorem fits103 : FFits Tryz.prog 103 A103 := ffits_of Tryz.func103 (by kernel_rfl) rfl (by kernel_rfl) rfl
theorem S69 (hmix : Tryz.prog.follows .mixedOrders = true) (fuel : Nat) : Sound Tryz.prog (C69 fuel) := (S68 hmix fuel).add (d88 100 hmix (S68 hmix 100) fits103)
theorem fits99 : FFits Tryz.prog 99 A99 := ffits_of Tryz.func99 (by kernel_rfl) rfl (by kernel_rfl) rfl
theorem S70 (hmix : Tryz.prog.follows .mixedOrders = true) (fuel : Nat) : Sound Tryz.prog (C70 fuel) := (S69 hmix fuel).add (d82 100 hmix (S69 hmix 100) fits99)
theorem fits91 : FFits Tryz.prog 91 A91 := ffits_of Tryz.func91 (by kernel_rfl) rfl (by kernel_rfl) rfl
theorem S71 (hmix : Tryz.prog.follows .mixedOrders = true) (fuel : Nat) : Sound Tryz.prog (C71 fuel) := (S70 hmix fuel).add (d67 100 hmix (S70 hmix 100) fits91)
theorem fits71 : FFits Tryz.prog 71 A71 := ffits_of Tryz.func71 (by kernel_rfl) rfl (by kernel_rfl) rfl
theorem S72 (hmix : Tryz.prog.follows .mixedOrders = true) (fuel : Nat) : Sound Tryz.prog (C72 fuel) := (S71 hmix fuel).add (d37 100 hmix (S71 hmix 100) fits71)
theorem fits72 : FFits Tryz.prog 72 A72 := ffits_of Tryz.func72 (by kernel_rfl) rfl (by kernel_rfl) rfl
theorem S73 (hmix : Tryz.prog.follows .mixedOrders = true) (fuel : Nat) : Sound Tryz.prog (C73 fuel) := (S72 hmix fuel).add (d38 100 hmix (S72 hmix 100) fits72)
theorem fits101 : FFits Tryz.prog 101 A101 := ffits_of Tryz.func101 (by kernel_rfl) rfl (by kernel_rfl) rfl
theorem S74 (hmix : Tryz.prog.follows .mixedOrders = true) (fuel : Nat) : Sound Tryz.prog (C74 fuel) := (S73 hmix fuel).add (d84 100 hmix (S73 hmix 100) fits101)
theorem fits100 : FFits Tryz.prog 100 A100 := ffits_of Tryz.func100 (by kernel_rfl) rfl (by kernel_rfl) rfl
theorem S75 (hmix : Tryz.prog.follows .mixedOrders = true) (fuel : Nat) : Sound Tryz.prog (C75 fuel) := (S74 hmix fuel).add (d83 100 hmix (S74 hmix 100) fits100)
theorem fits92 : FFits Tryz.prog 92 A92 := ffits_of Tryz.func92 (by kernel_rfl) rfl (by kernel_rfl) rfl
theorem S76 (hmix : Tryz.prog.follows .mixedOrders = true) (fuel : Nat) : Sound Tryz.prog (C76 fuel) := (S75 hmix fuel).add (d68 100 hmix (S75 hmix 100) fits92)
theorem fits73 : FFits Tryz.prog 73 A73 := ffits_of Tryz.func73 (by kernel_rfl) rfl (by kernel_rfl) rfl
theorem S77 (hmix : Tryz.prog.follows .mixedOrders = true) (fuel : Nat) : Sound Tryz.prog (C77 fuel) := (S76 hmix fuel).add (d39 100 hmix (S76 hmix 100) fits73)
theorem fits62 : FFits Tryz.prog 62 A62 := ffits_of Tryz.func62 (by kernel_rfl) rfl (by kernel_rfl) rfl
theorem S78 (hmix : Tryz.prog.follows .mixedOrders = true) (fuel : Nat) : Sound Tryz.prog (C78 fuel) := (S77 hmix fuel).add (d40 100 hmix (S77 hmix 100) fits62)
theorem fits54 : FFits Tryz.prog 54 A54 := ffits_of Tryz.func54 (by kernel_rfl) rfl (by kernel_rfl) rfl
theorem S79 (hmix : Tryz.prog.follows .mixedOrders = true) (fuel : Nat) : Sound Tryz.prog (C79 fuel) := (S78 hmix fuel).add (d14 100 hmix (S78 hmix 100) fits54)
theorem fits28 : FFits Tryz.prog 28 A28 := ffits_of Tryz.func28 (by kernel_rfl) rfl (by kernel_rfl) rfl
theorem S80 (hmix : Tryz.prog.follows .mixedOrders = true) (fuel : Nat) : Sound Tryz.prog (C80 fuel) := (S79 hmix fuel).add (d135 100 hmix (S79 hmix 100) fits28)
theorem fits56 : FFits Tryz.prog 56 A56 := ffits_of Tryz.func56 (by kernel_rfl) rfl (by kernel_rfl) rfl
theorem S81 (hmix : Tryz.prog.follows .mixedOrders = true) (fuel : Nat) : Sound Tryz.prog (C81 fuel) := (S80 hmix fuel).add (d136 100 hmix (S80 hmix 100) fits56)
theorem fits58 : FFits Tryz.prog 58 A58 := ffits_of Tryz.func58 (by kernel_rfl) rfl (by kernel_rfl) rfl
theorem S82 (hmix : Tryz.prog.follows .mixedOrders = true) (fuel : Nat) : Sound Tryz.prog (C82 fuel) := (S81 hmix fuel).add (d137 100 hmix (S81 hmix 100) fits58)
theorem fits55 : FFits Tryz.prog 55 A55 := ffits_of Tryz.func55 (by kernel_rfl) rfl (by kernel_rfl) rfl
theorem S83 (hmix : Tryz.prog.follows .mixedOrders = true) (fuel : Nat) : Sound Tryz.prog (C83 fuel) := (S82 hmix fuel).add (d138 100 hmix (S82 hmix 100) fits55)
theorem fits29 : FFits Tryz.prog 29 A29 := ffits_of Tryz.func29 (by kernel_rfl) rfl (by kernel_rfl) rfl
theorem S84 (hmix : Tryz.prog.follows .mixedOrders = true) (fuel : Nat) : Sound Tryz.prog (C84 fuel) := (S83 hmix fuel).add (d139 100 hmix (S83 hmix 100) fits29)
theorem fits61 : FFits Tryz.prog 61 A61 := ffits_of Tryz.func61 (by kernel_rfl) rfl (by kernel_rfl) rfl
theorem S85 (hmix : Tryz.prog.follows .mixedOrders = true) (fuel : Nat) : Sound Tryz.prog (C85 fuel) := (S84 hmix fuel).add (d140 100 hmix (S84 hmix 100) fits61)
theorem fits76 : FFits Tryz.prog 76 A76 := ffits_of Tryz.func76 (by kernel_rfl) rfl (by kernel_rfl) rfl
theorem S86 (hmix : Tryz.prog.follows .mixedOrders = true) (fuel : Nat) : Sound Tryz.prog (C86 fuel) := (S85 hmix fuel).add (d141 100 hmix (S85 hmix 100) fits76)
theorem fits75 : FFits Tryz.prog 75 A75 := ffits_of Tryz.func75 (by kernel_rfl) rfl (by kernel_rfl) rfl
theorem S87 (hmix : Tryz.prog.follows .mixedOrders = true) (fuel : Nat) : Sound Tryz.prog (C87 fuel) := (S86 hmix fuel).add (d142 100 hmix (S86 hmix 100) fits75)
theorem fits59 : FFits Tryz.prog 59 A59 := ffits_of Tryz.func59 (by kernel_rfl) rfl (by kernel_rfl) rfl
theorem S88 (hmix : Tryz.prog.follows .mixedOrders = true) (fuel : Nat) : Sound Tryz.prog (C88 fuel) := (S87 hmix fuel).add (d143 100 hmix (S87 hmix 100) fits59)
theorem fits74 : FFits Tryz.prog 74 A74 := ffits_of Tryz.func74 (by kernel_rfl) rfl (by kernel_rfl) rfl
theorem S89 (hmix : Tryz.prog.follows .mixedOrders = true) (fuel : Nat) : Sound Tryz.prog (C89 fuel) := (S88 hmix fuel).add (d144 100 hmix (S88 hmix 100) fits74)
theorem fits57 : FFits Tryz.prog 57 A57 := ffits_of Tryz.func57 (by kernel_rfl) rfl (by kernel_rfl) rfl
theorem S90 (hmix : Tryz.prog.follows .mixedOrders = true) (fuel : Nat) : Sound Tryz.prog (C90 fuel) := (S89 hmix fuel).add (d145 100 hmix (S89 hmix 100) fits57)
theorem fits30 : FFits Tryz.prog 30 A30 := ffits_of Tryz.func30 (by kernel_rfl) rfl (by kernel_rfl) rfl
theorem S91 (hmix : Tryz.prog.follows .mixedOrders = true) (fuel : Nat) : Sound Tryz.prog (C91 fuel) := (S90 hmix fuel).add (d146 100 hmix (S90 hmix 100) fits30)
theorem fits60 : FFits Tryz.prog 60 A60 := ffits_of Tryz.func60 (by kernel_rfl) rfl (by kernel_rfl) rfl
theorem S92 (hmix : Tryz.prog.follows .mixedOrders = true) (fuel : Nat) : Sound Tryz.prog (C92 fuel) := (S91 hmix fuel).add (d147 100 hmix (S91 hmix 100) fits60)
theorem fits31 : FFits Tryz.prog 31 A31 := ffits_of Tryz.func31 (by kernel_rfl) rfl (by kernel_rfl) rfl
theorem S93 (hmix : Tryz.prog.follows .mixedOrders = true) (fuel : Nat) : Sound Tryz.prog (C93 fuel) := (S92 hmix fuel).add (d148 100 hmix (S92 hmix 100) fits31)
theorem fits32 : FFits Tryz.prog 32 A32 := ffits_of Tryz.func32 (by kernel_rfl) rfl (by kernel_rfl) rfl
theorem S94 (hmix : Tryz.prog.follows .mixedOrders = true) (fuel : Nat) : Sound Tryz.prog (C94 fuel) := (S93 hmix fuel).add (d23 100 hmix (S93 hmix 100) fits32)
theorem fits15 : FFits Tryz.prog 15 A15 := ffits_of Tryz.func15 (by kernel_rfl) rfl (by kernel_rfl) rfl
theorem S95 (hmix : Tryz.prog.follows .mixedOrders = true) (fuel : Nat) : Sound Tryz.prog (C95 fuel) := (S94 hmix fuel).add (d149 100 hmix (S94 hmix 100) fits15)
theorem fits8 : FFits Tryz.prog 8 A8 := ffits_of Tryz.func8 (by kernel_rfl) rfl (by kernel_rfl) rfl
theorem S96 (hmix : Tryz.prog.follows .mixedOrders = true) (fuel : Nat) : Sound Tryz.prog (C96 fuel) := (S95 hmix fuel).add (d164 100 hmix (S95 hmix 100) fits8)
theorem fits34 : FFits Tryz.prog 34 A34 := ffits_of Tryz.func34 (by kernel_rfl) rfl (by kernel_rfl) rfl
theorem S97 (hmix : Tryz.prog.follows .mixedOrders = true) (fuel : Nat) : Sound Tryz.prog (C97 fuel) := (S96 hmix fuel).add (d151 100 hmix (S96 hmix 100) fits34)
theorem fits80 : FFits Tryz.prog 80 A80 := ffits_of Tryz.func80 (by kernel_rfl) rfl (by kernel_rfl) rfl
theorem S98 (hmix : Tryz.prog.follows .mixedOrders = true) (fuel : Nat) : Sound Tryz.prog (C98 fuel) := (S97 hmix fuel).add (d152 100 hmix (S97 hmix 100) fits80)
theorem fits63 : FFits Tryz.prog 63 A63 := ffits_of Tryz.func63 (by kernel_rfl) rfl (by kernel_rfl) rfl
theorem S99 (hmix : Tryz.prog.follows .mixedOrders = true) (fuel : Nat) : Sound Tryz.prog (C99 fuel) := (S98 hmix fuel).add (d153 100 hmix (S98 hmix 100) fits63)
theorem fits35 : FFits Tryz.prog 35 A35 := ffits_of Tryz.func35 (by kernel_rfl) rfl (by kernel_rfl) rfl
theorem S100 (hmix : Tryz.prog.follows .mixedOrders = true) (fuel : Nat) : Sound Tryz.prog (C100 fuel) := (S99 hmix fuel).add (d154 100 hmix (S99 hmix 100) fits35)
theorem fits16 : FFits Tryz.prog 16 A16 := ffits_of Tryz.func16 (by kernel_rfl) rfl (by kernel_rfl) rfl
theorem S101 (hmix : Tryz.prog.follows .mixedOrders = true) (fuel : Nat) : Sound Tryz.prog (C101 fuel) := (S100 hmix fuel).add (d155 100 hmix (S100 hmix 100) fits16)
theorem fits10 : FFits Tryz.prog 10 A10 := ffits_of Tryz.func10 (by kernel_rfl) rfl (by kernel_rfl) rfl
theorem S102 (hmix : Tryz.prog.follows .mixedOrders = true) (fuel : Nat) : Sound Tryz.prog (C102 fuel) := (S101 hmix fuel).add (d165 100 hmix (S101 hmix 100) fits10)
theorem fits3 : FFits Tryz.prog 3 A3 := ffits_of Tryz.func3 (by kernel_rfl) rfl (by kernel_rfl) rfl
theorem w166 (hmix : Tryz.prog.follows .mixedOrders = true) {fuel : Nat} {args res : List A} (h : (O166 fuel).o args some = some res) : Den Tryz.prog 3 args res := d166 fuel hmix (S102 hmix fuel) fits3 args res h
end Go.Eng.R13
