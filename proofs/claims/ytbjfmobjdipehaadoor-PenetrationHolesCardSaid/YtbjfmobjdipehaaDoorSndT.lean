/-
  All functions are sound; printed by decomp.py.
-/
import Derived.Test.YtbjfmobjdipehaaDoorDecT2
import Derived.Test.YtbjfmobjdipehaaDoorPlRev
import Derived.Test.YtbjfmobjdipehaaDoorEngV
import Derived.Test.YtbjfmobjdipehaaDoorProg
set_option linter.all false
set_option maxRecDepth 1000000
set_option maxHeartbeats 4000000
namespace Go.Eng.R13
open Go Go.RowKit Go.Eng Go.Proofs
theorem zero_run65 (g : Nat → Nat → CV) : evalF (CE 2) 2 A65 [.v (.ro false (.pr (.int .i64) (.pr (.int .i64) .nil)) 0 g)] = some [] := by kernel_rfl
theorem fits65 : FFits Tryd.prog 65 A65 := ffits_of Tryd.func65 (by kernel_rfl) rfl (by kernel_rfl) rfl
theorem mut65 (hmix : Tryd.prog.follows .mixedOrders = true) (n : Nat) (g : Nat → Nat → CV) : MutDen Tryd.prog 65 (.pr (.int .i64) (.pr (.int .i64) .nil)) n g [] (revF n g) := by
  by_cases h : n < 9223372036854775808
  · by_cases h0 : n = 0
    · subst h0
      exact mutDen_of (fuel := 2) hmix (soundE 2) fits65 rfl (by decide) rfl (fun _ => zero_run65 g) (fun h => absurd h (by omega))
    · refine mutDen_of (fuel := n + 1) hmix (soundE (n + 1)) fits65 rfl (by decide) rfl (fun h => absurd h h0) (fun _ hok => ?_)
      obtain ⟨f', h1, h2⟩ := rev_law (n + 1) n g (by omega) h (fun i j hi hj => by
        have := hok i j hi hj
        match j, hj with
        | 0, _ => exact this
        | 1, _ => exact this)
      exact ⟨n, f', (e52 (n + 1) n g).trans h1, Nat.le_refl _, fun i j hi hj => h2 i j hi hj⟩
  · refine ⟨fits65.ok, fun h0 => absurd h0 (by omega), fun _ w okA gb cap cur e vs _ _ _ _ _ h1 h2 => ?_⟩
    have : maxLen = 9223372036854775807 := rfl
    omega
theorem fits64 : FFits Tryd.prog 64 (cloneAF 22 40 (.pr (.int .i64) (.pr (.int .i64) .nil)) 16 [.c (.i .i64 0), .c (.i .i64 0)]) := ffits_of Tryd.func64 (by kernel_rfl) rfl (by kernel_rfl) rfl
theorem own64 (hmix : Tryd.prog.follows .mixedOrders = true) (n : Nat) (g : Nat → Nat → CV) (fl : Bool) (h : n ≤ 1073741824) : FreshDen Tryd.prog 64 (.pr (.int .i64) (.pr (.int .i64) .nil)) [.v (.ro fl (.pr (.int .i64) (.pr (.int .i64) .nil)) n g)] n g := by
  have hb : Nat.ble (0 + n) 1073741824 = true := by rw [Nat.zero_add, Nat.ble_eq]; exact h
  exact clone_fresh (C := CE 2) hmix (soundE 2) fits64 rfl rfl Tryd.underlying22 n g fl (by kernel_rfl)
    ((show evalC (CE 2) 2 (.seq (.cond (tm 4) (.seq (.region 2 [o1 2 (.assign (.const (.slice none 0 0)))] 0 none) [] (.ret (0 :: 1 :: (rl 3 5 [])))) .skip) [2, 3, 4] (.seq (.region 3 [o1 5 (.buildSlice 0 22 40 (.pr (.int .i64) (.pr (.int .i64) .nil)) 0 [.c (.i .i64 0), .c (.i .i64 0)] []), mv 6 0, o1 7 (.append 1 22 40 (.pr (.int .i64) (.pr (.int .i64) .nil)) 16 (tm 5) (tm 6)), o1 2 (.assign (tm 7))] 2 none) [] (.ret (0 :: 1 :: (rl 3 5 []))))) ⟨[.x (.c (.ro fl (.pr (.int .i64) (.pr (.int .i64) .nil)) n g)), .undef, .x (.c (.ro true .nil 0 (fun _ _ => .any))), .x (.c (.ro fl (.pr (.int .i64) (.pr (.int .i64) .nil)) n g)), bl false, .undef, .undef, .undef], []⟩ (finO 2 (.pr (.int .i64) (.pr (.int .i64) .nil))) = bif Nat.ble (0 + n) 1073741824 then some (0 + n, joinF 0 (rowsF 2 []) g) else none from by kernel_rfl).trans (by rw [hb]; rfl))
theorem S0 (hmix : Tryd.prog.follows .mixedOrders = true) (fuel : Nat) : Sound Tryd.prog (C0 fuel) where
  call := fun f args res h => by cases h
  turn := fun f r n g rest g' h => by
    obtain ⟨h1, h2⟩ := bif_some (show (bif _ && _ then some (revF n g) else none) = some g' from h)
    cases h2
    simp only [Bool.and_eq_true, Bool.or_eq_true] at h1
    have e3 : rest = [] := by simpa using h1.2
    have h1 := h1.1
    refine (fun hh => ?_ : _ → _) h1
    · have e1 := Nat.eq_of_beq_eq_true hh.1
      have e2 := Kd.eq_of_beq hh.2
      subst e1; subst e2; subst e3
      exact mut65 hmix n g
  fresh := fun f r args n g h hn => by
    unfold C0 at h
    dsimp only at h
    split at h
    · obtain ⟨h1, h2⟩ := bif_some h
      cases h2
      simp only [Bool.and_eq_true, Bool.or_eq_true] at h1
      have h3 := h1.1
      refine (fun hh => ?_ : _ → _) h3
      · have e1 := Nat.eq_of_beq_eq_true hh.1
        have e2 := Kd.eq_of_beq hh.2
        have e3 := Kd.eq_of_beq h1.2
        subst e1; subst e3; subst e2
        exact own64 hmix _ _ _ hn
    · cases h
theorem fits9 : FFits Tryd.prog 9 A9 := ffits_of Tryd.func9 (by kernel_rfl) rfl (by kernel_rfl) rfl
theorem S1 (hmix : Tryd.prog.follows .mixedOrders = true) (fuel : Nat) : Sound Tryd.prog (C1 fuel) := (S0 hmix fuel).add (d100 fuel hmix (S0 hmix fuel) fits9)
theorem fits20 : FFits Tryd.prog 20 A20 := ffits_of Tryd.func20 (by kernel_rfl) rfl (by kernel_rfl) rfl
theorem S2 (hmix : Tryd.prog.follows .mixedOrders = true) (fuel : Nat) : Sound Tryd.prog (C2 fuel) := (S1 hmix fuel).add (d101 fuel hmix (S1 hmix fuel) fits20)
theorem fits45 : FFits Tryd.prog 45 A45 := ffits_of Tryd.func45 (by kernel_rfl) rfl (by kernel_rfl) rfl
theorem S3 (hmix : Tryd.prog.follows .mixedOrders = true) (fuel : Nat) : Sound Tryd.prog (C3 fuel) := (S2 hmix fuel).add (d102 fuel hmix (S2 hmix fuel) fits45)
theorem fits69 : FFits Tryd.prog 69 A69 := ffits_of Tryd.func69 (by kernel_rfl) rfl (by kernel_rfl) rfl
theorem S4 (hmix : Tryd.prog.follows .mixedOrders = true) (fuel : Nat) : Sound Tryd.prog (C4 fuel) := (S3 hmix fuel).add (d103 fuel hmix (S3 hmix fuel) fits69)
theorem fits44 : FFits Tryd.prog 44 A44 := ffits_of Tryd.func44 (by kernel_rfl) rfl (by kernel_rfl) rfl
theorem S5 (hmix : Tryd.prog.follows .mixedOrders = true) (fuel : Nat) : Sound Tryd.prog (C5 fuel) := (S4 hmix fuel).add (d104 fuel hmix (S4 hmix fuel) fits44)
theorem fits41 : FFits Tryd.prog 41 A41 := ffits_of Tryd.func41 (by kernel_rfl) rfl (by kernel_rfl) rfl
theorem S6 (hmix : Tryd.prog.follows .mixedOrders = true) (fuel : Nat) : Sound Tryd.prog (C6 fuel) := (S5 hmix fuel).add (d105 fuel hmix (S5 hmix fuel) fits41)
theorem fits50 : FFits Tryd.prog 50 A50 := ffits_of Tryd.func50 (by kernel_rfl) rfl (by kernel_rfl) rfl
theorem S7 (hmix : Tryd.prog.follows .mixedOrders = true) (fuel : Nat) : Sound Tryd.prog (C7 fuel) := (S6 hmix fuel).add (d106 fuel hmix (S6 hmix fuel) fits50)
theorem fits43 : FFits Tryd.prog 43 A43 := ffits_of Tryd.func43 (by kernel_rfl) rfl (by kernel_rfl) rfl
theorem S8 (hmix : Tryd.prog.follows .mixedOrders = true) (fuel : Nat) : Sound Tryd.prog (C8 fuel) := (S7 hmix fuel).add (d107 fuel hmix (S7 hmix fuel) fits43)
theorem fits46 : FFits Tryd.prog 46 A46 := ffits_of Tryd.func46 (by kernel_rfl) rfl (by kernel_rfl) rfl
theorem S9 (hmix : Tryd.prog.follows .mixedOrders = true) (fuel : Nat) : Sound Tryd.prog (C9 fuel) := (S8 hmix fuel).add (d108 fuel hmix (S8 hmix fuel) fits46)
theorem fits22 : FFits Tryd.prog 22 A22 := ffits_of Tryd.func22 (by kernel_rfl) rfl (by kernel_rfl) rfl
theorem S10 (hmix : Tryd.prog.follows .mixedOrders = true) (fuel : Nat) : Sound Tryd.prog (C10 fuel) := (S9 hmix fuel).add (d109 fuel hmix (S9 hmix fuel) fits22)
theorem fits42 : FFits Tryd.prog 42 A42 := ffits_of Tryd.func42 (by kernel_rfl) rfl (by kernel_rfl) rfl
theorem S11 (hmix : Tryd.prog.follows .mixedOrders = true) (fuel : Nat) : Sound Tryd.prog (C11 fuel) := (S10 hmix fuel).add (d110 fuel hmix (S10 hmix fuel) fits42)
theorem fits18 : FFits Tryd.prog 18 A18 := ffits_of Tryd.func18 (by kernel_rfl) rfl (by kernel_rfl) rfl
theorem S12 (hmix : Tryd.prog.follows .mixedOrders = true) (fuel : Nat) : Sound Tryd.prog (C12 fuel) := (S11 hmix fuel).add (d111 fuel hmix (S11 hmix fuel) fits18)
theorem fits28 : FFits Tryd.prog 28 A28 := ffits_of Tryd.func28 (by kernel_rfl) rfl (by kernel_rfl) rfl
theorem S13 (hmix : Tryd.prog.follows .mixedOrders = true) (fuel : Nat) : Sound Tryd.prog (C13 fuel) := (S12 hmix fuel).add (d112 fuel hmix (S12 hmix fuel) fits28)
theorem fits86 : FFits Tryd.prog 86 A86 := ffits_of Tryd.func86 (by kernel_rfl) rfl (by kernel_rfl) rfl
theorem S14 (hmix : Tryd.prog.follows .mixedOrders = true) (fuel : Nat) : Sound Tryd.prog (C14 fuel) := (S13 hmix fuel).add (d61 fuel hmix (S13 hmix fuel) fits86)
theorem fits97 : FFits Tryd.prog 97 A97 := ffits_of Tryd.func97 (by kernel_rfl) rfl (by kernel_rfl) rfl
theorem S15 (hmix : Tryd.prog.follows .mixedOrders = true) (fuel : Nat) : Sound Tryd.prog (C15 fuel) := (S14 hmix fuel).add (d73 fuel hmix (S14 hmix fuel) fits97)
theorem fits85 : FFits Tryd.prog 85 A85 := ffits_of Tryd.func85 (by kernel_rfl) rfl (by kernel_rfl) rfl
theorem S16 (hmix : Tryd.prog.follows .mixedOrders = true) (fuel : Nat) : Sound Tryd.prog (C16 fuel) := (S15 hmix fuel).add (d50 fuel hmix (S15 hmix fuel) fits85)
theorem fits93 : FFits Tryd.prog 93 A93 := ffits_of Tryd.func93 (by kernel_rfl) rfl (by kernel_rfl) rfl
theorem S17 (hmix : Tryd.prog.follows .mixedOrders = true) (fuel : Nat) : Sound Tryd.prog (C17 fuel) := (S16 hmix fuel).add (d79 fuel hmix (S16 hmix fuel) fits93)
theorem fits102 : FFits Tryd.prog 102 A102 := ffits_of Tryd.func102 (by kernel_rfl) rfl (by kernel_rfl) rfl
theorem S18 (hmix : Tryd.prog.follows .mixedOrders = true) (fuel : Nat) : Sound Tryd.prog (C18 fuel) := (S17 hmix fuel).add (d87 fuel hmix (S17 hmix fuel) fits102)
theorem fits92 : FFits Tryd.prog 92 A92 := ffits_of Tryd.func92 (by kernel_rfl) rfl (by kernel_rfl) rfl
theorem S19 (hmix : Tryd.prog.follows .mixedOrders = true) (fuel : Nat) : Sound Tryd.prog (C19 fuel) := (S18 hmix fuel).add (d81 fuel hmix (S18 hmix fuel) fits92)
theorem fits109 : FFits Tryd.prog 109 A109 := ffits_of Tryd.func109 (by kernel_rfl) rfl (by kernel_rfl) rfl
theorem S20 (hmix : Tryd.prog.follows .mixedOrders = true) (fuel : Nat) : Sound Tryd.prog (C20 fuel) := (S19 hmix fuel).add (d90 fuel hmix (S19 hmix fuel) fits109)
theorem fits108 : FFits Tryd.prog 108 A108 := ffits_of Tryd.func108 (by kernel_rfl) rfl (by kernel_rfl) rfl
theorem S21 (hmix : Tryd.prog.follows .mixedOrders = true) (fuel : Nat) : Sound Tryd.prog (C21 fuel) := (S20 hmix fuel).add (d89 fuel hmix (S20 hmix fuel) fits108)
theorem fits106 : FFits Tryd.prog 106 A106 := ffits_of Tryd.func106 (by kernel_rfl) rfl (by kernel_rfl) rfl
theorem S22 (hmix : Tryd.prog.follows .mixedOrders = true) (fuel : Nat) : Sound Tryd.prog (C22 fuel) := (S21 hmix fuel).add (d86 fuel hmix (S21 hmix fuel) fits106)
theorem fits98 : FFits Tryd.prog 98 A98 := ffits_of Tryd.func98 (by kernel_rfl) rfl (by kernel_rfl) rfl
theorem S23 (hmix : Tryd.prog.follows .mixedOrders = true) (fuel : Nat) : Sound Tryd.prog (C23 fuel) := (S22 hmix fuel).add (d80 fuel hmix (S22 hmix fuel) fits98)
theorem fits87 : FFits Tryd.prog 87 A87 := ffits_of Tryd.func87 (by kernel_rfl) rfl (by kernel_rfl) rfl
theorem S24 (hmix : Tryd.prog.follows .mixedOrders = true) (fuel : Nat) : Sound Tryd.prog (C24 fuel) := (S23 hmix fuel).add (d62 fuel hmix (S23 hmix fuel) fits87)
theorem fits88 : FFits Tryd.prog 88 A88 := ffits_of Tryd.func88 (by kernel_rfl) rfl (by kernel_rfl) rfl
theorem S25 (hmix : Tryd.prog.follows .mixedOrders = true) (fuel : Nat) : Sound Tryd.prog (C25 fuel) := (S24 hmix fuel).add (d63 fuel hmix (S24 hmix fuel) fits88)
theorem fits70 : FFits Tryd.prog 70 A70 := ffits_of Tryd.func70 (by kernel_rfl) rfl (by kernel_rfl) rfl
theorem S26 (hmix : Tryd.prog.follows .mixedOrders = true) (fuel : Nat) : Sound Tryd.prog (C26 fuel) := (S25 hmix fuel).add (d33 fuel hmix (S25 hmix fuel) fits70)
theorem fits71 : FFits Tryd.prog 71 A71 := ffits_of Tryd.func71 (by kernel_rfl) rfl (by kernel_rfl) rfl
theorem S27 (hmix : Tryd.prog.follows .mixedOrders = true) (fuel : Nat) : Sound Tryd.prog (C27 fuel) := (S26 hmix fuel).add (d34 fuel hmix (S26 hmix fuel) fits71)
theorem fits100 : FFits Tryd.prog 100 A100 := ffits_of Tryd.func100 (by kernel_rfl) rfl (by kernel_rfl) rfl
theorem S28 (hmix : Tryd.prog.follows .mixedOrders = true) (fuel : Nat) : Sound Tryd.prog (C28 fuel) := (S27 hmix fuel).add (d75 fuel hmix (S27 hmix fuel) fits100)
theorem fits99 : FFits Tryd.prog 99 A99 := ffits_of Tryd.func99 (by kernel_rfl) rfl (by kernel_rfl) rfl
theorem S29 (hmix : Tryd.prog.follows .mixedOrders = true) (fuel : Nat) : Sound Tryd.prog (C29 fuel) := (S28 hmix fuel).add (d74 fuel hmix (S28 hmix fuel) fits99)
theorem fits101 : FFits Tryd.prog 101 A101 := ffits_of Tryd.func101 (by kernel_rfl) rfl (by kernel_rfl) rfl
theorem S30 (hmix : Tryd.prog.follows .mixedOrders = true) (fuel : Nat) : Sound Tryd.prog (C30 fuel) := (S29 hmix fuel).add (d76 fuel hmix (S29 hmix fuel) fits101)
theorem fits90 : FFits Tryd.prog 90 A90 := ffits_of Tryd.func90 (by kernel_rfl) rfl (by kernel_rfl) rfl
theorem S31 (hmix : Tryd.prog.follows .mixedOrders = true) (fuel : Nat) : Sound Tryd.prog (C31 fuel) := (S30 hmix fuel).add (d56 fuel hmix (S30 hmix fuel) fits90)
theorem fits89 : FFits Tryd.prog 89 A89 := ffits_of Tryd.func89 (by kernel_rfl) rfl (by kernel_rfl) rfl
theorem S32 (hmix : Tryd.prog.follows .mixedOrders = true) (fuel : Nat) : Sound Tryd.prog (C32 fuel) := (S31 hmix fuel).add (d58 fuel hmix (S31 hmix fuel) fits89)
theorem fits74 : FFits Tryd.prog 74 A74 := ffits_of Tryd.func74 (by kernel_rfl) rfl (by kernel_rfl) rfl
theorem S33 (hmix : Tryd.prog.follows .mixedOrders = true) (fuel : Nat) : Sound Tryd.prog (C33 fuel) := (S32 hmix fuel).add (d65 fuel hmix (S32 hmix fuel) fits74)
theorem fits91 : FFits Tryd.prog 91 A91 := ffits_of Tryd.func91 (by kernel_rfl) rfl (by kernel_rfl) rfl
theorem S34 (hmix : Tryd.prog.follows .mixedOrders = true) (fuel : Nat) : Sound Tryd.prog (C34 fuel) := (S33 hmix fuel).add (d64 fuel hmix (S33 hmix fuel) fits91)
theorem S35 (hmix : Tryd.prog.follows .mixedOrders = true) (fuel : Nat) : Sound Tryd.prog (C35 fuel) := (S34 hmix fuel).add (d73b fuel hmix (S34 hmix fuel) fits97)
theorem S36 (hmix : Tryd.prog.follows .mixedOrders = true) (fuel : Nat) : Sound Tryd.prog (C36 fuel) := (S35 hmix fuel).add (d50b fuel hmix (S35 hmix fuel) fits85)
theorem fits72 : FFits Tryd.prog 72 A72 := ffits_of Tryd.func72 (by kernel_rfl) rfl (by kernel_rfl) rfl
theorem S37 (hmix : Tryd.prog.follows .mixedOrders = true) (fuel : Nat) : Sound Tryd.prog (C37 fuel) := (S36 hmix fuel).add (d35 fuel hmix (S36 hmix fuel) fits72)
theorem fits73 : FFits Tryd.prog 73 A73 := ffits_of Tryd.func73 (by kernel_rfl) rfl (by kernel_rfl) rfl
theorem S38 (hmix : Tryd.prog.follows .mixedOrders = true) (fuel : Nat) : Sound Tryd.prog (C38 fuel) := (S37 hmix fuel).add (d36 fuel hmix (S37 hmix fuel) fits73)
theorem fits47 : FFits Tryd.prog 47 A47 := ffits_of Tryd.func47 (by kernel_rfl) rfl (by kernel_rfl) rfl
theorem S39 (hmix : Tryd.prog.follows .mixedOrders = true) (fuel : Nat) : Sound Tryd.prog (C39 fuel) := (S38 hmix fuel).add (d13 fuel hmix (S38 hmix fuel) fits47)
theorem fits23 : FFits Tryd.prog 23 A23 := ffits_of Tryd.func23 (by kernel_rfl) rfl (by kernel_rfl) rfl
theorem S40 (hmix : Tryd.prog.follows .mixedOrders = true) (fuel : Nat) : Sound Tryd.prog (C40 fuel) := (S39 hmix fuel).add (d113 fuel hmix (S39 hmix fuel) fits23)
theorem fits49 : FFits Tryd.prog 49 A49 := ffits_of Tryd.func49 (by kernel_rfl) rfl (by kernel_rfl) rfl
theorem S41 (hmix : Tryd.prog.follows .mixedOrders = true) (fuel : Nat) : Sound Tryd.prog (C41 fuel) := (S40 hmix fuel).add (d114 fuel hmix (S40 hmix fuel) fits49)
theorem fits48 : FFits Tryd.prog 48 A48 := ffits_of Tryd.func48 (by kernel_rfl) rfl (by kernel_rfl) rfl
theorem S42 (hmix : Tryd.prog.follows .mixedOrders = true) (fuel : Nat) : Sound Tryd.prog (C42 fuel) := (S41 hmix fuel).add (d115 fuel hmix (S41 hmix fuel) fits48)
theorem fits24 : FFits Tryd.prog 24 A24 := ffits_of Tryd.func24 (by kernel_rfl) rfl (by kernel_rfl) rfl
theorem S43 (hmix : Tryd.prog.follows .mixedOrders = true) (fuel : Nat) : Sound Tryd.prog (C43 fuel) := (S42 hmix fuel).add (d116 fuel hmix (S42 hmix fuel) fits24)
theorem fits26 : FFits Tryd.prog 26 A26 := ffits_of Tryd.func26 (by kernel_rfl) rfl (by kernel_rfl) rfl
theorem S44 (hmix : Tryd.prog.follows .mixedOrders = true) (fuel : Nat) : Sound Tryd.prog (C44 fuel) := (S43 hmix fuel).add (d117 fuel hmix (S43 hmix fuel) fits26)
theorem fits25 : FFits Tryd.prog 25 A25 := ffits_of Tryd.func25 (by kernel_rfl) rfl (by kernel_rfl) rfl
theorem S45 (hmix : Tryd.prog.follows .mixedOrders = true) (fuel : Nat) : Sound Tryd.prog (C45 fuel) := (S44 hmix fuel).add (d118 fuel hmix (S44 hmix fuel) fits25)
theorem fits51 : FFits Tryd.prog 51 A51 := ffits_of Tryd.func51 (by kernel_rfl) rfl (by kernel_rfl) rfl
theorem S46 (hmix : Tryd.prog.follows .mixedOrders = true) (fuel : Nat) : Sound Tryd.prog (C46 fuel) := (S45 hmix fuel).add (d47 fuel hmix (S45 hmix fuel) fits51)
theorem fits27 : FFits Tryd.prog 27 A27 := ffits_of Tryd.func27 (by kernel_rfl) rfl (by kernel_rfl) rfl
theorem S47 (hmix : Tryd.prog.follows .mixedOrders = true) (fuel : Nat) : Sound Tryd.prog (C47 fuel) := (S46 hmix fuel).add (d22 fuel hmix (S46 hmix fuel) fits27)
theorem fits52 : FFits Tryd.prog 52 A52 := ffits_of Tryd.func52 (by kernel_rfl) rfl (by kernel_rfl) rfl
theorem S48 (hmix : Tryd.prog.follows .mixedOrders = true) (fuel : Nat) : Sound Tryd.prog (C48 fuel) := (S47 hmix fuel).add (d119 fuel hmix (S47 hmix fuel) fits52)
theorem fits29 : FFits Tryd.prog 29 A29 := ffits_of Tryd.func29 (by kernel_rfl) rfl (by kernel_rfl) rfl
theorem S49 (hmix : Tryd.prog.follows .mixedOrders = true) (fuel : Nat) : Sound Tryd.prog (C49 fuel) := (S48 hmix fuel).add (d120 fuel hmix (S48 hmix fuel) fits29)
theorem fits12 : FFits Tryd.prog 12 A12 := ffits_of Tryd.func12 (by kernel_rfl) rfl (by kernel_rfl) rfl
theorem S50 (hmix : Tryd.prog.follows .mixedOrders = true) (fuel : Nat) : Sound Tryd.prog (C50 fuel) := (S49 hmix fuel).add (d121 fuel hmix (S49 hmix fuel) fits12)
theorem fits21 : FFits Tryd.prog 21 A21 := ffits_of Tryd.func21 (by kernel_rfl) rfl (by kernel_rfl) rfl
theorem S51 (hmix : Tryd.prog.follows .mixedOrders = true) (fuel : Nat) : Sound Tryd.prog (C51 fuel) := (S50 hmix fuel).add (d122 fuel hmix (S50 hmix fuel) fits21)
theorem fits66 : FFits Tryd.prog 66 A66 := ffits_of Tryd.func66 (by kernel_rfl) rfl (by kernel_rfl) rfl
theorem S52 (hmix : Tryd.prog.follows .mixedOrders = true) (fuel : Nat) : Sound Tryd.prog (C52 fuel) := (S51 hmix fuel).add (d123 fuel hmix (S51 hmix fuel) fits66)
theorem fits67 : FFits Tryd.prog 67 A67 := ffits_of Tryd.func67 (by kernel_rfl) rfl (by kernel_rfl) rfl
theorem S53 (hmix : Tryd.prog.follows .mixedOrders = true) (fuel : Nat) : Sound Tryd.prog (C53 fuel) := (S52 hmix fuel).add (d124 fuel hmix (S52 hmix fuel) fits67)
theorem fits38 : FFits Tryd.prog 38 A38 := ffits_of Tryd.func38 (by kernel_rfl) rfl (by kernel_rfl) rfl
theorem S54 (hmix : Tryd.prog.follows .mixedOrders = true) (fuel : Nat) : Sound Tryd.prog (C54 fuel) := (S53 hmix fuel).add (d125 fuel hmix (S53 hmix fuel) fits38)
theorem fits37 : FFits Tryd.prog 37 A37 := ffits_of Tryd.func37 (by kernel_rfl) rfl (by kernel_rfl) rfl
theorem S55 (hmix : Tryd.prog.follows .mixedOrders = true) (fuel : Nat) : Sound Tryd.prog (C55 fuel) := (S54 hmix fuel).add (d126 fuel hmix (S54 hmix fuel) fits37)
theorem fits63 : FFits Tryd.prog 63 A63 := ffits_of Tryd.func63 (by kernel_rfl) rfl (by kernel_rfl) rfl
theorem S56 (hmix : Tryd.prog.follows .mixedOrders = true) (fuel : Nat) : Sound Tryd.prog (C56 fuel) := (S55 hmix fuel).add (d127 fuel hmix (S55 hmix fuel) fits63)
theorem fits36 : FFits Tryd.prog 36 A36 := ffits_of Tryd.func36 (by kernel_rfl) rfl (by kernel_rfl) rfl
theorem S57 (hmix : Tryd.prog.follows .mixedOrders = true) (fuel : Nat) : Sound Tryd.prog (C57 fuel) := (S56 hmix fuel).add (d128 fuel hmix (S56 hmix fuel) fits36)
theorem fits14 : FFits Tryd.prog 14 A14 := ffits_of Tryd.func14 (by kernel_rfl) rfl (by kernel_rfl) rfl
theorem S58 (hmix : Tryd.prog.follows .mixedOrders = true) (fuel : Nat) : Sound Tryd.prog (C58 fuel) := (S57 hmix fuel).add (d129 fuel hmix (S57 hmix fuel) fits14)
theorem fits16 : FFits Tryd.prog 16 A16 := ffits_of Tryd.func16 (by kernel_rfl) rfl (by kernel_rfl) rfl
theorem S59 (hmix : Tryd.prog.follows .mixedOrders = true) (fuel : Nat) : Sound Tryd.prog (C59 fuel) := (S58 hmix fuel).add (d130 fuel hmix (S58 hmix fuel) fits16)
theorem fits11 : FFits Tryd.prog 11 A11 := ffits_of Tryd.func11 (by kernel_rfl) rfl (by kernel_rfl) rfl
theorem S60 (hmix : Tryd.prog.follows .mixedOrders = true) (fuel : Nat) : Sound Tryd.prog (C60 fuel) := (S59 hmix fuel).add (d131 fuel hmix (S59 hmix fuel) fits11)
theorem fits10 : FFits Tryd.prog 10 A10 := ffits_of Tryd.func10 (by kernel_rfl) rfl (by kernel_rfl) rfl
theorem S61 (hmix : Tryd.prog.follows .mixedOrders = true) (fuel : Nat) : Sound Tryd.prog (C61 fuel) := (S60 hmix fuel).add (d132 fuel hmix (S60 hmix fuel) fits10)
theorem fits5 : FFits Tryd.prog 5 A5 := ffits_of Tryd.func5 (by kernel_rfl) rfl (by kernel_rfl) rfl
theorem w157 (hmix : Tryd.prog.follows .mixedOrders = true) {fuel : Nat} {args res : List A} (h : (O157 fuel).o args some = some res) : Den Tryd.prog 5 args res := d157 fuel hmix (S61 hmix fuel) fits5 args res h
end Go.Eng.R13
