/-
 All functions are sound; printed by decomp.py.
-/
import Derived.Test.YtmpnfnngjeojlaaDecT3
import Derived.Test.YtmpnfnngjeojlaaPlRev
import Derived.Test.YtmpnfnngjeojlaaEngV
import Derived.Test.YtmpnfnngjeojlaaProg
set_option linter.all false
set_option maxRecDepth 1000000
set_option maxHeartbeats 4000000
namespace Go.Eng.R13
open Go Go.RowKit Go.Eng Go.Proofs
abbrev hM : Prop := Try.prog.follows .mixedOrders = true
variable (u : Nat)
theorem zero_run56 (g : Nat → Nat → CV) : evalF (CE 2) 2 A56 [.v (.ro false (.pr (.int .i64) (.pr (.int .i64) .nil)) 0 g)] = some [] := by kernel_rfl
theorem fits56 : FFits Try.prog 56 A56 := ffits_of Try.func56 (by kernel_rfl) rfl (by kernel_rfl) rfl
theorem mut56 (hmix : Try.prog.follows .mixedOrders = true) (n : Nat) (g : Nat → Nat → CV) : MutDen Try.prog 56 (.pr (.int .i64) (.pr (.int .i64) .nil)) n g [] (revF n g) := by
 by_cases h : n < 9223372036854775808
 ·by_cases h0 : n = 0
  ·subst h0
   exact mutDen_of (fuel := 2) hmix (soundE 2) fits56 rfl (by decide) rfl (fun _ => zero_run56 g) (fun h => absurd h (by omega))
  ·refine mutDen_of (fuel := n + 1) hmix (soundE (n + 1)) fits56 rfl (by decide) rfl (fun h => absurd h h0) (fun _ hok => ?_)
   obtain ⟨f', h1, h2⟩ := rev_law (n + 1) n g (by omega) h (fun i j hi hj => by
    have := hok i j hi hj
    match j, hj with
    | 0, _ => exact this
    | 1, _ => exact this)
   exact ⟨n, f', (e52 (n + 1) n g).trans h1, Nat.le_refl _, fun i j hi hj => h2 i j hi hj⟩
 ·refine ⟨fits56.ok, fun h0 => absurd h0 (by omega), fun _ w okA gb cap cur e vs _ _ _ _ _ h1 h2 => ?_⟩
  have : maxLen = 9223372036854775807 := rfl
  omega
theorem S0 (fuel : Nat) (hmix : Try.prog.follows .mixedOrders = true) : Sound Try.prog (C0 fuel) where
 call := fun f args res h => by cases h
 turn := fun f r n g rest g' h => by
  obtain ⟨h1, h2⟩ := bif_some (show (bif _ && _ then some (revF n g) else none) = some g' from h)
  cases h2
  simp only [Bool.and_eq_true, Bool.or_eq_true] at h1
  have e3 : rest = [] := by simpa using h1.2
  have h1 := h1.1
  refine (fun hh => ?_ : _ → _) h1
  ·have e1 := Nat.eq_of_beq_eq_true hh.1
   have e2 := Kd.eq_of_beq hh.2
   subst e1; subst e2; subst e3
   exact mut56 hmix n g
 fresh := fun f r args n g h hn => by
  unfold C0 at h
  dsimp only at h
  split at h
  ·obtain ⟨h1, _⟩ := bif_some h
   cases h1
  ·cases h
theorem fits29 : FFits Try.prog 29 A29 := ffits_of Try.func29 (by kernel_rfl) rfl (by kernel_rfl) rfl
theorem S1 (h : hM) : Sound Try.prog (C1 u) := (S0 u h).add (d167 u h (S0 u h) fits29)
theorem fits10 : FFits Try.prog 10 A10 := ffits_of Try.func10 (by kernel_rfl) rfl (by kernel_rfl) rfl
theorem S2 (h : hM) : Sound Try.prog (C2 u) := (S1 u h).add (d168 u h (S1 u h) fits10)
theorem fits52 : FFits Try.prog 52 A52 := ffits_of Try.func52 (by kernel_rfl) rfl (by kernel_rfl) rfl
theorem S3 (h : hM) : Sound Try.prog (C3 u) := (S2 u h).add (d170 u h (S2 u h) fits52)
theorem fits51 : FFits Try.prog 51 A51 := ffits_of Try.func51 (by kernel_rfl) rfl (by kernel_rfl) rfl
theorem S4 (h : hM) : Sound Try.prog (C4 u) := (S3 u h).add (d171 u h (S3 u h) fits51)
theorem fits30 : FFits Try.prog 30 A30 := ffits_of Try.func30 (by kernel_rfl) rfl (by kernel_rfl) rfl
theorem S5 (h : hM) : Sound Try.prog (C5 u) := (S4 u h).add (d172 u h (S4 u h) fits30)
theorem fits53 : FFits Try.prog 53 A53 := ffits_of Try.func53 (by kernel_rfl) rfl (by kernel_rfl) rfl
theorem S6 (h : hM) : Sound Try.prog (C6 u) := (S5 u h).add (d49 u h (S5 u h) fits53)
theorem fits44 : FFits Try.prog 44 A44 := ffits_of Try.func44 (by kernel_rfl) rfl (by kernel_rfl) rfl
theorem S7 (h : hM) : Sound Try.prog (C7 u) := (S6 u h).add (d42 u h (S6 u h) fits44)
theorem fits76 : FFits Try.prog 76 A76 := ffits_of Try.func76 (by kernel_rfl) rfl (by kernel_rfl) rfl
theorem S8 (h : hM) : Sound Try.prog (C8 u) := (S7 u h).add (d73c u h (S7 u h) fits76)
theorem fits54 : FFits Try.prog 54 A54 := ffits_of Try.func54 (by kernel_rfl) rfl (by kernel_rfl) rfl
theorem S9 (h : hM) : Sound Try.prog (C9 u) := (S8 u h).add (d50c u h (S8 u h) fits54)
theorem fits55 : FFits Try.prog 55 A55 := ffits_of Try.func55 (by kernel_rfl) rfl (by kernel_rfl) rfl
theorem S10 (h : hM) : Sound Try.prog (C10 u) := (S9 u h).add (d51 u h (S9 u h) fits55)
theorem fits31 : FFits Try.prog 31 A31 := ffits_of Try.func31 (by kernel_rfl) rfl (by kernel_rfl) rfl
theorem S11 (h : hM) : Sound Try.prog (C11 u) := (S10 u h).add (d25 u h (S10 u h) fits31)
theorem fits72 : FFits Try.prog 72 A72 := ffits_of Try.func72 (by kernel_rfl) rfl (by kernel_rfl) rfl
theorem S12 (h : hM) : Sound Try.prog (C12 u) := (S11 u h).add (d61 u h (S11 u h) fits72)
theorem S13 (h : hM) : Sound Try.prog (C13 u) := (S12 u h).add (d73 u h (S12 u h) fits76)
theorem S14 (h : hM) : Sound Try.prog (C14 u) := (S13 u h).add (d50 u h (S13 u h) fits54)
theorem fits84 : FFits Try.prog 84 A84 := ffits_of Try.func84 (by kernel_rfl) rfl (by kernel_rfl) rfl
theorem S15 (h : hM) : Sound Try.prog (C15 u) := (S14 u h).add (d79 u h (S14 u h) fits84)
theorem fits94 : FFits Try.prog 94 A94 := ffits_of Try.func94 (by kernel_rfl) rfl (by kernel_rfl) rfl
theorem S16 (h : hM) : Sound Try.prog (C16 u) := (S15 u h).add (d87 u h (S15 u h) fits94)
theorem fits83 : FFits Try.prog 83 A83 := ffits_of Try.func83 (by kernel_rfl) rfl (by kernel_rfl) rfl
theorem S17 (h : hM) : Sound Try.prog (C17 u) := (S16 u h).add (d81 u h (S16 u h) fits83)
theorem fits101 : FFits Try.prog 101 A101 := ffits_of Try.func101 (by kernel_rfl) rfl (by kernel_rfl) rfl
theorem S18 (h : hM) : Sound Try.prog (C18 u) := (S17 u h).add (d90 u h (S17 u h) fits101)
theorem fits99 : FFits Try.prog 99 A99 := ffits_of Try.func99 (by kernel_rfl) rfl (by kernel_rfl) rfl
theorem S19 (h : hM) : Sound Try.prog (C19 u) := (S18 u h).add (d89 u h (S18 u h) fits99)
theorem fits95 : FFits Try.prog 95 A95 := ffits_of Try.func95 (by kernel_rfl) rfl (by kernel_rfl) rfl
theorem S20 (h : hM) : Sound Try.prog (C20 u) := (S19 u h).add (d86 u h (S19 u h) fits95)
theorem fits86 : FFits Try.prog 86 A86 := ffits_of Try.func86 (by kernel_rfl) rfl (by kernel_rfl) rfl
theorem S21 (h : hM) : Sound Try.prog (C21 u) := (S20 u h).add (d80 u h (S20 u h) fits86)
theorem fits73 : FFits Try.prog 73 A73 := ffits_of Try.func73 (by kernel_rfl) rfl (by kernel_rfl) rfl
theorem S22 (h : hM) : Sound Try.prog (C22 u) := (S21 u h).add (d62 u h (S21 u h) fits73)
theorem fits74 : FFits Try.prog 74 A74 := ffits_of Try.func74 (by kernel_rfl) rfl (by kernel_rfl) rfl
theorem S23 (h : hM) : Sound Try.prog (C23 u) := (S22 u h).add (d63 u h (S22 u h) fits74)
theorem fits46 : FFits Try.prog 46 A46 := ffits_of Try.func46 (by kernel_rfl) rfl (by kernel_rfl) rfl
theorem S24 (h : hM) : Sound Try.prog (C24 u) := (S23 u h).add (d33 u h (S23 u h) fits46)
theorem fits47 : FFits Try.prog 47 A47 := ffits_of Try.func47 (by kernel_rfl) rfl (by kernel_rfl) rfl
theorem S25 (h : hM) : Sound Try.prog (C25 u) := (S24 u h).add (d34 u h (S24 u h) fits47)
theorem fits69 : FFits Try.prog 69 A69 := ffits_of Try.func69 (by kernel_rfl) rfl (by kernel_rfl) rfl
theorem S26 (h : hM) : Sound Try.prog (C26 u) := (S25 u h).add (d75 u h (S25 u h) fits69)
theorem fits68 : FFits Try.prog 68 A68 := ffits_of Try.func68 (by kernel_rfl) rfl (by kernel_rfl) rfl
theorem S27 (h : hM) : Sound Try.prog (C27 u) := (S26 u h).add (d74 u h (S26 u h) fits68)
theorem fits70 : FFits Try.prog 70 A70 := ffits_of Try.func70 (by kernel_rfl) rfl (by kernel_rfl) rfl
theorem S28 (h : hM) : Sound Try.prog (C28 u) := (S27 u h).add (d76 u h (S27 u h) fits70)
theorem fits42 : FFits Try.prog 42 A42 := ffits_of Try.func42 (by kernel_rfl) rfl (by kernel_rfl) rfl
theorem S29 (h : hM) : Sound Try.prog (C29 u) := (S28 u h).add (d56 u h (S28 u h) fits42)
theorem fits45 : FFits Try.prog 45 A45 := ffits_of Try.func45 (by kernel_rfl) rfl (by kernel_rfl) rfl
theorem S30 (h : hM) : Sound Try.prog (C30 u) := (S29 u h).add (d58 u h (S29 u h) fits45)
theorem fits67 : FFits Try.prog 67 A67 := ffits_of Try.func67 (by kernel_rfl) rfl (by kernel_rfl) rfl
theorem S31 (h : hM) : Sound Try.prog (C31 u) := (S30 u h).add (d65 u h (S30 u h) fits67)
theorem fits75 : FFits Try.prog 75 A75 := ffits_of Try.func75 (by kernel_rfl) rfl (by kernel_rfl) rfl
theorem S32 (h : hM) : Sound Try.prog (C32 u) := (S31 u h).add (d64 u h (S31 u h) fits75)
theorem S33 (h : hM) : Sound Try.prog (C33 u) := (S32 u h).add (d73b u h (S32 u h) fits76)
theorem S34 (h : hM) : Sound Try.prog (C34 u) := (S33 u h).add (d50b u h (S33 u h) fits54)
theorem fits48 : FFits Try.prog 48 A48 := ffits_of Try.func48 (by kernel_rfl) rfl (by kernel_rfl) rfl
theorem S35 (h : hM) : Sound Try.prog (C35 u) := (S34 u h).add (d35 u h (S34 u h) fits48)
theorem fits49 : FFits Try.prog 49 A49 := ffits_of Try.func49 (by kernel_rfl) rfl (by kernel_rfl) rfl
theorem S36 (h : hM) : Sound Try.prog (C36 u) := (S35 u h).add (d36 u h (S35 u h) fits49)
theorem fits24 : FFits Try.prog 24 A24 := ffits_of Try.func24 (by kernel_rfl) rfl (by kernel_rfl) rfl
theorem S37 (h : hM) : Sound Try.prog (C37 u) := (S36 u h).add (d13 u h (S36 u h) fits24)
theorem fits57 : FFits Try.prog 57 A57 := ffits_of Try.func57 (by kernel_rfl) rfl (by kernel_rfl) rfl
theorem S38 (h : hM) : Sound Try.prog (C38 u) := (S37 u h).add (d173 u h (S37 u h) fits57)
theorem fits32 : FFits Try.prog 32 A32 := ffits_of Try.func32 (by kernel_rfl) rfl (by kernel_rfl) rfl
theorem S39 (h : hM) : Sound Try.prog (C39 u) := (S38 u h).add (d174 u h (S38 u h) fits32)
theorem fits50 : FFits Try.prog 50 A50 := ffits_of Try.func50 (by kernel_rfl) rfl (by kernel_rfl) rfl
theorem S40 (h : hM) : Sound Try.prog (C40 u) := (S39 u h).add (d60 u h (S39 u h) fits50)
theorem fits25 : FFits Try.prog 25 A25 := ffits_of Try.func25 (by kernel_rfl) rfl (by kernel_rfl) rfl
theorem S41 (h : hM) : Sound Try.prog (C41 u) := (S40 u h).add (d29 u h (S40 u h) fits25)
theorem fits40 : FFits Try.prog 40 A40 := ffits_of Try.func40 (by kernel_rfl) rfl (by kernel_rfl) rfl
theorem S42 (h : hM) : Sound Try.prog (C42 u) := (S41 u h).add (d47 u h (S41 u h) fits40)
theorem fits85 : FFits Try.prog 85 A85 := ffits_of Try.func85 (by kernel_rfl) rfl (by kernel_rfl) rfl
theorem S43 (h : hM) : Sound Try.prog (C43 u) := (S42 u h).add (d85 u h (S42 u h) fits85)
theorem fits71 : FFits Try.prog 71 A71 := ffits_of Try.func71 (by kernel_rfl) rfl (by kernel_rfl) rfl
theorem S44 (h : hM) : Sound Try.prog (C44 u) := (S43 u h).add (d77 u h (S43 u h) fits71)
theorem fits43 : FFits Try.prog 43 A43 := ffits_of Try.func43 (by kernel_rfl) rfl (by kernel_rfl) rfl
theorem S45 (h : hM) : Sound Try.prog (C45 u) := (S44 u h).add (d57 u h (S44 u h) fits43)
theorem fits41 : FFits Try.prog 41 A41 := ffits_of Try.func41 (by kernel_rfl) rfl (by kernel_rfl) rfl
theorem S46 (h : hM) : Sound Try.prog (C46 u) := (S45 u h).add (d55 u h (S45 u h) fits41)
theorem S47 (h : hM) : Sound Try.prog (C47 u) := (S46 u h).add (d58b u h (S46 u h) fits45)
theorem fits23 : FFits Try.prog 23 A23 := ffits_of Try.func23 (by kernel_rfl) rfl (by kernel_rfl) rfl
theorem S48 (h : hM) : Sound Try.prog (C48 u) := (S47 u h).add (d27 u h (S47 u h) fits23)
theorem fits11 : FFits Try.prog 11 A11 := ffits_of Try.func11 (by kernel_rfl) rfl (by kernel_rfl) rfl
theorem S49 (h : hM) : Sound Try.prog (C49 u) := (S48 u h).add (d182 u h (S48 u h) fits11)
theorem fits22 : FFits Try.prog 22 A22 := ffits_of Try.func22 (by kernel_rfl) rfl (by kernel_rfl) rfl
theorem S50 (h : hM) : Sound Try.prog (C50 u) := (S49 u h).add (d176 u h (S49 u h) fits22)
theorem fits90 : FFits Try.prog 90 A90 := ffits_of Try.func90 (by kernel_rfl) rfl (by kernel_rfl) rfl
theorem S51 (h : hM) : Sound Try.prog (C51 u) := (S50 u h).add (d69 u h (S50 u h) fits90)
theorem fits87 : FFits Try.prog 87 A87 := ffits_of Try.func87 (by kernel_rfl) rfl (by kernel_rfl) rfl
theorem S52 (h : hM) : Sound Try.prog (C52 u) := (S51 u h).add (d66 u h (S51 u h) fits87)
theorem fits92 : FFits Try.prog 92 A92 := ffits_of Try.func92 (by kernel_rfl) rfl (by kernel_rfl) rfl
theorem S53 (h : hM) : Sound Try.prog (C53 u) := (S52 u h).add (d71 u h (S52 u h) fits92)
theorem fits91 : FFits Try.prog 91 A91 := ffits_of Try.func91 (by kernel_rfl) rfl (by kernel_rfl) rfl
theorem S54 (h : hM) : Sound Try.prog (C54 u) := (S53 u h).add (d70 u h (S53 u h) fits91)
theorem fits100 : FFits Try.prog 100 A100 := ffits_of Try.func100 (by kernel_rfl) rfl (by kernel_rfl) rfl
theorem S55 (h : hM) : Sound Try.prog (C55 u) := (S54 u h).add (d88 u h (S54 u h) fits100)
theorem fits96 : FFits Try.prog 96 A96 := ffits_of Try.func96 (by kernel_rfl) rfl (by kernel_rfl) rfl
theorem S56 (h : hM) : Sound Try.prog (C56 u) := (S55 u h).add (d82 u h (S55 u h) fits96)
theorem fits88 : FFits Try.prog 88 A88 := ffits_of Try.func88 (by kernel_rfl) rfl (by kernel_rfl) rfl
theorem S57 (h : hM) : Sound Try.prog (C57 u) := (S56 u h).add (d67 u h (S56 u h) fits88)
theorem fits77 : FFits Try.prog 77 A77 := ffits_of Try.func77 (by kernel_rfl) rfl (by kernel_rfl) rfl
theorem S58 (h : hM) : Sound Try.prog (C58 u) := (S57 u h).add (d37 u h (S57 u h) fits77)
theorem fits65 : FFits Try.prog 65 A65 := ffits_of Try.func65 (by kernel_rfl) rfl (by kernel_rfl) rfl
theorem S59 (h : hM) : Sound Try.prog (C59 u) := (S58 u h).add (d38 u h (S58 u h) fits65)
theorem fits98 : FFits Try.prog 98 A98 := ffits_of Try.func98 (by kernel_rfl) rfl (by kernel_rfl) rfl
theorem S60 (h : hM) : Sound Try.prog (C60 u) := (S59 u h).add (d84 u h (S59 u h) fits98)
theorem fits97 : FFits Try.prog 97 A97 := ffits_of Try.func97 (by kernel_rfl) rfl (by kernel_rfl) rfl
theorem S61 (h : hM) : Sound Try.prog (C61 u) := (S60 u h).add (d83 u h (S60 u h) fits97)
theorem fits89 : FFits Try.prog 89 A89 := ffits_of Try.func89 (by kernel_rfl) rfl (by kernel_rfl) rfl
theorem S62 (h : hM) : Sound Try.prog (C62 u) := (S61 u h).add (d68 u h (S61 u h) fits89)
theorem fits78 : FFits Try.prog 78 A78 := ffits_of Try.func78 (by kernel_rfl) rfl (by kernel_rfl) rfl
theorem S63 (h : hM) : Sound Try.prog (C63 u) := (S62 u h).add (d39 u h (S62 u h) fits78)
theorem fits79 : FFits Try.prog 79 A79 := ffits_of Try.func79 (by kernel_rfl) rfl (by kernel_rfl) rfl
theorem S64 (h : hM) : Sound Try.prog (C64 u) := (S63 u h).add (d40 u h (S63 u h) fits79)
theorem fits58 : FFits Try.prog 58 A58 := ffits_of Try.func58 (by kernel_rfl) rfl (by kernel_rfl) rfl
theorem S65 (h : hM) : Sound Try.prog (C65 u) := (S64 u h).add (d14 u h (S64 u h) fits58)
theorem fits61 : FFits Try.prog 61 A61 := ffits_of Try.func61 (by kernel_rfl) rfl (by kernel_rfl) rfl
theorem S66 (h : hM) : Sound Try.prog (C66 u) := (S65 u h).add (d177 u h (S65 u h) fits61)
theorem fits35 : FFits Try.prog 35 A35 := ffits_of Try.func35 (by kernel_rfl) rfl (by kernel_rfl) rfl
theorem S67 (h : hM) : Sound Try.prog (C67 u) := (S66 u h).add (d178 u h (S66 u h) fits35)
theorem fits62 : FFits Try.prog 62 A62 := ffits_of Try.func62 (by kernel_rfl) rfl (by kernel_rfl) rfl
theorem S68 (h : hM) : Sound Try.prog (C68 u) := (S67 u h).add (d44 u h (S67 u h) fits62)
theorem fits63 : FFits Try.prog 63 A63 := ffits_of Try.func63 (by kernel_rfl) rfl (by kernel_rfl) rfl
theorem S69 (h : hM) : Sound Try.prog (C69 u) := (S68 u h).add (d53 u h (S68 u h) fits63)
theorem fits82 : FFits Try.prog 82 A82 := ffits_of Try.func82 (by kernel_rfl) rfl (by kernel_rfl) rfl
theorem S70 (h : hM) : Sound Try.prog (C70 u) := (S69 u h).add (d32 u h (S69 u h) fits82)
theorem fits64 : FFits Try.prog 64 A64 := ffits_of Try.func64 (by kernel_rfl) rfl (by kernel_rfl) rfl
theorem S71 (h : hM) : Sound Try.prog (C71 u) := (S70 u h).add (d54 u h (S70 u h) fits64)
theorem fits36 : FFits Try.prog 36 A36 := ffits_of Try.func36 (by kernel_rfl) rfl (by kernel_rfl) rfl
theorem S72 (h : hM) : Sound Try.prog (C72 u) := (S71 u h).add (d26 u h (S71 u h) fits36)
theorem fits26 : FFits Try.prog 26 A26 := ffits_of Try.func26 (by kernel_rfl) rfl (by kernel_rfl) rfl
theorem S73 (h : hM) : Sound Try.prog (C73 u) := (S72 u h).add (d21 u h (S72 u h) fits26)
theorem fits59 : FFits Try.prog 59 A59 := ffits_of Try.func59 (by kernel_rfl) rfl (by kernel_rfl) rfl
theorem S74 (h : hM) : Sound Try.prog (C74 u) := (S73 u h).add (d30 u h (S73 u h) fits59)
theorem fits80 : FFits Try.prog 80 A80 := ffits_of Try.func80 (by kernel_rfl) rfl (by kernel_rfl) rfl
theorem S75 (h : hM) : Sound Try.prog (C75 u) := (S74 u h).add (d23 u h (S74 u h) fits80)
theorem fits93 : FFits Try.prog 93 A93 := ffits_of Try.func93 (by kernel_rfl) rfl (by kernel_rfl) rfl
theorem S76 (h : hM) : Sound Try.prog (C76 u) := (S75 u h).add (d78 u h (S75 u h) fits93)
theorem fits81 : FFits Try.prog 81 A81 := ffits_of Try.func81 (by kernel_rfl) rfl (by kernel_rfl) rfl
theorem S77 (h : hM) : Sound Try.prog (C77 u) := (S76 u h).add (d59 u h (S76 u h) fits81)
theorem fits60 : FFits Try.prog 60 A60 := ffits_of Try.func60 (by kernel_rfl) rfl (by kernel_rfl) rfl
theorem S78 (h : hM) : Sound Try.prog (C78 u) := (S77 u h).add (d28 u h (S77 u h) fits60)
theorem fits33 : FFits Try.prog 33 A33 := ffits_of Try.func33 (by kernel_rfl) rfl (by kernel_rfl) rfl
theorem S79 (h : hM) : Sound Try.prog (C79 u) := (S78 u h).add (d179 u h (S78 u h) fits33)
theorem fits12 : FFits Try.prog 12 A12 := ffits_of Try.func12 (by kernel_rfl) rfl (by kernel_rfl) rfl
theorem S80 (h : hM) : Sound Try.prog (C80 u) := (S79 u h).add (d180 u h (S79 u h) fits12)
theorem fits34 : FFits Try.prog 34 A34 := ffits_of Try.func34 (by kernel_rfl) rfl (by kernel_rfl) rfl
theorem S81 (h : hM) : Sound Try.prog (C81 u) := (S80 u h).add (d169 u h (S80 u h) fits34)
theorem fits14 : FFits Try.prog 14 A14 := ffits_of Try.func14 (by kernel_rfl) rfl (by kernel_rfl) rfl
theorem S82 (h : hM) : Sound Try.prog (C82 u) := (S81 u h).add (d175 u h (S81 u h) fits14)
theorem fits28 : FFits Try.prog 28 A28 := ffits_of Try.func28 (by kernel_rfl) rfl (by kernel_rfl) rfl
theorem S83 (h : hM) : Sound Try.prog (C83 u) := (S82 u h).add (d18 u h (S82 u h) fits28)
theorem fits17 : FFits Try.prog 17 A17 := ffits_of Try.func17 (by kernel_rfl) rfl (by kernel_rfl) rfl
theorem S84 (h : hM) : Sound Try.prog (C84 u) := (S83 u h).add (d183 u h (S83 u h) fits17)
theorem fits66 : FFits Try.prog 66 A66 := ffits_of Try.func66 (by kernel_rfl) rfl (by kernel_rfl) rfl
theorem S85 (h : hM) : Sound Try.prog (C85 u) := (S84 u h).add (d184 u h (S84 u h) fits66)
theorem fits39 : FFits Try.prog 39 A39 := ffits_of Try.func39 (by kernel_rfl) rfl (by kernel_rfl) rfl
theorem S86 (h : hM) : Sound Try.prog (C86 u) := (S85 u h).add (d185 u h (S85 u h) fits39)
theorem fits19 : FFits Try.prog 19 A19 := ffits_of Try.func19 (by kernel_rfl) rfl (by kernel_rfl) rfl
theorem S87 (h : hM) : Sound Try.prog (C87 u) := (S86 u h).add (d186 u h (S86 u h) fits19)
theorem fits13 : FFits Try.prog 13 A13 := ffits_of Try.func13 (by kernel_rfl) rfl (by kernel_rfl) rfl
theorem S88 (h : hM) : Sound Try.prog (C88 u) := (S87 u h).add (d187 u h (S87 u h) fits13)
theorem fits21 : FFits Try.prog 21 A21 := ffits_of Try.func21 (by kernel_rfl) rfl (by kernel_rfl) rfl
theorem S89 (h : hM) : Sound Try.prog (C89 u) := (S88 u h).add (d181 u h (S88 u h) fits21)
theorem fits27 : FFits Try.prog 27 A27 := ffits_of Try.func27 (by kernel_rfl) rfl (by kernel_rfl) rfl
theorem S90 (h : hM) : Sound Try.prog (C90 u) := (S89 u h).add (d22 u h (S89 u h) fits27)
theorem fits9 : FFits Try.prog 9 A9 := ffits_of Try.func9 (by kernel_rfl) rfl (by kernel_rfl) rfl
theorem w198 (hmix : Try.prog.follows .mixedOrders = true) {fuel : Nat} {args res : List A} (h : (O198 fuel).o args some = some res) : Den Try.prog 9 args res := d198 fuel hmix (S90 fuel hmix) fits9 args res h
end Go.Eng.R13
