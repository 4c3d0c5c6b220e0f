/-
  All functions are sound; printed by decomp.py.
-/
import Derived.Test.YtnpgipmbionmgaaDecT3
import Derived.Test.YtnpgipmbionmgaaPlRev
set_option linter.all false
set_option maxRecDepth 1000000
set_option maxHeartbeats 4000000
namespace Go.Eng.R13
open Go Go.RowKit Go.Eng Go.Proofs
theorem S0 (hmix : Try.prog.follows .mixedOrders = true) (fuel : Nat) : Sound Try.prog (C0 fuel) := sound0 hmix fuel
theorem fits12 : FFits Try.prog 12 A12 := ffits_of Try.func12 (by kernel_rfl) rfl (by kernel_rfl) rfl
theorem S1 (hmix : Try.prog.follows .mixedOrders = true) (fuel : Nat) : Sound Try.prog (C1 fuel) := (S0 hmix fuel).add (d12 fuel hmix (S0 hmix fuel) fits12)
theorem fits61 : FFits Try.prog 61 A61 := ffits_of Try.func61 (by kernel_rfl) rfl (by kernel_rfl) rfl
theorem S2 (hmix : Try.prog.follows .mixedOrders = true) (fuel : Nat) : Sound Try.prog (C2 fuel) := (S1 hmix fuel).add (d61 fuel hmix (S1 hmix fuel) fits61)
theorem fits73 : FFits Try.prog 73 A73 := ffits_of Try.func73 (by kernel_rfl) rfl (by kernel_rfl) rfl
theorem S3 (hmix : Try.prog.follows .mixedOrders = true) (fuel : Nat) : Sound Try.prog (C3 fuel) := (S2 hmix fuel).add (d73 fuel hmix (S2 hmix fuel) fits73)
theorem fits50 : FFits Try.prog 50 A50 := ffits_of Try.func50 (by kernel_rfl) rfl (by kernel_rfl) rfl
theorem S4 (hmix : Try.prog.follows .mixedOrders = true) (fuel : Nat) : Sound Try.prog (C4 fuel) := (S3 hmix fuel).add (d50 fuel hmix (S3 hmix fuel) fits50)
theorem fits79 : FFits Try.prog 79 A79 := ffits_of Try.func79 (by kernel_rfl) rfl (by kernel_rfl) rfl
theorem S5 (hmix : Try.prog.follows .mixedOrders = true) (fuel : Nat) : Sound Try.prog (C5 fuel) := (S4 hmix fuel).add (d79 fuel hmix (S4 hmix fuel) fits79)
theorem fits87 : FFits Try.prog 87 A87 := ffits_of Try.func87 (by kernel_rfl) rfl (by kernel_rfl) rfl
theorem S6 (hmix : Try.prog.follows .mixedOrders = true) (fuel : Nat) : Sound Try.prog (C6 fuel) := (S5 hmix fuel).add (d87 fuel hmix (S5 hmix fuel) fits87)
theorem fits81 : FFits Try.prog 81 A81 := ffits_of Try.func81 (by kernel_rfl) rfl (by kernel_rfl) rfl
theorem S7 (hmix : Try.prog.follows .mixedOrders = true) (fuel : Nat) : Sound Try.prog (C7 fuel) := (S6 hmix fuel).add (d81 fuel hmix (S6 hmix fuel) fits81)
theorem fits90 : FFits Try.prog 90 A90 := ffits_of Try.func90 (by kernel_rfl) rfl (by kernel_rfl) rfl
theorem S8 (hmix : Try.prog.follows .mixedOrders = true) (fuel : Nat) : Sound Try.prog (C8 fuel) := (S7 hmix fuel).add (d90 fuel hmix (S7 hmix fuel) fits90)
theorem fits89 : FFits Try.prog 89 A89 := ffits_of Try.func89 (by kernel_rfl) rfl (by kernel_rfl) rfl
theorem S9 (hmix : Try.prog.follows .mixedOrders = true) (fuel : Nat) : Sound Try.prog (C9 fuel) := (S8 hmix fuel).add (d89 fuel hmix (S8 hmix fuel) fits89)
theorem fits86 : FFits Try.prog 86 A86 := ffits_of Try.func86 (by kernel_rfl) rfl (by kernel_rfl) rfl
theorem S10 (hmix : Try.prog.follows .mixedOrders = true) (fuel : Nat) : Sound Try.prog (C10 fuel) := (S9 hmix fuel).add (d86 fuel hmix (S9 hmix fuel) fits86)
theorem fits80 : FFits Try.prog 80 A80 := ffits_of Try.func80 (by kernel_rfl) rfl (by kernel_rfl) rfl
theorem S11 (hmix : Try.prog.follows .mixedOrders = true) (fuel : Nat) : Sound Try.prog (C11 fuel) := (S10 hmix fuel).add (d80 fuel hmix (S10 hmix fuel) fits80)
theorem fits62 : FFits Try.prog 62 A62 := ffits_of Try.func62 (by kernel_rfl) rfl (by kernel_rfl) rfl
theorem S12 (hmix : Try.prog.follows .mixedOrders = true) (fuel : Nat) : Sound Try.prog (C12 fuel) := (S11 hmix fuel).add (d62 fuel hmix (S11 hmix fuel) fits62)
theorem fits63 : FFits Try.prog 63 A63 := ffits_of Try.func63 (by kernel_rfl) rfl (by kernel_rfl) rfl
theorem S13 (hmix : Try.prog.follows .mixedOrders = true) (fuel : Nat) : Sound Try.prog (C13 fuel) := (S12 hmix fuel).add (d63 fuel hmix (S12 hmix fuel) fits63)
theorem fits33 : FFits Try.prog 33 A33 := ffits_of Try.func33 (by kernel_rfl) rfl (by kernel_rfl) rfl
theorem S14 (hmix : Try.prog.follows .mixedOrders = true) (fuel : Nat) : Sound Try.prog (C14 fuel) := (S13 hmix fuel).add (d33 fuel hmix (S13 hmix fuel) fits33)
theorem fits34 : FFits Try.prog 34 A34 := ffits_of Try.func34 (by kernel_rfl) rfl (by kernel_rfl) rfl
theorem S15 (hmix : Try.prog.follows .mixedOrders = true) (fuel : Nat) : Sound Try.prog (C15 fuel) := (S14 hmix fuel).add (d34 fuel hmix (S14 hmix fuel) fits34)
theorem fits75 : FFits Try.prog 75 A75 := ffits_of Try.func75 (by kernel_rfl) rfl (by kernel_rfl) rfl
theorem S16 (hmix : Try.prog.follows .mixedOrders = true) (fuel : Nat) : Sound Try.prog (C16 fuel) := (S15 hmix fuel).add (d75 fuel hmix (S15 hmix fuel) fits75)
theorem fits74 : FFits Try.prog 74 A74 := ffits_of Try.func74 (by kernel_rfl) rfl (by kernel_rfl) rfl
theorem S17 (hmix : Try.prog.follows .mixedOrders = true) (fuel : Nat) : Sound Try.prog (C17 fuel) := (S16 hmix fuel).add (d74 fuel hmix (S16 hmix fuel) fits74)
theorem fits76 : FFits Try.prog 76 A76 := ffits_of Try.func76 (by kernel_rfl) rfl (by kernel_rfl) rfl
theorem S18 (hmix : Try.prog.follows .mixedOrders = true) (fuel : Nat) : Sound Try.prog (C18 fuel) := (S17 hmix fuel).add (d76 fuel hmix (S17 hmix fuel) fits76)
theorem fits56 : FFits Try.prog 56 A56 := ffits_of Try.func56 (by kernel_rfl) rfl (by kernel_rfl) rfl
theorem S19 (hmix : Try.prog.follows .mixedOrders = true) (fuel : Nat) : Sound Try.prog (C19 fuel) := (S18 hmix fuel).add (d56 fuel hmix (S18 hmix fuel) fits56)
theorem fits58 : FFits Try.prog 58 A58 := ffits_of Try.func58 (by kernel_rfl) rfl (by kernel_rfl) rfl
theorem S20 (hmix : Try.prog.follows .mixedOrders = true) (fuel : Nat) : Sound Try.prog (C20 fuel) := (S19 hmix fuel).add (d58 fuel hmix (S19 hmix fuel) fits58)
theorem fits65 : FFits Try.prog 65 A65 := ffits_of Try.func65 (by kernel_rfl) rfl (by kernel_rfl) rfl
theorem S21 (hmix : Try.prog.follows .mixedOrders = true) (fuel : Nat) : Sound Try.prog (C21 fuel) := (S20 hmix fuel).add (d65 fuel hmix (S20 hmix fuel) fits65)
theorem fits64 : FFits Try.prog 64 A64 := ffits_of Try.func64 (by kernel_rfl) rfl (by kernel_rfl) rfl
theorem S22 (hmix : Try.prog.follows .mixedOrders = true) (fuel : Nat) : Sound Try.prog (C22 fuel) := (S21 hmix fuel).add (d64 fuel hmix (S21 hmix fuel) fits64)
theorem S23 (hmix : Try.prog.follows .mixedOrders = true) (fuel : Nat) : Sound Try.prog (C23 fuel) := (S22 hmix fuel).add (d73b fuel hmix (S22 hmix fuel) fits73)
theorem S24 (hmix : Try.prog.follows .mixedOrders = true) (fuel : Nat) : Sound Try.prog (C24 fuel) := (S23 hmix fuel).add (d50b fuel hmix (S23 hmix fuel) fits50)
theorem fits35 : FFits Try.prog 35 A35 := ffits_of Try.func35 (by kernel_rfl) rfl (by kernel_rfl) rfl
theorem S25 (hmix : Try.prog.follows .mixedOrders = true) (fuel : Nat) : Sound Try.prog (C25 fuel) := (S24 hmix fuel).add (d35 fuel hmix (S24 hmix fuel) fits35)
theorem fits36 : FFits Try.prog 36 A36 := ffits_of Try.func36 (by kernel_rfl) rfl (by kernel_rfl) rfl
theorem S26 (hmix : Try.prog.follows .mixedOrders = true) (fuel : Nat) : Sound Try.prog (C26 fuel) := (S25 hmix fuel).add (d36 fuel hmix (S25 hmix fuel) fits36)
theorem fits13 : FFits Try.prog 13 A13 := ffits_of Try.func13 (by kernel_rfl) rfl (by kernel_rfl) rfl
theorem S27 (hmix : Try.prog.follows .mixedOrders = true) (fuel : Nat) : Sound Try.prog (C27 fuel) := (S26 hmix fuel).add (d13 fuel hmix (S26 hmix fuel) fits13)
theorem fits69 : FFits Try.prog 69 A69 := ffits_of Try.func69 (by kernel_rfl) rfl (by kernel_rfl) rfl
theorem S28 (hmix : Try.prog.follows .mixedOrders = true) (fuel : Nat) : Sound Try.prog (C28 fuel) := (S27 hmix fuel).add (d69 fuel hmix (S27 hmix fuel) fits69)
theorem fits66 : FFits Try.prog 66 A66 := ffits_of Try.func66 (by kernel_rfl) rfl (by kernel_rfl) rfl
theorem S29 (hmix : Try.prog.follows .mixedOrders = true) (fuel : Nat) : Sound Try.prog (C29 fuel) := (S28 hmix fuel).add (d66 fuel hmix (S28 hmix fuel) fits66)
theorem fits71 : FFits Try.prog 71 A71 := ffits_of Try.func71 (by kernel_rfl) rfl (by kernel_rfl) rfl
theorem S30 (hmix : Try.prog.follows .mixedOrders = true) (fuel : Nat) : Sound Try.prog (C30 fuel) := (S29 hmix fuel).add (d71 fuel hmix (S29 hmix fuel) fits71)
theorem fits70 : FFits Try.prog 70 A70 := ffits_of Try.func70 (by kernel_rfl) rfl (by kernel_rfl) rfl
theorem S31 (hmix : Try.prog.follows .mixedOrders = true) (fuel : Nat) : Sound Try.prog (C31 fuel) := (S30 hmix fuel).add (d70 fuel hmix (S30 hmix fuel) fits70)
theorem fits88 : FFits Try.prog 88 A88 := ffits_of Try.func88 (by kernel_rfl) rfl (by kernel_rfl) rfl
theorem S32 (hmix : Try.prog.follows .mixedOrders = true) (fuel : Nat) : Sound Try.prog (C32 fuel) := (S31 hmix fuel).add (d88 fuel hmix (S31 hmix fuel) fits88)
theorem fits82 : FFits Try.prog 82 A82 := ffits_of Try.func82 (by kernel_rfl) rfl (by kernel_rfl) rfl
theorem S33 (hmix : Try.prog.follows .mixedOrders = true) (fuel : Nat) : Sound Try.prog (C33 fuel) := (S32 hmix fuel).add (d82 fuel hmix (S32 hmix fuel) fits82)
theorem fits67 : FFits Try.prog 67 A67 := ffits_of Try.func67 (by kernel_rfl) rfl (by kernel_rfl) rfl
theorem S34 (hmix : Try.prog.follows .mixedOrders = true) (fuel : Nat) : Sound Try.prog (C34 fuel) := (S33 hmix fuel).add (d67 fuel hmix (S33 hmix fuel) fits67)
theorem fits37 : FFits Try.prog 37 A37 := ffits_of Try.func37 (by kernel_rfl) rfl (by kernel_rfl) rfl
theorem S35 (hmix : Try.prog.follows .mixedOrders = true) (fuel : Nat) : Sound Try.prog (C35 fuel) := (S34 hmix fuel).add (d37 fuel hmix (S34 hmix fuel) fits37)
theorem fits38 : FFits Try.prog 38 A38 := ffits_of Try.func38 (by kernel_rfl) rfl (by kernel_rfl) rfl
theorem S36 (hmix : Try.prog.follows .mixedOrders = true) (fuel : Nat) : Sound Try.prog (C36 fuel) := (S35 hmix fuel).add (d38 fuel hmix (S35 hmix fuel) fits38)
theorem fits84 : FFits Try.prog 84 A84 := ffits_of Try.func84 (by kernel_rfl) rfl (by kernel_rfl) rfl
theorem S37 (hmix : Try.prog.follows .mixedOrders = true) (fuel : Nat) : Sound Try.prog (C37 fuel) := (S36 hmix fuel).add (d84 fuel hmix (S36 hmix fuel) fits84)
theorem fits83 : FFits Try.prog 83 A83 := ffits_of Try.func83 (by kernel_rfl) rfl (by kernel_rfl) rfl
theorem S38 (hmix : Try.prog.follows .mixedOrders = true) (fuel : Nat) : Sound Try.prog (C38 fuel) := (S37 hmix fuel).add (d83 fuel hmix (S37 hmix fuel) fits83)
theorem fits68 : FFits Try.prog 68 A68 := ffits_of Try.func68 (by kernel_rfl) rfl (by kernel_rfl) rfl
theorem S39 (hmix : Try.prog.follows .mixedOrders = true) (fuel : Nat) : Sound Try.prog (C39 fuel) := (S38 hmix fuel).add (d68 fuel hmix (S38 hmix fuel) fits68)
theorem fits39 : FFits Try.prog 39 A39 := ffits_of Try.func39 (by kernel_rfl) rfl (by kernel_rfl) rfl
theorem S40 (hmix : Try.prog.follows .mixedOrders = true) (fuel : Nat) : Sound Try.prog (C40 fuel) := (S39 hmix fuel).add (d39 fuel hmix (S39 hmix fuel) fits39)
theorem fits40 : FFits Try.prog 40 A40 := ffits_of Try.func40 (by kernel_rfl) rfl (by kernel_rfl) rfl
theorem S41 (hmix : Try.prog.follows .mixedOrders = true) (fuel : Nat) : Sound Try.prog (C41 fuel) := (S40 hmix fuel).add (d40 fuel hmix (S40 hmix fuel) fits40)
theorem fits14 : FFits Try.prog 14 A14 := ffits_of Try.func14 (by kernel_rfl) rfl (by kernel_rfl) rfl
theorem S42 (hmix : Try.prog.follows .mixedOrders = true) (fuel : Nat) : Sound Try.prog (C42 fuel) := (S41 hmix fuel).add (d14 fuel hmix (S41 hmix fuel) fits14)
theorem fits41 : FFits Try.prog 41 A41 := ffits_of Try.func41 (by kernel_rfl) rfl (by kernel_rfl) rfl
theorem S43 (hmix : Try.prog.follows .mixedOrders = true) (fuel : Nat) : Sound Try.prog (C43 fuel) := (S42 hmix fuel).add (d41 fuel hmix (S42 hmix fuel) fits41)
theorem fits49 : FFits Try.prog 49 A49 := ffits_of Try.func49 (by kernel_rfl) rfl (by kernel_rfl) rfl
theorem S44 (hmix : Try.prog.follows .mixedOrders = true) (fuel : Nat) : Sound Try.prog (C44 fuel) := (S43 hmix fuel).add (d49 fuel hmix (S43 hmix fuel) fits49)
theorem fits42 : FFits Try.prog 42 A42 := ffits_of Try.func42 (by kernel_rfl) rfl (by kernel_rfl) rfl
theorem S45 (hmix : Try.prog.follows .mixedOrders = true) (fuel : Nat) : Sound Try.prog (C45 fuel) := (S44 hmix fuel).add (d42 fuel hmix (S44 hmix fuel) fits42)
theorem S46 (hmix : Try.prog.follows .mixedOrders = true) (fuel : Nat) : Sound Try.prog (C46 fuel) := (S45 hmix fuel).add (d73c fuel hmix (S45 hmix fuel) fits73)
theorem S47 (hmix : Try.prog.follows .mixedOrders = true) (fuel : Nat) : Sound Try.prog (C47 fuel) := (S46 hmix fuel).add (d50c fuel hmix (S46 hmix fuel) fits50)
theorem fits51 : FFits Try.prog 51 A51 := ffits_of Try.func51 (by kernel_rfl) rfl (by kernel_rfl) rfl
theorem S48 (hmix : Try.prog.follows .mixedOrders = true) (fuel : Nat) : Sound Try.prog (C48 fuel) := (S47 hmix fuel).add (d51 fuel hmix (S47 hmix fuel) fits51)
theorem fits25 : FFits Try.prog 25 A25 := ffits_of Try.func25 (by kernel_rfl) rfl (by kernel_rfl) rfl
theorem S49 (hmix : Try.prog.follows .mixedOrders = true) (fuel : Nat) : Sound Try.prog (C49 fuel) := (S48 hmix fuel).add (d25 fuel hmix (S48 hmix fuel) fits25)
theorem fits43 : FFits Try.prog 43 A43 := ffits_of Try.func43 (by kernel_rfl) rfl (by kernel_rfl) rfl
theorem S50 (hmix : Try.prog.follows .mixedOrders = true) (fuel : Nat) : Sound Try.prog (C50 fuel) := (S49 hmix fuel).add (d43 fuel hmix (S49 hmix fuel) fits43)
theorem fits16 : FFits Try.prog 16 A16 := ffits_of Try.func16 (by kernel_rfl) rfl (by kernel_rfl) rfl
theorem S51 (hmix : Try.prog.follows .mixedOrders = true) (fuel : Nat) : Sound Try.prog (C51 fuel) := (S50 hmix fuel).add (d16 fuel hmix (S50 hmix fuel) fits16)
theorem fits18 : FFits Try.prog 18 A18 := ffits_of Try.func18 (by kernel_rfl) rfl (by kernel_rfl) rfl
theorem S52 (hmix : Try.prog.follows .mixedOrders = true) (fuel : Nat) : Sound Try.prog (C52 fuel) := (S51 hmix fuel).add (d18 fuel hmix (S51 hmix fuel) fits18)
theorem fits48 : FFits Try.prog 48 A48 := ffits_of Try.func48 (by kernel_rfl) rfl (by kernel_rfl) rfl
theorem S53 (hmix : Try.prog.follows .mixedOrders = true) (fuel : Nat) : Sound Try.prog (C53 fuel) := (S52 hmix fuel).add (d48 fuel hmix (S52 hmix fuel) fits48)
theorem fits24 : FFits Try.prog 24 A24 := ffits_of Try.func24 (by kernel_rfl) rfl (by kernel_rfl) rfl
theorem S54 (hmix : Try.prog.follows .mixedOrders = true) (fuel : Nat) : Sound Try.prog (C54 fuel) := (S53 hmix fuel).add (d24 fuel hmix (S53 hmix fuel) fits24)
theorem fits47 : FFits Try.prog 47 A47 := ffits_of Try.func47 (by kernel_rfl) rfl (by kernel_rfl) rfl
theorem S55 (hmix : Try.prog.follows .mixedOrders = true) (fuel : Nat) : Sound Try.prog (C55 fuel) := (S54 hmix fuel).add (d47 fuel hmix (S54 hmix fuel) fits47)
theorem fits22 : FFits Try.prog 22 A22 := ffits_of Try.func22 (by kernel_rfl) rfl (by kernel_rfl) rfl
theorem S56 (hmix : Try.prog.follows .mixedOrders = true) (fuel : Nat) : Sound Try.prog (C56 fuel) := (S55 hmix fuel).add (d22 fuel hmix (S55 hmix fuel) fits22)
theorem fits85 : FFits Try.prog 85 A85 := ffits_of Try.func85 (by kernel_rfl) rfl (by kernel_rfl) rfl
theorem S57 (hmix : Try.prog.follows .mixedOrders = true) (fuel : Nat) : Sound Try.prog (C57 fuel) := (S56 hmix fuel).add (d85 fuel hmix (S56 hmix fuel) fits85)
theorem fits77 : FFits Try.prog 77 A77 := ffits_of Try.func77 (by kernel_rfl) rfl (by kernel_rfl) rfl
theorem S58 (hmix : Try.prog.follows .mixedOrders = true) (fuel : Nat) : Sound Try.prog (C58 fuel) := (S57 hmix fuel).add (d77 fuel hmix (S57 hmix fuel) fits77)
theorem fits57 : FFits Try.prog 57 A57 := ffits_of Try.func57 (by kernel_rfl) rfl (by kernel_rfl) rfl
theorem S59 (hmix : Try.prog.follows .mixedOrders = true) (fuel : Nat) : Sound Try.prog (C59 fuel) := (S58 hmix fuel).add (d57 fuel hmix (S58 hmix fuel) fits57)
theorem fits55 : FFits Try.prog 55 A55 := ffits_of Try.func55 (by kernel_rfl) rfl (by kernel_rfl) rfl
theorem S60 (hmix : Try.prog.follows .mixedOrders = true) (fuel : Nat) : Sound Try.prog (C60 fuel) := (S59 hmix fuel).add (d55 fuel hmix (S59 hmix fuel) fits55)
theorem S61 (hmix : Try.prog.follows .mixedOrders = true) (fuel : Nat) : Sound Try.prog (C61 fuel) := (S60 hmix fuel).add (d58b fuel hmix (S60 hmix fuel) fits58)
theorem fits27 : FFits Try.prog 27 A27 := ffits_of Try.func27 (by kernel_rfl) rfl (by kernel_rfl) rfl
theorem S62 (hmix : Try.prog.follows .mixedOrders = true) (fuel : Nat) : Sound Try.prog (C62 fuel) := (S61 hmix fuel).add (d27 fuel hmix (S61 hmix fuel) fits27)
theorem fits60 : FFits Try.prog 60 A60 := ffits_of Try.func60 (by kernel_rfl) rfl (by kernel_rfl) rfl
theorem S63 (hmix : Try.prog.follows .mixedOrders = true) (fuel : Nat) : Sound Try.prog (C63 fuel) := (S62 hmix fuel).add (d60 fuel hmix (S62 hmix fuel) fits60)
theorem fits29 : FFits Try.prog 29 A29 := ffits_of Try.func29 (by kernel_rfl) rfl (by kernel_rfl) rfl
theorem S64 (hmix : Try.prog.follows .mixedOrders = true) (fuel : Nat) : Sound Try.prog (C64 fuel) := (S63 hmix fuel).add (d29 fuel hmix (S63 hmix fuel) fits29)
theorem fits72 : FFits Try.prog 72 A72 := ffits_of Try.func72 (by kernel_rfl) rfl (by kernel_rfl) rfl
theorem S65 (hmix : Try.prog.follows .mixedOrders = true) (fuel : Nat) : Sound Try.prog (C65 fuel) := (S64 hmix fuel).add (d72 fuel hmix (S64 hmix fuel) fits72)
theorem fits46 : FFits Try.prog 46 A46 := ffits_of Try.func46 (by kernel_rfl) rfl (by kernel_rfl) rfl
theorem S66 (hmix : Try.prog.follows .mixedOrders = true) (fuel : Nat) : Sound Try.prog (C66 fuel) := (S65 hmix fuel).add (d46 fuel hmix (S65 hmix fuel) fits46)
theorem fits20 : FFits Try.prog 20 A20 := ffits_of Try.func20 (by kernel_rfl) rfl (by kernel_rfl) rfl
theorem S67 (hmix : Try.prog.follows .mixedOrders = true) (fuel : Nat) : Sound Try.prog (C67 fuel) := (S66 hmix fuel).add (d20 fuel hmix (S66 hmix fuel) fits20)
theorem fits15 : FFits Try.prog 15 A15 := ffits_of Try.func15 (by kernel_rfl) rfl (by kernel_rfl) rfl
theorem S68 (hmix : Try.prog.follows .mixedOrders = true) (fuel : Nat) : Sound Try.prog (C68 fuel) := (S67 hmix fuel).add (d15 fuel hmix (S67 hmix fuel) fits15)
theorem fits23 : FFits Try.prog 23 A23 := ffits_of Try.func23 (by kernel_rfl) rfl (by kernel_rfl) rfl
theorem S69 (hmix : Try.prog.follows .mixedOrders = true) (fuel : Nat) : Sound Try.prog (C69 fuel) := (S68 hmix fuel).add (d23 fuel hmix (S68 hmix fuel) fits23)
theorem fits5 : FFits Try.prog 5 A5 := ffits_of Try.func5 (by kernel_rfl) rfl (by kernel_rfl) rfl
theorem S70 (hmix : Try.prog.follows .mixedOrders = true) (fuel : Nat) : Sound Try.prog (C70 fuel) := (S69 hmix fuel).add (d5 fuel hmix (S69 hmix fuel) fits5)
theorem w5 (hmix : Try.prog.follows .mixedOrders = true) {fuel : Nat} {args res : List A} (h : (O5 fuel).o args some = some res) : Den Try.prog 5 args res := d5 fuel hmix (S69 hmix fuel) fits5 args res h
theorem fits32 : FFits Try.prog 32 A32 := ffits_of Try.func32 (by kernel_rfl) rfl (by kernel_rfl) rfl
theorem S71 (hmix : Try.prog.follows .mixedOrders = true) (fuel : Nat) : Sound Try.prog (C71 fuel) := (S70 hmix fuel).add (d32 fuel hmix (S70 hmix fuel) fits32)
theorem fits31 : FFits Try.prog 31 A31 := ffits_of Try.func31 (by kernel_rfl) rfl (by kernel_rfl) rfl
theorem S72 (hmix : Try.prog.follows .mixedOrders = true) (fuel : Nat) : Sound Try.prog (C72 fuel) := (S71 hmix fuel).add (d31 fuel hmix (S71 hmix fuel) fits31)
theorem fits9 : FFits Try.prog 9 A9 := ffits_of Try.func9 (by kernel_rfl) rfl (by kernel_rfl) rfl
theorem S73 (hmix : Try.prog.follows .mixedOrders = true) (fuel : Nat) : Sound Try.prog (C73 fuel) := (S72 hmix fuel).add (d9 fuel hmix (S72 hmix fuel) fits9)
theorem w9 (hmix : Try.prog.follows .mixedOrders = true) {fuel : Nat} {args res : List A} (h : (O9 fuel).o args some = some res) : Den Try.prog 9 args res := d9 fuel hmix (S72 hmix fuel) fits9 args res h
end Go.Eng.R13
