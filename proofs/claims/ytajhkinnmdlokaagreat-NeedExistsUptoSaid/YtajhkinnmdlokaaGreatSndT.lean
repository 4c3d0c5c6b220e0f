/-
 All functions are sound;printed by decomp.py.
-/
import Derived.Test.YtajhkinnmdlokaaGreatDecT3
import Derived.Test.YtajhkinnmdlokaaGreatDySort
import Derived.Test.YtajhkinnmdlokaaGreatEngV
import Derived.Test.YtajhkinnmdlokaaGreatNyLayz
import Derived.Test.YtajhkinnmdlokaaGreatEngX
import Derived.Test.YtajhkinnmdlokaaGreatNmNum
import Derived.Test.YtajhkinnmdlokaaGreatProg
set_option linter.all false
set_option maxRecDepth 1000000
set_option maxHeartbeats 4000000
namespace Go.Eng.R13
open Go Go.RowKit Go.Eng Go.Proofs
abbrev hM:Prop:=Tryz.prog.follows .mixedOrders=true
variable (u : Nat)
theorem S0 (fuel:Nat) (hmix:Tryz.prog.follows .mixedOrders=true):Sound Tryz.prog (C0 fuel) where
 call:=fun f args res h=>by cases h
 turn:=fun f r n g rest g' h=>by cases h
 fresh:=fun f r args n g h hn=>by
  unfold C0 at h
  dsimp only at h
  split at h
  ·obtain ⟨h1,_⟩:=bif_some h
   cases h1
  ·cases h
 cut:=fun f r n g rest m g' h _=>by
  have h:(none:Option (Nat × FF))=some (m,g'):=h
  cases h
theorem fits12:FFits Tryz.prog 12 A12:=ffits_of Tryz.func12 (by kernel_rfl) rfl (by kernel_rfl) rfl
theorem S1 (h:hM):Sound Tryz.prog (C1 u):=(S0 u h).add (d268 u h (S0 u h) fits12)
theorem fits61:FFits Tryz.prog 61 A61:=ffits_of Tryz.func61 (by kernel_rfl) rfl (by kernel_rfl) rfl
theorem S2 (h:hM):Sound Tryz.prog (C2 u):=(S1 u h).add (d283 u h (S1 u h) fits61)
theorem fits62:FFits Tryz.prog 62 A62:=ffits_of Tryz.func62 (by kernel_rfl) rfl (by kernel_rfl) rfl
theorem S3 (h:hM):Sound Tryz.prog (C3 u):=(S2 u h).add (d284 u h (S2 u h) fits62)
theorem fits33:FFits Tryz.prog 33 A33:=ffits_of Tryz.func33 (by kernel_rfl) rfl (by kernel_rfl) rfl
theorem S4 (h:hM):Sound Tryz.prog (C4 u):=(S3 u h).add (d285 u h (S3 u h) fits33)
theorem fits34:FFits Tryz.prog 34 A34:=ffits_of Tryz.func34 (by kernel_rfl) rfl (by kernel_rfl) rfl
theorem S5 (h:hM):Sound Tryz.prog (C5 u):=(S4 u h).add (d286 u h (S4 u h) fits34)
theorem fits60:FFits Tryz.prog 60 A60:=ffits_of Tryz.func60 (by kernel_rfl) rfl (by kernel_rfl) rfl
theorem S6 (h:hM):Sound Tryz.prog (C6 u):=(S5 u h).add (d287 u h (S5 u h) fits60)
theorem fits32:FFits Tryz.prog 32 A32:=ffits_of Tryz.func32 (by kernel_rfl) rfl (by kernel_rfl) rfl
theorem S7 (h:hM):Sound Tryz.prog (C7 u):=(S6 u h).add (d288 u h (S6 u h) fits32)
theorem fits14:FFits Tryz.prog 14 A14:=ffits_of Tryz.func14 (by kernel_rfl) rfl (by kernel_rfl) rfl
theorem S8 (h:hM):Sound Tryz.prog (C8 u):=(S7 u h).add (d289 u h (S7 u h) fits14)
theorem fits35:FFits Tryz.prog 35 A35:=ffits_of Tryz.func35 (by kernel_rfl) rfl (by kernel_rfl) rfl
theorem S9 (h:hM):Sound Tryz.prog (C9 u):=(S8 u h).add (d290 u h (S8 u h) fits35)
theorem fits36:FFits Tryz.prog 36 A36:=ffits_of Tryz.func36 (by kernel_rfl) rfl (by kernel_rfl) rfl
theorem S10 (h:hM):Sound Tryz.prog (C10 u):=(S9 u h).add (d291 u h (S9 u h) fits36)
theorem fits37:FFits Tryz.prog 37 A37:=ffits_of Tryz.func37 (by kernel_rfl) rfl (by kernel_rfl) rfl
theorem S11 (h:hM):Sound Tryz.prog (C11 u):=(S10 u h).add (d292 u h (S10 u h) fits37)
theorem fits38:FFits Tryz.prog 38 A38:=ffits_of Tryz.func38 (by kernel_rfl) rfl (by kernel_rfl) rfl
theorem S12 (h:hM):Sound Tryz.prog (C12 u):=(S11 u h).add (d264 u h (S11 u h) fits38)
theorem fits15:FFits Tryz.prog 15 A15:=ffits_of Tryz.func15 (by kernel_rfl) rfl (by kernel_rfl) rfl
theorem S13 (h:hM):Sound Tryz.prog (C13 u):=(S12 u h).add (d293 u h (S12 u h) fits15)
theorem fits39:FFits Tryz.prog 39 A39:=ffits_of Tryz.func39 (by kernel_rfl) rfl (by kernel_rfl) rfl
theorem S14 (h:hM):Sound Tryz.prog (C14 u):=(S13 u h).add (d294 u h (S13 u h) fits39)
theorem fits63:FFits Tryz.prog 63 A63:=ffits_of Tryz.func63 (by kernel_rfl) rfl (by kernel_rfl) rfl
theorem S15 (h:hM):Sound Tryz.prog (C15 u):=(S14 u h).add (d300 u h (S14 u h) fits63)
theorem fits40:FFits Tryz.prog 40 A40:=ffits_of Tryz.func40 (by kernel_rfl) rfl (by kernel_rfl) rfl
theorem S16 (h:hM):Sound Tryz.prog (C16 u):=(S15 u h).add (d301 u h (S15 u h) fits40)
theorem fits41:FFits Tryz.prog 41 A41:=ffits_of Tryz.func41 (by kernel_rfl) rfl (by kernel_rfl) rfl
theorem S17 (h:hM):Sound Tryz.prog (C17 u):=(S16 u h).add (d302 u h (S16 u h) fits41)
theorem fits46:FFits Tryz.prog 46 A46:=ffits_of Tryz.func46 (by kernel_rfl) rfl (by kernel_rfl) rfl
theorem S18 (h:hM):Sound Tryz.prog (C18 u):=(S17 u h).add (d303 u h (S17 u h) fits46)
theorem fits42:FFits Tryz.prog 42 A42:=ffits_of Tryz.func42 (by kernel_rfl) rfl (by kernel_rfl) rfl
theorem S19 (h:hM):Sound Tryz.prog (C19 u):=(S18 u h).add (d304 u h (S18 u h) fits42)
theorem fits16:FFits Tryz.prog 16 A16:=ffits_of Tryz.func16 (by kernel_rfl) rfl (by kernel_rfl) rfl
theorem S20 (h:hM):Sound Tryz.prog (C20 u):=(S19 u h).add (d305 u h (S19 u h) fits16)
theorem fits77:FFits Tryz.prog 77 A77:=ffits_of Tryz.func77 (by kernel_rfl) rfl (by kernel_rfl) rfl
theorem S21 (h:hM):Sound Tryz.prog (C21 u):=(S20 u h).add (d306 u h (S20 u h) fits77)
theorem fits64:FFits Tryz.prog 64 A64:=ffits_of Tryz.func64 (by kernel_rfl) rfl (by kernel_rfl) rfl
theorem S22 (h:hM):Sound Tryz.prog (C22 u):=(S21 u h).add (d307 u h (S21 u h) fits64)
theorem fits69:FFits Tryz.prog 69 A69:=ffits_of Tryz.func69 (by kernel_rfl) rfl (by kernel_rfl) rfl
theorem S23 (h:hM):Sound Tryz.prog (C23 u):=(S22 u h).add (d308 u h (S22 u h) fits69)
theorem fits78:FFits Tryz.prog 78 A78:=ffits_of Tryz.func78 (by kernel_rfl) rfl (by kernel_rfl) rfl
theorem S24 (h:hM):Sound Tryz.prog (C24 u):=(S23 u h).add (d309 u h (S23 u h) fits78)
theorem fits70:FFits Tryz.prog 70 A70:=ffits_of Tryz.func70 (by kernel_rfl) rfl (by kernel_rfl) rfl
theorem S25 (h:hM):Sound Tryz.prog (C25 u):=(S24 u h).add (d310 u h (S24 u h) fits70)
theorem fits65:FFits Tryz.prog 65 A65:=ffits_of Tryz.func65 (by kernel_rfl) rfl (by kernel_rfl) rfl
theorem S26 (h:hM):Sound Tryz.prog (C26 u):=(S25 u h).add (d311 u h (S25 u h) fits65)
theorem fits97:FFits Tryz.prog 97 A97:=ffits_of Tryz.func97 (by kernel_rfl) rfl (by kernel_rfl) rfl
theorem S27 (h:hM):Sound Tryz.prog (C27 u):=(S26 u h).add (d69 u h (S26 u h) fits97)
theorem fits94:FFits Tryz.prog 94 A94:=ffits_of Tryz.func94 (by kernel_rfl) rfl (by kernel_rfl) rfl
theorem S28 (h:hM):Sound Tryz.prog (C28 u):=(S27 u h).add (d66 u h (S27 u h) fits94)
theorem fits99:FFits Tryz.prog 99 A99:=ffits_of Tryz.func99 (by kernel_rfl) rfl (by kernel_rfl) rfl
theorem S29 (h:hM):Sound Tryz.prog (C29 u):=(S28 u h).add (d71 u h (S28 u h) fits99)
theorem fits98:FFits Tryz.prog 98 A98:=ffits_of Tryz.func98 (by kernel_rfl) rfl (by kernel_rfl) rfl
theorem S30 (h:hM):Sound Tryz.prog (C30 u):=(S29 u h).add (d70 u h (S29 u h) fits98)
theorem fits109:FFits Tryz.prog 109 A109:=ffits_of Tryz.func109 (by kernel_rfl) rfl (by kernel_rfl) rfl
theorem S31 (h:hM):Sound Tryz.prog (C31 u):=(S30 u h).add (d88 u h (S30 u h) fits109)
theorem fits105:FFits Tryz.prog 105 A105:=ffits_of Tryz.func105 (by kernel_rfl) rfl (by kernel_rfl) rfl
theorem S32 (h:hM):Sound Tryz.prog (C32 u):=(S31 u h).add (d82 u h (S31 u h) fits105)
theorem fits95:FFits Tryz.prog 95 A95:=ffits_of Tryz.func95 (by kernel_rfl) rfl (by kernel_rfl) rfl
theorem S33 (h:hM):Sound Tryz.prog (C33 u):=(S32 u h).add (d67 u h (S32 u h) fits95)
theorem fits79:FFits Tryz.prog 79 A79:=ffits_of Tryz.func79 (by kernel_rfl) rfl (by kernel_rfl) rfl
theorem S34 (h:hM):Sound Tryz.prog (C34 u):=(S33 u h).add (d37 u h (S33 u h) fits79)
theorem fits80:FFits Tryz.prog 80 A80:=ffits_of Tryz.func80 (by kernel_rfl) rfl (by kernel_rfl) rfl
theorem S35 (h:hM):Sound Tryz.prog (C35 u):=(S34 u h).add (d38 u h (S34 u h) fits80)
theorem fits107:FFits Tryz.prog 107 A107:=ffits_of Tryz.func107 (by kernel_rfl) rfl (by kernel_rfl) rfl
theorem S36 (h:hM):Sound Tryz.prog (C36 u):=(S35 u h).add (d84 u h (S35 u h) fits107)
theorem fits106:FFits Tryz.prog 106 A106:=ffits_of Tryz.func106 (by kernel_rfl) rfl (by kernel_rfl) rfl
theorem S37 (h:hM):Sound Tryz.prog (C37 u):=(S36 u h).add (d83 u h (S36 u h) fits106)
theorem fits96:FFits Tryz.prog 96 A96:=ffits_of Tryz.func96 (by kernel_rfl) rfl (by kernel_rfl) rfl
theorem S38 (h:hM):Sound Tryz.prog (C38 u):=(S37 u h).add (d68 u h (S37 u h) fits96)
theorem fits81:FFits Tryz.prog 81 A81:=ffits_of Tryz.func81 (by kernel_rfl) rfl (by kernel_rfl) rfl
theorem S39 (h:hM):Sound Tryz.prog (C39 u):=(S38 u h).add (d39 u h (S38 u h) fits81)
theorem fits82:FFits Tryz.prog 82 A82:=ffits_of Tryz.func82 (by kernel_rfl) rfl (by kernel_rfl) rfl
theorem S40 (h:hM):Sound Tryz.prog (C40 u):=(S39 u h).add (d40 u h (S39 u h) fits82)
theorem fits66:FFits Tryz.prog 66 A66:=ffits_of Tryz.func66 (by kernel_rfl) rfl (by kernel_rfl) rfl
theorem S41 (h:hM):Sound Tryz.prog (C41 u):=(S40 u h).add (d14 u h (S40 u h) fits66)
theorem fits68:FFits Tryz.prog 68 A68:=ffits_of Tryz.func68 (by kernel_rfl) rfl (by kernel_rfl) rfl
theorem S42 (h:hM):Sound Tryz.prog (C42 u):=(S41 u h).add (d133 u h (S41 u h) fits68)
theorem fits67:FFits Tryz.prog 67 A67:=ffits_of Tryz.func67 (by kernel_rfl) rfl (by kernel_rfl) rfl
theorem S43 (h:hM):Sound Tryz.prog (C43 u):=(S42 u h).add (d312 u h (S42 u h) fits67)
theorem fits43:FFits Tryz.prog 43 A43:=ffits_of Tryz.func43 (by kernel_rfl) rfl (by kernel_rfl) rfl
theorem S44 (h:hM):Sound Tryz.prog (C44 u):=(S43 u h).add (d313 u h (S43 u h) fits43)
theorem fits83:FFits Tryz.prog 83 A83:=ffits_of Tryz.func83 (by kernel_rfl) rfl (by kernel_rfl) rfl
theorem S45 (h:hM):Sound Tryz.prog (C45 u):=(S44 u h).add (d44 u h (S44 u h) fits83)
theorem fits71:FFits Tryz.prog 71 A71:=ffits_of Tryz.func71 (by kernel_rfl) rfl (by kernel_rfl) rfl
theorem S46 (h:hM):Sound Tryz.prog (C46 u):=(S45 u h).add (d19 u h (S45 u h) fits71)
theorem fits44:FFits Tryz.prog 44 A44:=ffits_of Tryz.func44 (by kernel_rfl) rfl (by kernel_rfl) rfl
theorem S47 (h:hM):Sound Tryz.prog (C47 u):=(S46 u h).add (d314 u h (S46 u h) fits44)
theorem fits17:FFits Tryz.prog 17 A17:=ffits_of Tryz.func17 (by kernel_rfl) rfl (by kernel_rfl) rfl
theorem S48 (h:hM):Sound Tryz.prog (C48 u):=(S47 u h).add (d315 u h (S47 u h) fits17)
theorem fits45:FFits Tryz.prog 45 A45:=ffits_of Tryz.func45 (by kernel_rfl) rfl (by kernel_rfl) rfl
theorem S49 (h:hM):Sound Tryz.prog (C49 u):=(S48 u h).add (d316 u h (S48 u h) fits45)
theorem fits18:FFits Tryz.prog 18 A18:=ffits_of Tryz.func18 (by kernel_rfl) rfl (by kernel_rfl) rfl
theorem S50 (h:hM):Sound Tryz.prog (C50 u):=(S49 u h).add (d317 u h (S49 u h) fits18)
theorem fits47:FFits Tryz.prog 47 A47:=ffits_of Tryz.func47 (by kernel_rfl) rfl (by kernel_rfl) rfl
theorem S51 (h:hM):Sound Tryz.prog (C51 u):=(S50 u h).add (d318 u h (S50 u h) fits47)
theorem fits50:FFits Tryz.prog 50 A50:=ffits_of Tryz.func50 (by kernel_rfl) rfl (by kernel_rfl) rfl
theorem S52 (h:hM):Sound Tryz.prog (C52 u):=(S51 u h).add (d319 u h (S51 u h) fits50)
theorem fits72:FFits Tryz.prog 72 A72:=ffits_of Tryz.func72 (by kernel_rfl) rfl (by kernel_rfl) rfl
theorem S53 (h:hM):Sound Tryz.prog (C53 u):=(S52 u h).add (d320 u h (S52 u h) fits72)
theorem fits48:FFits Tryz.prog 48 A48:=ffits_of Tryz.func48 (by kernel_rfl) rfl (by kernel_rfl) rfl
theorem S54 (h:hM):Sound Tryz.prog (C54 u):=(S53 u h).add (d321 u h (S53 u h) fits48)
theorem fits73:FFits Tryz.prog 73 A73:=ffits_of Tryz.func73 (by kernel_rfl) rfl (by kernel_rfl) rfl
theorem S55 (h:hM):Sound Tryz.prog (C55 u):=(S54 u h).add (d228 u h (S54 u h) fits73)
theorem fits49:FFits Tryz.prog 49 A49:=ffits_of Tryz.func49 (by kernel_rfl) rfl (by kernel_rfl) rfl
theorem S56 (h:hM):Sound Tryz.prog (C56 u):=(S55 u h).add (d229 u h (S55 u h) fits49)
theorem fits19:FFits Tryz.prog 19 A19:=ffits_of Tryz.func19 (by kernel_rfl) rfl (by kernel_rfl) rfl
theorem S57 (h:hM):Sound Tryz.prog (C57 u):=(S56 u h).add (d322 u h (S56 u h) fits19)
theorem fits20:FFits Tryz.prog 20 A20:=ffits_of Tryz.func20 (by kernel_rfl) rfl (by kernel_rfl) rfl
theorem S58 (h:hM):Sound Tryz.prog (C58 u):=(S57 u h).add (d323 u h (S57 u h) fits20)
theorem fits6:FFits Tryz.prog 6 A6:=ffits_of Tryz.func6 (by kernel_rfl) rfl (by kernel_rfl) rfl
theorem S59 (h:hM):Sound Tryz.prog (C59 u):=(S58 u h).add (d324 u h (S58 u h) fits6)
theorem fits9:FFits Tryz.prog 9 A9:=ffits_of Tryz.func9 (by kernel_rfl) rfl (by kernel_rfl) rfl
theorem S60 (h:hM):Sound Tryz.prog (C60 u):=(S59 u h).add (d252 u h (S59 u h) fits9)
theorem fits21:FFits Tryz.prog 21 A21:=ffits_of Tryz.func21 (by kernel_rfl) rfl (by kernel_rfl) rfl
theorem S61 (h:hM):Sound Tryz.prog (C61 u):=(S60 u h).add (d272 u h (S60 u h) fits21)
theorem fits26:FFits Tryz.prog 26 A26:=ffits_of Tryz.func26 (by kernel_rfl) rfl (by kernel_rfl) rfl
theorem S62 (h:hM):Sound Tryz.prog (C62 u):=(S61 u h).add (d251 u h (S61 u h) fits26)
theorem num275 (args res:List A) (h:(O275 u).o args some=some res):Den Tryz.prog 51 args res:=by
 obtain ⟨a,ha,hk⟩:=(q1 (av (cL strK))).inv args _ res h
 obtain ⟨t,ht,hk⟩:=ob_inv hk
 cases hk
 obtain ⟨h1,h2⟩:=bif_some (show (bif Nat.ble a.1 1073741824 then some (a.1,a.2) else none)=some t from ht)
 cases h2
 exact Den.weaken ha (numbers_law false a.1 a.2 (Nat.le_of_ble_eq_true h1))
theorem S63 (h:hM):Sound Tryz.prog (C63 u):=(S62 u h).add (num275 u)
theorem fits76:FFits Tryz.prog 76 A76:=ffits_of Tryz.func76 (by kernel_rfl) rfl (by kernel_rfl) rfl
theorem S64 (h:hM):Sound Tryz.prog (C64 u):=(S63 u h).add (d90 u h (S63 u h) fits76)
theorem fits55:FFits Tryz.prog 55 A55:=ffits_of Tryz.func55 (by kernel_rfl) rfl (by kernel_rfl) rfl
theorem S65 (h:hM):Sound Tryz.prog (C65 u):=(S64 u h).add (d89 u h (S64 u h) fits55)
theorem fits54:FFits Tryz.prog 54 A54:=ffits_of Tryz.func54 (by kernel_rfl) rfl (by kernel_rfl) rfl
theorem S66 (h:hM):Sound Tryz.prog (C66 u):=(S65 u h).add (d201 u h (S65 u h) fits54)
theorem fits53:FFits Tryz.prog 53 A53:=ffits_of Tryz.func53 (by kernel_rfl) rfl (by kernel_rfl) rfl
theorem S67 (h:hM):Sound Tryz.prog (C67 u):=(S66 u h).add (d273 u h (S66 u h) fits53)
theorem srt239b (h:hM) (r:Kd) (n:Nat) (g:FF) (rest:List A) (g' : FF) (hh:(bif r.beq kP&&isClo 53 rest then F239b u n g else none)=some g'):MutDen Tryz.prog 52 r n g rest g' :=
 sortT_mut Tryz.sortL Tryz.isAgg54 Tryz.sizeOf54 rfl (callOk_of Tryz.func52 (by kernel_rfl) rfl) (enters_of Tryz.func53 (by kernel_rfl) rfl) clo_neg
  (fun x y=>d273 100 h (S66 100 h) fits53 [.agg [vi x.1.1,vi x.1.2],.agg [vi y.1.1,vi y.1.2]] [.v (vi (cfI (cmpI x.1.1 y.1.1) (cmpI x.1.2 y.1.2)))] (by
   show (ob (F273 100 x.1.1 x.1.2 y.1.1 y.1.2) fun t=>some [A.v (vi t)])=some [A.v (vi (cfI (cmpI x.1.1 y.1.1) (cmpI x.1.2 y.1.2)))]
   rw [clo_law];rfl)) hh
theorem S68 (h:hM):Sound Tryz.prog (C68 u):=(S67 u h).addT (srt239b u h)
theorem fits24:FFitsM Tryz.prog 106 54 52 24 A24 P24 [.tmp 2]:=ffitsM_of Tryz.func24 (by kernel_rfl) rfl (by kernel_rfl) rfl
theorem S69 (h:hM):Sound Tryz.prog (C69 u):=(S68 u h).add (d276 u h (S68 u h) fits24)
theorem fits57:FFits Tryz.prog 57 A57:=ffits_of Tryz.func57 (by kernel_rfl) rfl (by kernel_rfl) rfl
theorem S70 (h:hM):Sound Tryz.prog (C70 u):=(S69 u h).add (d224 u h (S69 u h) fits57)
theorem fits27:FFits Tryz.prog 27 A27:=ffits_of Tryz.func27 (by kernel_rfl) rfl (by kernel_rfl) rfl
theorem S71 (h:hM):Sound Tryz.prog (C71 u):=(S70 u h).add (d225 u h (S70 u h) fits27)
theorem fits8:FFits Tryz.prog 8 A8:=ffits_of Tryz.func8 (by kernel_rfl) rfl (by kernel_rfl) rfl
theorem S72 (h:hM):Sound Tryz.prog (C72 u):=(S71 u h).add (d277 u h (S71 u h) fits8)
theorem fits22:FFits Tryz.prog 22 A22:=ffits_of Tryz.func22 (by kernel_rfl) rfl (by kernel_rfl) rfl
theorem S73 (h:hM):Sound Tryz.prog (C73 u):=(S72 u h).add (d269 u h (S72 u h) fits22)
theorem fits23:FFits Tryz.prog 23 A23:=ffits_of Tryz.func23 (by kernel_rfl) rfl (by kernel_rfl) rfl
theorem S74 (h:hM):Sound Tryz.prog (C74 u):=(S73 u h).add (d271 u h (S73 u h) fits23)
theorem fits58:FFits Tryz.prog 58 A58:=ffits_of Tryz.func58 (by kernel_rfl) rfl (by kernel_rfl) rfl
theorem S75 (h:hM):Sound Tryz.prog (C75 u):=(S74 u h).add (d256 u h (S74 u h) fits58)
theorem fits28:FFits Tryz.prog 28 A28:=ffits_of Tryz.func28 (by kernel_rfl) rfl (by kernel_rfl) rfl
theorem S76 (h:hM):Sound Tryz.prog (C76 u):=(S75 u h).add (d257 u h (S75 u h) fits28)
theorem fits56:FFits Tryz.prog 56 A56:=ffits_of Tryz.func56 (by kernel_rfl) rfl (by kernel_rfl) rfl
theorem S77 (h:hM):Sound Tryz.prog (C77 u):=(S76 u h).add (d258 u h (S76 u h) fits56)
theorem fits25:FFits Tryz.prog 25 A25:=ffits_of Tryz.func25 (by kernel_rfl) rfl (by kernel_rfl) rfl
theorem S78 (h:hM):Sound Tryz.prog (C78 u):=(S77 u h).add (d259 u h (S77 u h) fits25)
theorem fits30:FFits Tryz.prog 30 A30:=ffits_of Tryz.func30 (by kernel_rfl) rfl (by kernel_rfl) rfl
theorem S79 (h:hM):Sound Tryz.prog (C79 u):=(S78 u h).add (d260 u h (S78 u h) fits30)
theorem fits59:FFits Tryz.prog 59 A59:=ffits_of Tryz.func59 (by kernel_rfl) rfl (by kernel_rfl) rfl
theorem S80 (h:hM):Sound Tryz.prog (C80 u):=(S79 u h).add (d261 u h (S79 u h) fits59)
theorem fits29:FFits Tryz.prog 29 A29:=ffits_of Tryz.func29 (by kernel_rfl) rfl (by kernel_rfl) rfl
theorem S81 (h:hM):Sound Tryz.prog (C81 u):=(S80 u h).add (d262 u h (S80 u h) fits29)
theorem fits11:FFits Tryz.prog 11 A11:=ffits_of Tryz.func11 (by kernel_rfl) rfl (by kernel_rfl) rfl
theorem S82 (h:hM):Sound Tryz.prog (C82 u):=(S81 u h).add (d263 u h (S81 u h) fits11)
theorem fits7:FFits Tryz.prog 7 A7:=ffits_of Tryz.func7 (by kernel_rfl) rfl (by kernel_rfl) rfl
theorem S83 (h:hM):Sound Tryz.prog (C83 u):=(S82 u h).add (d278 u h (S82 u h) fits7)
theorem fits10:FFits Tryz.prog 10 A10:=ffits_of Tryz.func10 (by kernel_rfl) rfl (by kernel_rfl) rfl
theorem S84 (h:hM):Sound Tryz.prog (C84 u):=(S83 u h).add (d325 u h (S83 u h) fits10)
theorem fits31:FFits Tryz.prog 31 A31:=ffits_of Tryz.func31 (by kernel_rfl) rfl (by kernel_rfl) rfl
theorem S85 (h:hM):Sound Tryz.prog (C85 u):=(S84 u h).add (d327 u h (S84 u h) fits31)
theorem fits13:FFits Tryz.prog 13 A13:=ffits_of Tryz.func13 (by kernel_rfl) rfl (by kernel_rfl) rfl
theorem S86 (h:hM):Sound Tryz.prog (C86 u):=(S85 u h).add (d328 u h (S85 u h) fits13)
theorem S87 (h:hM):Sound Tryz.prog (C87 u):=(S86 u h).add (d328b u h (S86 u h) fits13)
theorem S88 (h:hM):Sound Tryz.prog (C88 u):=(S87 u h).add (d328c u h (S87 u h) fits13)
theorem S89 (h:hM):Sound Tryz.prog (C89 u):=(S88 u h).add (d328d u h (S88 u h) fits13)
theorem S90 (h:hM):Sound Tryz.prog (C90 u):=(S89 u h).add (d328e u h (S89 u h) fits13)
theorem fits4:FFits Tryz.prog 4 A4:=ffits_of Tryz.func4 (by kernel_rfl) rfl (by kernel_rfl) rfl
theorem w329 (hmix:Tryz.prog.follows .mixedOrders=true) {fuel:Nat} {args res:List A} (h:(O329 fuel).o args some=some res):Den Tryz.prog 4 args res:=d329 fuel hmix (S90 fuel hmix) fits4 args res h
end Go.Eng.R13
