/-
 All functions are sound;printed by decomp.py.
-/
import Derived.Test.YtkknnlhhchielaaGreatDoorDecT2
import Derived.Test.YtkknnlhhchielaaGreatDoorPlRev
import Derived.Test.YtkknnlhhchielaaGreatDoorEngV
import Derived.Test.YtkknnlhhchielaaGreatDoorNsFit
import Derived.Test.YtkknnlhhchielaaGreatDoorNsLayz
import Derived.Test.YtkknnlhhchielaaGreatDoorEngX2
import Derived.Test.YtkknnlhhchielaaGreatDoorProg
set_option linter.all false
set_option maxRecDepth 1000000
set_option maxHeartbeats 4000000
namespace Go.Eng.R13
open Go Go.RowKit Go.Eng Go.Proofs
abbrev hM:Prop:=Tryz.prog.follows .mixedOrders=true
variable (u : Nat)
theorem zero_run71 (g:Nat→Nat→CV):evalF (CE 2) 2 A71 [.v (.ro false (.pr (.int .i64) (.pr (.int .i64) .nil)) 0 g)]=some []:=by kernel_rfl
theorem fits71:FFits Tryz.prog 71 A71:=ffits_of Tryz.func71 (by kernel_rfl) rfl (by kernel_rfl) rfl
theorem mut71 (hmix:Tryz.prog.follows .mixedOrders=true) (n:Nat) (g:Nat→Nat→CV):MutDen Tryz.prog 71 (.pr (.int .i64) (.pr (.int .i64) .nil)) n g [] (revF n g):=by
 by_cases h:n<9223372036854775808
 ·by_cases h0:n=0
  ·subst h0
   exact mutDen_of (fuel:=2) hmix (soundE 2) fits71 rfl (by decide) rfl (fun _=>zero_run71 g) (fun h=>absurd h (by omega))
  ·refine mutDen_of (fuel:=n+1) hmix (soundE (n+1)) fits71 rfl (by decide) rfl (fun h=>absurd h h0) (fun _ hok=>?_)
   obtain ⟨f',h1,h2⟩:=rev_law (n+1) n g (by omega) h (fun i j hi hj=>by
    have:=hok i j hi hj
    match j,hj with
    | 0,_=>exact this
    | 1,_=>exact this)
   exact ⟨n,f',(e52 (n+1) n g).trans h1,Nat.le_refl _,fun i j hi hj=>h2 i j hi hj⟩
 ·refine ⟨fits71.ok,fun h0=>absurd h0 (by omega),fun _ w okA gb cap cur e vs _ _ _ _ _ h1 h2=>?_⟩
  have:maxLen=9223372036854775807:=rfl
  omega
theorem fits54:FFits Tryz.prog 54 (cloneAF 79 3 (.pr (.int .i64) .nil) 8 [.c (.i .i64 0)]):=ffits_of Tryz.func54 (by kernel_rfl) rfl (by kernel_rfl) rfl
theorem own54 (hmix:Tryz.prog.follows .mixedOrders=true) (n:Nat) (g:Nat→Nat→CV) (fl:Bool) (h:n≤1073741824):FreshDen Tryz.prog 54 (.pr (.int .i64) .nil) [.v (.ro fl (.pr (.int .i64) .nil) n g)] n g:=by
 have hb:Nat.ble (0+n) 1073741824=true:=by rw [Nat.zero_add,Nat.ble_eq];exact h
 exact clone_fresh (C:=CE 2) hmix (soundE 2) fits54 rfl rfl Tryz.underlying79 n g fl (by kernel_rfl)
  ((show evalC (CE 2) 2 (.seq (.cond (tm 4) (.seq (.region 2 [o1 2 (.assign (.const (.slice none 0 0)))] 0 none) [] (.ret (0 :: 1 :: (rl 3 5 [])))) .skip) [2,3,4] (.seq (.region 3 [o1 5 (.buildSlice 0 79 3 (.pr (.int .i64) .nil) 0 [.c (.i .i64 0)] []),mv 6 0,o1 7 (.append 1 79 3 (.pr (.int .i64) .nil) 8 (tm 5) (tm 6)),o1 2 (.assign (tm 7))] 2 none) [] (.ret (0 :: 1 :: (rl 3 5 []))))) ⟨[.x (.c (.ro fl (.pr (.int .i64) .nil) n g)),.undef,.x (.c (.ro true .nil 0 (fun _ _=>.any))),.x (.c (.ro fl (.pr (.int .i64) .nil) n g)),bl false,.undef,.undef,.undef],[]⟩ (finO 2 (.pr (.int .i64) .nil))=bif Nat.ble (0+n) 1073741824 then some (0+n,joinF 0 (rowsF 1 []) g) else none from by kernel_rfl).trans (by rw [hb];rfl))
theorem S0 (fuel:Nat) (hmix:Tryz.prog.follows .mixedOrders=true):Sound Tryz.prog (C0 fuel) where
 call:=fun f args res h=>by cases h
 turn:=fun f r n g rest g' h=>by
  obtain ⟨h1,h2⟩:=bif_some (show (bif _&&_ then some (revF n g) else none)=some g' from h)
  cases h2
  simp only [Bool.and_eq_true,Bool.or_eq_true] at h1
  have e3:rest = []:=by simpa using h1.2
  have h1:=h1.1
  refine (fun hh=>?_:_→_) h1
  ·have e1:=Nat.eq_of_beq_eq_true hh.1
   have e2:=Kd.eq_of_beq hh.2
   subst e1;subst e2;subst e3
   exact mut71 hmix n g
 fresh:=fun f r args n g h hn=>by
  unfold C0 at h
  dsimp only at h
  split at h
  ·obtain ⟨h1,h2⟩:=bif_some h
   cases h2
   simp only [Bool.and_eq_true,Bool.or_eq_true] at h1
   have h3:=h1.1
   refine (fun hh=>?_:_→_) h3
   ·have e1:=Nat.eq_of_beq_eq_true hh.1
    have e2:=Kd.eq_of_beq hh.2
    have e3:=Kd.eq_of_beq h1.2
    subst e1;subst e3;subst e2
    exact own54 hmix _ _ _ hn
  ·cases h
 cut:=fun f r n g rest m g' h _=>by
  have h:(none:Option (Nat × FF))=some (m,g'):=h
  cases h
 lend:=fun _ _ _ _ _ _ h=>by cases h
theorem fits17:FFits Tryz.prog 17 A17:=ffits_of Tryz.func17 (by kernel_rfl) rfl (by kernel_rfl) rfl
theorem S1 (h:hM):Sound Tryz.prog (C1 u):=(S0 u h).add (d386 u h (S0 u h) fits17)
theorem fits7:FFits Tryz.prog 7 A7:=ffits_of Tryz.func7 (by kernel_rfl) rfl (by kernel_rfl) rfl
theorem S2 (h:hM):Sound Tryz.prog (C2 u):=(S1 u h).add (d390 u h (S1 u h) fits7)
theorem fits18:FFits Tryz.prog 18 A18:=ffits_of Tryz.func18 (by kernel_rfl) rfl (by kernel_rfl) rfl
theorem S3 (h:hM):Sound Tryz.prog (C3 u):=(S2 u h).add (d387 u h (S2 u h) fits18)
theorem fits19:FFits Tryz.prog 19 A19:=ffits_of Tryz.func19 (by kernel_rfl) rfl (by kernel_rfl) rfl
theorem S4 (h:hM):Sound Tryz.prog (C4 u):=(S3 u h).add (d388 u h (S3 u h) fits19)
theorem fits22:FFits Tryz.prog 22 A22:=ffits_of Tryz.func22 (by kernel_rfl) rfl (by kernel_rfl) rfl
theorem S5 (h:hM):Sound Tryz.prog (C5 u):=(S4 u h).add (d389 u h (S4 u h) fits22)
theorem fits93:FFits Tryz.prog 93 A93:=ffits_of Tryz.func93 (by kernel_rfl) rfl (by kernel_rfl) rfl
theorem S6 (h:hM):Sound Tryz.prog (C6 u):=(S5 u h).add (d61 u h (S5 u h) fits93)
theorem fits92:FFits Tryz.prog 92 A92:=ffits_of Tryz.func92 (by kernel_rfl) rfl (by kernel_rfl) rfl
theorem S7 (h:hM):Sound Tryz.prog (C7 u):=(S6 u h).add (d73 u h (S6 u h) fits92)
theorem fits69:FFits Tryz.prog 69 A69:=ffits_of Tryz.func69 (by kernel_rfl) rfl (by kernel_rfl) rfl
theorem S8 (h:hM):Sound Tryz.prog (C8 u):=(S7 u h).add (d50 u h (S7 u h) fits69)
theorem fits119:FFits Tryz.prog 119 A119:=ffits_of Tryz.func119 (by kernel_rfl) rfl (by kernel_rfl) rfl
theorem S9 (h:hM):Sound Tryz.prog (C9 u):=(S8 u h).add (d79 u h (S8 u h) fits119)
theorem fits133:FFits Tryz.prog 133 A133:=ffits_of Tryz.func133 (by kernel_rfl) rfl (by kernel_rfl) rfl
theorem S10 (h:hM):Sound Tryz.prog (C10 u):=(S9 u h).add (d87 u h (S9 u h) fits133)
theorem fits121:FFits Tryz.prog 121 A121:=ffits_of Tryz.func121 (by kernel_rfl) rfl (by kernel_rfl) rfl
theorem S11 (h:hM):Sound Tryz.prog (C11 u):=(S10 u h).add (d81 u h (S10 u h) fits121)
theorem fits128:FFits Tryz.prog 128 A128:=ffits_of Tryz.func128 (by kernel_rfl) rfl (by kernel_rfl) rfl
theorem S12 (h:hM):Sound Tryz.prog (C12 u):=(S11 u h).add (d90 u h (S11 u h) fits128)
theorem fits136:FFits Tryz.prog 136 A136:=ffits_of Tryz.func136 (by kernel_rfl) rfl (by kernel_rfl) rfl
theorem S13 (h:hM):Sound Tryz.prog (C13 u):=(S12 u h).add (d89 u h (S12 u h) fits136)
theorem fits132:FFits Tryz.prog 132 A132:=ffits_of Tryz.func132 (by kernel_rfl) rfl (by kernel_rfl) rfl
theorem S14 (h:hM):Sound Tryz.prog (C14 u):=(S13 u h).add (d86 u h (S13 u h) fits132)
theorem fits120:FFits Tryz.prog 120 A120:=ffits_of Tryz.func120 (by kernel_rfl) rfl (by kernel_rfl) rfl
theorem S15 (h:hM):Sound Tryz.prog (C15 u):=(S14 u h).add (d80 u h (S14 u h) fits120)
theorem fits94:FFits Tryz.prog 94 A94:=ffits_of Tryz.func94 (by kernel_rfl) rfl (by kernel_rfl) rfl
theorem S16 (h:hM):Sound Tryz.prog (C16 u):=(S15 u h).add (d62 u h (S15 u h) fits94)
theorem fits91:FFits Tryz.prog 91 A91:=ffits_of Tryz.func91 (by kernel_rfl) rfl (by kernel_rfl) rfl
theorem S17 (h:hM):Sound Tryz.prog (C17 u):=(S16 u h).add (d63 u h (S16 u h) fits91)
theorem fits72:FFits Tryz.prog 72 A72:=ffits_of Tryz.func72 (by kernel_rfl) rfl (by kernel_rfl) rfl
theorem S18 (h:hM):Sound Tryz.prog (C18 u):=(S17 u h).add (d33 u h (S17 u h) fits72)
theorem fits67:FFits Tryz.prog 67 A67:=ffits_of Tryz.func67 (by kernel_rfl) rfl (by kernel_rfl) rfl
theorem S19 (h:hM):Sound Tryz.prog (C19 u):=(S18 u h).add (d34 u h (S18 u h) fits67)
theorem fits98:FFits Tryz.prog 98 A98:=ffits_of Tryz.func98 (by kernel_rfl) rfl (by kernel_rfl) rfl
theorem S20 (h:hM):Sound Tryz.prog (C20 u):=(S19 u h).add (d75 u h (S19 u h) fits98)
theorem fits97:FFits Tryz.prog 97 A97:=ffits_of Tryz.func97 (by kernel_rfl) rfl (by kernel_rfl) rfl
theorem S21 (h:hM):Sound Tryz.prog (C21 u):=(S20 u h).add (d74 u h (S20 u h) fits97)
theorem fits99:FFits Tryz.prog 99 A99:=ffits_of Tryz.func99 (by kernel_rfl) rfl (by kernel_rfl) rfl
theorem S22 (h:hM):Sound Tryz.prog (C22 u):=(S21 u h).add (d76 u h (S21 u h) fits99)
theorem fits79:FFits Tryz.prog 79 A79:=ffits_of Tryz.func79 (by kernel_rfl) rfl (by kernel_rfl) rfl
theorem S23 (h:hM):Sound Tryz.prog (C23 u):=(S22 u h).add (d56 u h (S22 u h) fits79)
theorem fits81:FFits Tryz.prog 81 A81:=ffits_of Tryz.func81 (by kernel_rfl) rfl (by kernel_rfl) rfl
theorem S24 (h:hM):Sound Tryz.prog (C24 u):=(S23 u h).add (d58 u h (S23 u h) fits81)
theorem fits96:FFits Tryz.prog 96 A96:=ffits_of Tryz.func96 (by kernel_rfl) rfl (by kernel_rfl) rfl
theorem S25 (h:hM):Sound Tryz.prog (C25 u):=(S24 u h).add (d65 u h (S24 u h) fits96)
theorem fits95:FFits Tryz.prog 95 A95:=ffits_of Tryz.func95 (by kernel_rfl) rfl (by kernel_rfl) rfl
theorem S26 (h:hM):Sound Tryz.prog (C26 u):=(S25 u h).add (d64 u h (S25 u h) fits95)
theorem S27 (h:hM):Sound Tryz.prog (C27 u):=(S26 u h).add (d73b u h (S26 u h) fits92)
theorem S28 (h:hM):Sound Tryz.prog (C28 u):=(S27 u h).add (d50b u h (S27 u h) fits69)
theorem fits73:FFits Tryz.prog 73 A73:=ffits_of Tryz.func73 (by kernel_rfl) rfl (by kernel_rfl) rfl
theorem S29 (h:hM):Sound Tryz.prog (C29 u):=(S28 u h).add (d35 u h (S28 u h) fits73)
theorem fits74:FFits Tryz.prog 74 A74:=ffits_of Tryz.func74 (by kernel_rfl) rfl (by kernel_rfl) rfl
theorem S30 (h:hM):Sound Tryz.prog (C30 u):=(S29 u h).add (d36 u h (S29 u h) fits74)
theorem fits46:FFits Tryz.prog 46 A46:=ffits_of Tryz.func46 (by kernel_rfl) rfl (by kernel_rfl) rfl
theorem S31 (h:hM):Sound Tryz.prog (C31 u):=(S30 u h).add (d13 u h (S30 u h) fits46)
theorem fits23:FFits Tryz.prog 23 A23:=ffits_of Tryz.func23 (by kernel_rfl) rfl (by kernel_rfl) rfl
theorem S32 (h:hM):Sound Tryz.prog (C32 u):=(S31 u h).add (d391 u h (S31 u h) fits23)
theorem srt392 (h:hM) (r:Kd) (n:Nat) (g:FF) (rest:List A) (g' : FF) (hh:(bif r.beq (.pr (.int .i64) .nil)&&rest.isEmpty then F392 u n g else none)=some g'):MutDen Tryz.prog 51 r n g rest g':=sortIT_mut Tryz.sortI rfl (callOk_of2 Tryz.func51 (by kernel_rfl) rfl) hh
theorem S33 (h:hM):Sound Tryz.prog (C33 u):=(S32 u h).addT (srt392 u h)
theorem fits101:FFits Tryz.prog 101 A101:=ffits_of Tryz.func101 (by kernel_rfl) rfl (by kernel_rfl) rfl
theorem S34 (h:hM):Sound Tryz.prog (C34 u):=(S33 u h).add (d72 u h (S33 u h) fits101)
theorem fits82:FFits Tryz.prog 82 A82:=ffits_of Tryz.func82 (by kernel_rfl) rfl (by kernel_rfl) rfl
theorem S35 (h:hM):Sound Tryz.prog (C35 u):=(S34 u h).add (d46 u h (S34 u h) fits82)
theorem fits50:FFits Tryz.prog 50 A50:=ffits_of Tryz.func50 (by kernel_rfl) rfl (by kernel_rfl) rfl
theorem S36 (h:hM):Sound Tryz.prog (C36 u):=(S35 u h).add (d20 u h (S35 u h) fits50)
theorem fits20:FFits Tryz.prog 20 A20:=ffits_of Tryz.func20 (by kernel_rfl) rfl (by kernel_rfl) rfl
theorem S37 (h:hM):Sound Tryz.prog (C37 u):=(S36 u h).add (d393 u h (S36 u h) fits20)
theorem fits68:FFits Tryz.prog 68 A68:=ffits_of Tryz.func68 (by kernel_rfl) rfl (by kernel_rfl) rfl
theorem S38 (h:hM):Sound Tryz.prog (C38 u):=(S37 u h).add (d49 u h (S37 u h) fits68)
theorem fits66:FFits Tryz.prog 66 A66:=ffits_of Tryz.func66 (by kernel_rfl) rfl (by kernel_rfl) rfl
theorem S39 (h:hM):Sound Tryz.prog (C39 u):=(S38 u h).add (d42 u h (S38 u h) fits66)
theorem S40 (h:hM):Sound Tryz.prog (C40 u):=(S39 u h).add (d73c u h (S39 u h) fits92)
theorem S41 (h:hM):Sound Tryz.prog (C41 u):=(S40 u h).add (d50c u h (S40 u h) fits69)
theorem fits70:FFits Tryz.prog 70 A70:=ffits_of Tryz.func70 (by kernel_rfl) rfl (by kernel_rfl) rfl
theorem S42 (h:hM):Sound Tryz.prog (C42 u):=(S41 u h).add (d51 u h (S41 u h) fits70)
theorem fits45:FFits Tryz.prog 45 A45:=ffits_of Tryz.func45 (by kernel_rfl) rfl (by kernel_rfl) rfl
theorem S43 (h:hM):Sound Tryz.prog (C43 u):=(S42 u h).add (d25 u h (S42 u h) fits45)
theorem fits25:FFits Tryz.prog 25 A25:=ffits_of Tryz.func25 (by kernel_rfl) rfl (by kernel_rfl) rfl
theorem S44 (h:hM):Sound Tryz.prog (C44 u):=(S43 u h).add (d394 u h (S43 u h) fits25)
theorem fits21:FFits Tryz.prog 21 A21:=ffits_of Tryz.func21 (by kernel_rfl) rfl (by kernel_rfl) rfl
theorem S45 (h:hM):Sound Tryz.prog (C45 u):=(S44 u h).add (d395 u h (S44 u h) fits21)
theorem fits24:FFits Tryz.prog 24 A24:=ffits_of Tryz.func24 (by kernel_rfl) rfl (by kernel_rfl) rfl
theorem S46 (h:hM):Sound Tryz.prog (C46 u):=(S45 u h).add (d396 u h (S45 u h) fits24)
theorem fits26:FFits Tryz.prog 26 A26:=ffits_of Tryz.func26 (by kernel_rfl) rfl (by kernel_rfl) rfl
theorem S47 (h:hM):Sound Tryz.prog (C47 u):=(S46 u h).add (d397 u h (S46 u h) fits26)
theorem fits10:FFits Tryz.prog 10 A10:=ffits_of Tryz.func10 (by kernel_rfl) rfl (by kernel_rfl) rfl
theorem S48 (h:hM):Sound Tryz.prog (C48 u):=(S47 u h).add (d398 u h (S47 u h) fits10)
theorem fits58:FFits Tryz.prog 58 A58:=ffits_of Tryz.func58 (by kernel_rfl) rfl (by kernel_rfl) rfl
theorem S49 (h:hM):Sound Tryz.prog (C49 u):=(S48 u h).add (d338 u h (S48 u h) fits58)
theorem fits34:FFits Tryz.prog 34 A34:=ffits_of Tryz.func34 (by kernel_rfl) rfl (by kernel_rfl) rfl
theorem S50 (h:hM):Sound Tryz.prog (C50 u):=(S49 u h).add (d399 u h (S49 u h) fits34)
theorem fits33:FFits Tryz.prog 33 A33:=ffits_of Tryz.func33 (by kernel_rfl) rfl (by kernel_rfl) rfl
theorem S51 (h:hM):Sound Tryz.prog (C51 u):=(S50 u h).add (d400 u h (S50 u h) fits33)
theorem fits65:FFits Tryz.prog 65 A65:=ffits_of Tryz.func65 (by kernel_rfl) rfl (by kernel_rfl) rfl
theorem S52 (h:hM):Sound Tryz.prog (C52 u):=(S51 u h).add (d170 u h (S51 u h) fits65)
theorem fits64:FFits Tryz.prog 64 A64:=ffits_of Tryz.func64 (by kernel_rfl) rfl (by kernel_rfl) rfl
theorem S53 (h:hM):Sound Tryz.prog (C53 u):=(S52 u h).add (d171 u h (S52 u h) fits64)
theorem fits43:FFits Tryz.prog 43 A43:=ffits_of Tryz.func43 (by kernel_rfl) rfl (by kernel_rfl) rfl
theorem S54 (h:hM):Sound Tryz.prog (C54 u):=(S53 u h).add (d172 u h (S53 u h) fits43)
theorem fits44:FFits Tryz.prog 44 A44:=ffits_of Tryz.func44 (by kernel_rfl) rfl (by kernel_rfl) rfl
theorem S55 (h:hM):Sound Tryz.prog (C55 u):=(S54 u h).add (d18 u h (S54 u h) fits44)
theorem fits15:FFits Tryz.prog 15 A15:=ffits_of Tryz.func15 (by kernel_rfl) rfl (by kernel_rfl) rfl
theorem S56 (h:hM):Sound Tryz.prog (C56 u):=(S55 u h).add (d183 u h (S55 u h) fits15)
theorem fits12:FFitsI Tryz.prog 12 A12:=ffitsI_of Tryz.func12 (by kernel_rfl) rfl (by kernel_rfl) rfl
theorem all12 (h:hM):AllIt Tryz.prog (AF.body A12):=(.intro trivial (.intro (.intro trivial trivial) (.intro trivial (.intro (.intro trivial trivial) (.intro (.intro trivial trivial) (.intro trivial (.intro (.intro (itT_at h) (.intro trivial (.intro (.intro trivial trivial) (.intro (itP_at h) (.intro (itP_at h) (.intro trivial (.intro trivial (.intro trivial trivial)))))))) (.intro trivial trivial))))))))
theorem S57 (h:hM):Sound Tryz.prog (C57 u):=(S56 u h).add (d401 u h (S56 u h) (all12 h) fits12)
theorem fits9:FFits Tryz.prog 9 A9:=ffits_of Tryz.func9 (by kernel_rfl) rfl (by kernel_rfl) rfl
theorem S58 (h:hM):Sound Tryz.prog (C58 u):=(S57 u h).add (d402 u h (S57 u h) fits9)
theorem fits8:FFits Tryz.prog 8 A8:=ffits_of Tryz.func8 (by kernel_rfl) rfl (by kernel_rfl) rfl
theorem S59 (h:hM):Sound Tryz.prog (C59 u):=(S58 u h).add (d403 u h (S58 u h) fits8)
theorem fits38:FFits Tryz.prog 38 A38:=ffits_of Tryz.func38 (by kernel_rfl) rfl (by kernel_rfl) rfl
theorem S60 (h:hM):Sound Tryz.prog (C60 u):=(S59 u h).add (d176 u h (S59 u h) fits38)
theorem fits116:FFits Tryz.prog 116 A116:=ffits_of Tryz.func116 (by kernel_rfl) rfl (by kernel_rfl) rfl
theorem S61 (h:hM):Sound Tryz.prog (C61 u):=(S60 u h).add (d69 u h (S60 u h) fits116)
theorem fits113:FFits Tryz.prog 113 A113:=ffits_of Tryz.func113 (by kernel_rfl) rfl (by kernel_rfl) rfl
theorem S62 (h:hM):Sound Tryz.prog (C62 u):=(S61 u h).add (d66 u h (S61 u h) fits113)
theorem fits118:FFits Tryz.prog 118 A118:=ffits_of Tryz.func118 (by kernel_rfl) rfl (by kernel_rfl) rfl
theorem S63 (h:hM):Sound Tryz.prog (C63 u):=(S62 u h).add (d71 u h (S62 u h) fits118)
theorem fits117:FFits Tryz.prog 117 A117:=ffits_of Tryz.func117 (by kernel_rfl) rfl (by kernel_rfl) rfl
theorem S64 (h:hM):Sound Tryz.prog (C64 u):=(S63 u h).add (d70 u h (S63 u h) fits117)
theorem fits135:FFits Tryz.prog 135 A135:=ffits_of Tryz.func135 (by kernel_rfl) rfl (by kernel_rfl) rfl
theorem S65 (h:hM):Sound Tryz.prog (C65 u):=(S64 u h).add (d88 u h (S64 u h) fits135)
theorem fits129:FFits Tryz.prog 129 A129:=ffits_of Tryz.func129 (by kernel_rfl) rfl (by kernel_rfl) rfl
theorem S66 (h:hM):Sound Tryz.prog (C66 u):=(S65 u h).add (d82 u h (S65 u h) fits129)
theorem fits114:FFits Tryz.prog 114 A114:=ffits_of Tryz.func114 (by kernel_rfl) rfl (by kernel_rfl) rfl
theorem S67 (h:hM):Sound Tryz.prog (C67 u):=(S66 u h).add (d67 u h (S66 u h) fits114)
theorem fits85:FFits Tryz.prog 85 A85:=ffits_of Tryz.func85 (by kernel_rfl) rfl (by kernel_rfl) rfl
theorem S68 (h:hM):Sound Tryz.prog (C68 u):=(S67 u h).add (d37 u h (S67 u h) fits85)
theorem fits86:FFits Tryz.prog 86 A86:=ffits_of Tryz.func86 (by kernel_rfl) rfl (by kernel_rfl) rfl
theorem S69 (h:hM):Sound Tryz.prog (C69 u):=(S68 u h).add (d38 u h (S68 u h) fits86)
theorem fits131:FFits Tryz.prog 131 A131:=ffits_of Tryz.func131 (by kernel_rfl) rfl (by kernel_rfl) rfl
theorem S70 (h:hM):Sound Tryz.prog (C70 u):=(S69 u h).add (d84 u h (S69 u h) fits131)
theorem fits130:FFits Tryz.prog 130 A130:=ffits_of Tryz.func130 (by kernel_rfl) rfl (by kernel_rfl) rfl
theorem S71 (h:hM):Sound Tryz.prog (C71 u):=(S70 u h).add (d83 u h (S70 u h) fits130)
theorem fits115:FFits Tryz.prog 115 A115:=ffits_of Tryz.func115 (by kernel_rfl) rfl (by kernel_rfl) rfl
theorem S72 (h:hM):Sound Tryz.prog (C72 u):=(S71 u h).add (d68 u h (S71 u h) fits115)
theorem fits87:FFits Tryz.prog 87 A87:=ffits_of Tryz.func87 (by kernel_rfl) rfl (by kernel_rfl) rfl
theorem S73 (h:hM):Sound Tryz.prog (C73 u):=(S72 u h).add (d39 u h (S72 u h) fits87)
theorem fits88:FFits Tryz.prog 88 A88:=ffits_of Tryz.func88 (by kernel_rfl) rfl (by kernel_rfl) rfl
theorem S74 (h:hM):Sound Tryz.prog (C74 u):=(S73 u h).add (d40 u h (S73 u h) fits88)
theorem fits52:FFits Tryz.prog 52 A52:=ffits_of Tryz.func52 (by kernel_rfl) rfl (by kernel_rfl) rfl
theorem S75 (h:hM):Sound Tryz.prog (C75 u):=(S74 u h).add (d14 u h (S74 u h) fits52)
theorem fits27:FFits Tryz.prog 27 A27:=ffits_of Tryz.func27 (by kernel_rfl) rfl (by kernel_rfl) rfl
theorem S76 (h:hM):Sound Tryz.prog (C76 u):=(S75 u h).add (d409 u h (S75 u h) fits27)
theorem fits40:FFits Tryz.prog 40 A40:=ffits_of Tryz.func40 (by kernel_rfl) rfl (by kernel_rfl) rfl
theorem S77 (h:hM):Sound Tryz.prog (C77 u):=(S76 u h).add (d21 u h (S76 u h) fits40)
theorem fits39:FFits Tryz.prog 39 A39:=ffits_of Tryz.func39 (by kernel_rfl) rfl (by kernel_rfl) rfl
theorem S78 (h:hM):Sound Tryz.prog (C78 u):=(S77 u h).add (d404 u h (S77 u h) fits39)
theorem fits29:FFits Tryz.prog 29 A29:=ffits_of Tryz.func29 (by kernel_rfl) rfl (by kernel_rfl) rfl
theorem S79 (h:hM):Sound Tryz.prog (C79 u):=(S78 u h).add (d405 u h (S78 u h) fits29)
theorem fits61:FFits Tryz.prog 61 A61:=ffits_of Tryz.func61 (by kernel_rfl) rfl (by kernel_rfl) rfl
theorem S80 (h:hM):Sound Tryz.prog (C80 u):=(S79 u h).add (d44 u h (S79 u h) fits61)
theorem fits62:FFits Tryz.prog 62 A62:=ffits_of Tryz.func62 (by kernel_rfl) rfl (by kernel_rfl) rfl
theorem S81 (h:hM):Sound Tryz.prog (C81 u):=(S80 u h).add (d53 u h (S80 u h) fits62)
theorem fits90:FFits Tryz.prog 90 A90:=ffits_of Tryz.func90 (by kernel_rfl) rfl (by kernel_rfl) rfl
theorem S82 (h:hM):Sound Tryz.prog (C82 u):=(S81 u h).add (d32 u h (S81 u h) fits90)
theorem fits63:FFits Tryz.prog 63 A63:=ffits_of Tryz.func63 (by kernel_rfl) rfl (by kernel_rfl) rfl
theorem S83 (h:hM):Sound Tryz.prog (C83 u):=(S82 u h).add (d54 u h (S82 u h) fits63)
theorem fits41:FFits Tryz.prog 41 A41:=ffits_of Tryz.func41 (by kernel_rfl) rfl (by kernel_rfl) rfl
theorem S84 (h:hM):Sound Tryz.prog (C84 u):=(S83 u h).add (d26 u h (S83 u h) fits41)
theorem fits42:FFits Tryz.prog 42 A42:=ffits_of Tryz.func42 (by kernel_rfl) rfl (by kernel_rfl) rfl
theorem S85 (h:hM):Sound Tryz.prog (C85 u):=(S84 u h).add (d406 u h (S84 u h) fits42)
theorem fits14:FFits Tryz.prog 14 A14:=ffits_of Tryz.func14 (by kernel_rfl) rfl (by kernel_rfl) rfl
theorem S86 (h:hM):Sound Tryz.prog (C86 u):=(S85 u h).add (d414 u h (S85 u h) fits14)
theorem fits5:FFits Tryz.prog 5 A5:=ffits_of Tryz.func5 (by kernel_rfl) rfl (by kernel_rfl) rfl
theorem w415 (hmix:Tryz.prog.follows .mixedOrders=true) {fuel:Nat} {args res:List A} (h:(O415 fuel).o args some=some res):Den Tryz.prog 5 args res:=d415 fuel hmix (S86 fuel hmix) fits5 args res h
end Go.Eng.R13
