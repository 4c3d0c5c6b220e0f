/-
 All functions are sound;printed by decomp.py.
-/
import Derived.Test.YtnfphfkgbhpikaaDecT2
import Derived.Test.YtnfphfkgbhpikaaDySort
import Derived.Test.YtnfphfkgbhpikaaEngV
import Derived.Test.YtnfphfkgbhpikaaNwLay
import Derived.Test.YtnfphfkgbhpikaaEngX
import Derived.Test.YtnfphfkgbhpikaaEngZ15
import Derived.Test.YtnfphfkgbhpikaaNmNum
import Derived.Test.YtnfphfkgbhpikaaProg
set_option linter.all false
set_option maxRecDepth 1000000
set_option maxHeartbeats 4000000
namespace Go.Eng.R13
open Go Go.RowKit Go.Eng Go.Proofs
abbrev hM:Prop:=Try.prog.follows .mixedOrders=true
variable (u : Nat)
theorem fits51:FFits Try.prog 51 (cloneAF 30 55 (.pr .str (.pr .str (.pr (.int .i64) (.pr (.int .i64) .nil)))) 48 [.c (.s ByteArray.empty),.c (.s ByteArray.empty),.c (.i .i64 0),.c (.i .i64 0)]):=ffits_of Try.func51 (by kernel_rfl) rfl (by kernel_rfl) rfl
theorem own51 (hmix:Try.prog.follows .mixedOrders=true) (n:Nat) (g:Nat→Nat→CV) (fl:Bool) (h:n≤1073741824):FreshDen Try.prog 51 (.pr .str (.pr .str (.pr (.int .i64) (.pr (.int .i64) .nil)))) [.v (.ro fl (.pr .str (.pr .str (.pr (.int .i64) (.pr (.int .i64) .nil)))) n g)] n g:=by
 have hb:Nat.ble (0+n) 1073741824=true:=by rw [Nat.zero_add,Nat.ble_eq];exact h
 exact clone_fresh (C:=CE 2) hmix (soundE 2) fits51 rfl rfl Try.underlying30 n g fl (by kernel_rfl)
  ((show evalC (CE 2) 2 (.seq (.cond (tm 4) (.seq (.region 2 [o1 2 (.assign (.const (.slice none 0 0)))] 0 none) [] (.ret (0 :: 1 :: (rl 3 5 [])))) .skip) [2,3,4] (.seq (.region 3 [o1 5 (.buildSlice 0 30 55 (.pr .str (.pr .str (.pr (.int .i64) (.pr (.int .i64) .nil)))) 0 [.c (.s ByteArray.empty),.c (.s ByteArray.empty),.c (.i .i64 0),.c (.i .i64 0)] []),mv 6 0,o1 7 (.append 1 30 55 (.pr .str (.pr .str (.pr (.int .i64) (.pr (.int .i64) .nil)))) 48 (tm 5) (tm 6)),o1 2 (.assign (tm 7))] 2 none) [] (.ret (0 :: 1 :: (rl 3 5 []))))) ⟨[.x (.c (.ro fl (.pr .str (.pr .str (.pr (.int .i64) (.pr (.int .i64) .nil)))) n g)),.undef,.x (.c (.ro true .nil 0 (fun _ _=>.any))),.x (.c (.ro fl (.pr .str (.pr .str (.pr (.int .i64) (.pr (.int .i64) .nil)))) n g)),bl false,.undef,.undef,.undef],[]⟩ (finO 2 (.pr .str (.pr .str (.pr (.int .i64) (.pr (.int .i64) .nil)))))=bif Nat.ble (0+n) 1073741824 then some (0+n,joinF 0 (rowsF 4 []) g) else none from by kernel_rfl).trans (by rw [hb];rfl))
theorem S0 (fuel:Nat) (hmix:Try.prog.follows .mixedOrders=true):Sound Try.prog (C0 fuel) where
 call:=fun f args res h=>by cases h
 turn:=fun f r n g rest g' h=>by cases h
 fresh:=fun f r args n g h hn=>by
  unfold C0 at h
  dsimp only at h
  split at h
  ·obtain ⟨h1,h2⟩:=bif_some h
   cases h2
   simp only [Bool.and_eq_true,Bool.or_eq_true] at h1
   have h3:=h1.1
   refine (fun hh=>?_:_→_) h3
   ·have e1:=Nat.eq_of_beq_eq_true hh.1
    have e2:=Kd.eq_of_beq hh.2
    have e3:=Kd.eq_of_beq h1.2
    subst e1;subst e3;subst e2
    exact own51 hmix _ _ _ hn
  ·cases h
 cut:=fun f r n g rest m g' h _=>by
  have h:(none:Option (Nat × FF))=some (m,g'):=h
  cases h
 lend:=fun _ _ _ _ _ _ h=>by cases h
theorem fits10:FFits Try.prog 10 A10:=ffits_of Try.func10 (by kernel_rfl) rfl (by kernel_rfl) rfl
theorem S1 (h:hM):Sound Try.prog (C1 u):=(S0 u h).add (d330 u h (S0 u h) fits10)
theorem fits27:FFits Try.prog 27 A27:=ffits_of Try.func27 (by kernel_rfl) rfl (by kernel_rfl) rfl
theorem S2 (h:hM):Sound Try.prog (C2 u):=(S1 u h).add (d331 u h (S1 u h) fits27)
theorem fits29:FFits Try.prog 29 A29:=ffits_of Try.func29 (by kernel_rfl) rfl (by kernel_rfl) rfl
theorem S3 (h:hM):Sound Try.prog (C3 u):=(S2 u h).add (d251 u h (S2 u h) fits29)
theorem num275 (args res:List A) (h:(O275 u).o args some=some res):Den Try.prog 72 args res:=by
 obtain ⟨a,ha,hk⟩:=(q1 (av (cL strK))).inv args _ res h
 obtain ⟨t,ht,hk⟩:=ob_inv hk
 cases hk
 obtain ⟨h1,h2⟩:=bif_some (show (bif Nat.ble a.1 1073741824 then some (a.1,a.2) else none)=some t from ht)
 cases h2
 exact Den.weaken ha (numbers_law false a.1 a.2 (Nat.le_of_ble_eq_true h1))
theorem S4 (h:hM):Sound Try.prog (C4 u):=(S3 u h).add (num275 u)
theorem fits84:FFits Try.prog 84 A84:=ffits_of Try.func84 (by kernel_rfl) rfl (by kernel_rfl) rfl
theorem S5 (h:hM):Sound Try.prog (C5 u):=(S4 u h).add (d90 u h (S4 u h) fits84)
theorem fits76:FFits Try.prog 76 A76:=ffits_of Try.func76 (by kernel_rfl) rfl (by kernel_rfl) rfl
theorem S6 (h:hM):Sound Try.prog (C6 u):=(S5 u h).add (d89 u h (S5 u h) fits76)
theorem fits75:FFits Try.prog 75 A75:=ffits_of Try.func75 (by kernel_rfl) rfl (by kernel_rfl) rfl
theorem S7 (h:hM):Sound Try.prog (C7 u):=(S6 u h).add (d201 u h (S6 u h) fits75)
theorem fits74:FFits Try.prog 74 A74:=ffits_of Try.func74 (by kernel_rfl) rfl (by kernel_rfl) rfl
theorem S8 (h:hM):Sound Try.prog (C8 u):=(S7 u h).add (d273 u h (S7 u h) fits74)
theorem srt239b (h:hM) (r:Kd) (n:Nat) (g:FF) (rest:List A) (g' : FF) (hh:(bif r.beq kP&&isClo 74 rest then F239b u n g else none)=some g'):MutDen Try.prog 73 r n g rest g' :=
 sortT_mut Try.sortL Try.isAgg46 Try.sizeOf46 rfl (callOk_of Try.func73 (by kernel_rfl) rfl) (enters_of Try.func74 (by kernel_rfl) rfl) clo_neg
  (fun x y=>d273 100 h (S7 100 h) fits74 [.agg [vi x.1.1,vi x.1.2],.agg [vi y.1.1,vi y.1.2]] [.v (vi (cfI (cmpI x.1.1 y.1.1) (cmpI x.1.2 y.1.2)))] (by
   show (ob (F273 100 x.1.1 x.1.2 y.1.1 y.1.2) fun t=>some [A.v (vi t)])=some [A.v (vi (cfI (cmpI x.1.1 y.1.1) (cmpI x.1.2 y.1.2)))]
   rw [clo_law];rfl)) hh
theorem S9 (h:hM):Sound Try.prog (C9 u):=(S8 u h).addT (srt239b u h)
theorem fits55:FFitsM Try.prog 117 46 102 55 A55 P55 [.tmp 2]:=ffitsM_of Try.func55 (by kernel_rfl) rfl (by kernel_rfl) rfl
theorem S10 (h:hM):Sound Try.prog (C10 u):=(S9 u h).add (d276 u h (S9 u h) fits55)
theorem fits71:FFits Try.prog 71 A71:=ffits_of Try.func71 (by kernel_rfl) rfl (by kernel_rfl) rfl
theorem S11 (h:hM):Sound Try.prog (C11 u):=(S10 u h).add (d224 u h (S10 u h) fits71)
theorem fits54:FFits Try.prog 54 A54:=ffits_of Try.func54 (by kernel_rfl) rfl (by kernel_rfl) rfl
theorem S12 (h:hM):Sound Try.prog (C12 u):=(S11 u h).add (d225 u h (S11 u h) fits54)
theorem fits28:FFits Try.prog 28 A28:=ffits_of Try.func28 (by kernel_rfl) rfl (by kernel_rfl) rfl
theorem S13 (h:hM):Sound Try.prog (C13 u):=(S12 u h).add (d277 u h (S12 u h) fits28)
theorem fits56:FFits Try.prog 56 A56:=ffits_of Try.func56 (by kernel_rfl) rfl (by kernel_rfl) rfl
theorem S14 (h:hM):Sound Try.prog (C14 u):=(S13 u h).add (d256 u h (S13 u h) fits56)
theorem fits30:FFits Try.prog 30 A30:=ffits_of Try.func30 (by kernel_rfl) rfl (by kernel_rfl) rfl
theorem S15 (h:hM):Sound Try.prog (C15 u):=(S14 u h).add (d257 u h (S14 u h) fits30)
theorem fits31:FFits Try.prog 31 A31:=ffits_of Try.func31 (by kernel_rfl) rfl (by kernel_rfl) rfl
theorem S16 (h:hM):Sound Try.prog (C16 u):=(S15 u h).add (d332 u h (S15 u h) fits31)
theorem fits12:FFits Try.prog 12 A12:=ffits_of Try.func12 (by kernel_rfl) rfl (by kernel_rfl) rfl
theorem S17 (h:hM):Sound Try.prog (C17 u):=(S16 u h).add (d333 u h (S16 u h) fits12)
theorem fits59:FFits Try.prog 59 A59:=ffits_of Try.func59 (by kernel_rfl) rfl (by kernel_rfl) rfl
theorem S18 (h:hM):Sound Try.prog (C18 u):=(S17 u h).add (d334 u h (S17 u h) fits59)
theorem fits79:FFits Try.prog 79 A79:=ffits_of Try.func79 (by kernel_rfl) rfl (by kernel_rfl) rfl
theorem S19 (h:hM):Sound Try.prog (C19 u):=(S18 u h).add (d231 u h (S18 u h) fits79)
theorem fits60:FFits Try.prog 60 A60:=ffits_of Try.func60 (by kernel_rfl) rfl (by kernel_rfl) rfl
theorem S20 (h:hM):Sound Try.prog (C20 u):=(S19 u h).add (d232 u h (S19 u h) fits60)
theorem fits66:FFits Try.prog 66 A66:=ffits_of Try.func66 (by kernel_rfl) rfl (by kernel_rfl) rfl
theorem S21 (h:hM):Sound Try.prog (C21 u):=(S20 u h).add (d335 u h (S20 u h) fits66)
theorem fits65:FFits Try.prog 65 A65:=ffits_of Try.func65 (by kernel_rfl) rfl (by kernel_rfl) rfl
theorem S22 (h:hM):Sound Try.prog (C22 u):=(S21 u h).add (d336 u h (S21 u h) fits65)
theorem fits37:FFits Try.prog 37 A37:=ffits_of Try.func37 (by kernel_rfl) rfl (by kernel_rfl) rfl
theorem S23 (h:hM):Sound Try.prog (C23 u):=(S22 u h).add (d337 u h (S22 u h) fits37)
theorem fits80:FFits Try.prog 80 A80:=ffits_of Try.func80 (by kernel_rfl) rfl (by kernel_rfl) rfl
theorem S24 (h:hM):Sound Try.prog (C24 u):=(S23 u h).add (d338 u h (S23 u h) fits80)
theorem fits61:FFits Try.prog 61 A61:=ffits_of Try.func61 (by kernel_rfl) rfl (by kernel_rfl) rfl
theorem S25 (h:hM):Sound Try.prog (C25 u):=(S24 u h).add (d339 u h (S24 u h) fits61)
theorem fits35:FFits Try.prog 35 A35:=ffits_of Try.func35 (by kernel_rfl) rfl (by kernel_rfl) rfl
theorem S26 (h:hM):Sound Try.prog (C26 u):=(S25 u h).add (d340 u h (S25 u h) fits35)
theorem fits44:FFits Try.prog 44 A44:=ffits_of Try.func44 (by kernel_rfl) rfl (by kernel_rfl) rfl
theorem S27 (h:hM):Sound Try.prog (C27 u):=(S26 u h).add (d341 u h (S26 u h) fits44)
theorem fits43:FFits Try.prog 43 A43:=ffits_of Try.func43 (by kernel_rfl) rfl (by kernel_rfl) rfl
theorem S28 (h:hM):Sound Try.prog (C28 u):=(S27 u h).add (d342 u h (S27 u h) fits43)
theorem fits42:FFits Try.prog 42 A42:=ffits_of Try.func42 (by kernel_rfl) rfl (by kernel_rfl) rfl
theorem S29 (h:hM):Sound Try.prog (C29 u):=(S28 u h).add (d343 u h (S28 u h) fits42)
theorem fits45:FFits Try.prog 45 A45:=ffits_of Try.func45 (by kernel_rfl) rfl (by kernel_rfl) rfl
theorem S30 (h:hM):Sound Try.prog (C30 u):=(S29 u h).add (d344 u h (S29 u h) fits45)
theorem fits18:FFits Try.prog 18 A18:=ffits_of Try.func18 (by kernel_rfl) rfl (by kernel_rfl) rfl
theorem S31 (h:hM):Sound Try.prog (C31 u):=(S30 u h).add (d345 u h (S30 u h) fits18)
theorem fits16:FFits Try.prog 16 A16:=ffits_of Try.func16 (by kernel_rfl) rfl (by kernel_rfl) rfl
theorem S32 (h:hM):Sound Try.prog (C32 u):=(S31 u h).add (d346 u h (S31 u h) fits16)
theorem fits70:FFits Try.prog 70 A70:=ffits_of Try.func70 (by kernel_rfl) rfl (by kernel_rfl) rfl
theorem S33 (h:hM):Sound Try.prog (C33 u):=(S32 u h).add (d347 u h (S32 u h) fits70)
theorem fits81:FFits Try.prog 81 A81:=ffits_of Try.func81 (by kernel_rfl) rfl (by kernel_rfl) rfl
theorem S34 (h:hM):Sound Try.prog (C34 u):=(S33 u h).add (d348 u h (S33 u h) fits81)
theorem fits62:FFits Try.prog 62 A62:=ffits_of Try.func62 (by kernel_rfl) rfl (by kernel_rfl) rfl
theorem S35 (h:hM):Sound Try.prog (C35 u):=(S34 u h).add (d349 u h (S34 u h) fits62)
theorem fits69:FFits Try.prog 69 A69:=ffits_of Try.func69 (by kernel_rfl) rfl (by kernel_rfl) rfl
theorem S36 (h:hM):Sound Try.prog (C36 u):=(S35 u h).add (d350 u h (S35 u h) fits69)
theorem fits52:FFits Try.prog 52 A52:=ffits_of Try.func52 (by kernel_rfl) rfl (by kernel_rfl) rfl
theorem S37 (h:hM):Sound Try.prog (C37 u):=(S36 u h).add (d351 u h (S36 u h) fits52)
theorem fits50:FFits Try.prog 50 A50:=ffits_of Try.func50 (by kernel_rfl) rfl (by kernel_rfl) rfl
theorem S38 (h:hM):Sound Try.prog (C38 u):=(S37 u h).addL (recL (d352 u) h (S37 u h) fits50 u)
theorem fits23:FFits Try.prog 23 A23:=ffits_of Try.func23 (by kernel_rfl) rfl (by kernel_rfl) rfl
theorem S39 (h:hM):Sound Try.prog (C39 u):=(S38 u h).add (d353 u h (S38 u h) fits23)
theorem fits68:FFits Try.prog 68 (bwF 73 3 3 4):=ffits_of Try.func68 (by kernel_rfl) rfl (by kernel_rfl) rfl
theorem fits48:FFits Try.prog 48 (bwdF 73 0 68):=ffits_of Try.func48 (by kernel_rfl) rfl (by kernel_rfl) rfl
theorem bwk48 (h:hM):BwOk Try.prog 48 68:=⟨⟨_,_,_,_,fits68⟩,fun kk fl n g=>bwd_den h fits48 kk fl n g⟩
theorem fits20:FFitsB Try.prog 48 20 A20:=ffitsB_of Try.func20 (by kernel_rfl) rfl (by kernel_rfl) rfl
theorem S40 (h:hM):Sound Try.prog (C40 u):=(S39 u h).add (d354 u h (S39 u h) (bwk48 h) fits20)
theorem fits22:FFits Try.prog 22 A22:=ffits_of Try.func22 (by kernel_rfl) rfl (by kernel_rfl) rfl
theorem S41 (h:hM):Sound Try.prog (C41 u):=(S40 u h).add (d355 u h (S40 u h) fits22)
theorem fits63:FFits Try.prog 63 A63:=ffits_of Try.func63 (by kernel_rfl) rfl (by kernel_rfl) rfl
theorem S42 (h:hM):Sound Try.prog (C42 u):=(S41 u h).add (d356 u h (S41 u h) fits63)
theorem S43 (h:hM):Sound Try.prog (C43 u):=(S42 u h).add (d348b u h (S42 u h) fits81)
theorem S44 (h:hM):Sound Try.prog (C44 u):=(S43 u h).add (d349b u h (S43 u h) fits62)
theorem fits64:FFits Try.prog 64 A64:=ffits_of Try.func64 (by kernel_rfl) rfl (by kernel_rfl) rfl
theorem S45 (h:hM):Sound Try.prog (C45 u):=(S44 u h).add (d357 u h (S44 u h) fits64)
theorem S46 (h:hM):Sound Try.prog (C46 u):=(S45 u h).add (d348c u h (S45 u h) fits81)
theorem S47 (h:hM):Sound Try.prog (C47 u):=(S46 u h).add (d349c u h (S46 u h) fits62)
theorem fits36:FFits Try.prog 36 A36:=ffits_of Try.func36 (by kernel_rfl) rfl (by kernel_rfl) rfl
theorem S48 (h:hM):Sound Try.prog (C48 u):=(S47 u h).add (d358 u h (S47 u h) fits36)
theorem fits14:FFits Try.prog 14 A14:=ffits_of Try.func14 (by kernel_rfl) rfl (by kernel_rfl) rfl
theorem S49 (h:hM):Sound Try.prog (C49 u):=(S48 u h).add (d359 u h (S48 u h) fits14)
theorem fits11:FFits Try.prog 11 A11:=ffits_of Try.func11 (by kernel_rfl) rfl (by kernel_rfl) rfl
theorem S50 (h:hM):Sound Try.prog (C50 u):=(S49 u h).add (d360 u h (S49 u h) fits11)
theorem fits33:FFits Try.prog 33 A33:=ffits_of Try.func33 (by kernel_rfl) rfl (by kernel_rfl) rfl
theorem S51 (h:hM):Sound Try.prog (C51 u):=(S50 u h).add (d252 u h (S50 u h) fits33)
theorem fits78:FFits Try.prog 78 A78:=ffits_of Try.func78 (by kernel_rfl) rfl (by kernel_rfl) rfl
theorem S52 (h:hM):Sound Try.prog (C52 u):=(S51 u h).add (d253 u h (S51 u h) fits78)
theorem fits58:FFits Try.prog 58 A58:=ffits_of Try.func58 (by kernel_rfl) rfl (by kernel_rfl) rfl
theorem S53 (h:hM):Sound Try.prog (C53 u):=(S52 u h).add (d254 u h (S52 u h) fits58)
theorem fits77:FFits Try.prog 77 A77:=ffits_of Try.func77 (by kernel_rfl) rfl (by kernel_rfl) rfl
theorem S54 (h:hM):Sound Try.prog (C54 u):=(S53 u h).add (d228 u h (S53 u h) fits77)
theorem fits57:FFits Try.prog 57 A57:=ffits_of Try.func57 (by kernel_rfl) rfl (by kernel_rfl) rfl
theorem S55 (h:hM):Sound Try.prog (C55 u):=(S54 u h).add (d229 u h (S54 u h) fits57)
theorem fits32:FFits Try.prog 32 A32:=ffits_of Try.func32 (by kernel_rfl) rfl (by kernel_rfl) rfl
theorem S56 (h:hM):Sound Try.prog (C56 u):=(S55 u h).add (d255 u h (S55 u h) fits32)
theorem fits34:FFits Try.prog 34 A34:=ffits_of Try.func34 (by kernel_rfl) rfl (by kernel_rfl) rfl
theorem S57 (h:hM):Sound Try.prog (C57 u):=(S56 u h).add (d361 u h (S56 u h) fits34)
theorem fits13:FFits Try.prog 13 A13:=ffits_of Try.func13 (by kernel_rfl) rfl (by kernel_rfl) rfl
theorem S58 (h:hM):Sound Try.prog (C58 u):=(S57 u h).add (d362 u h (S57 u h) fits13)
theorem fits25:FFits Try.prog 25 A25:=ffits_of Try.func25 (by kernel_rfl) rfl (by kernel_rfl) rfl
theorem S59 (h:hM):Sound Try.prog (C59 u):=(S58 u h).add (d380 u h (S58 u h) fits25)
theorem fits26:FFits Try.prog 26 A26:=ffits_of Try.func26 (by kernel_rfl) rfl (by kernel_rfl) rfl
theorem S60 (h:hM):Sound Try.prog (C60 u):=(S59 u h).add (d382 u h (S59 u h) fits26)
theorem fits7:FFits Try.prog 7 A7:=ffits_of Try.func7 (by kernel_rfl) rfl (by kernel_rfl) rfl
theorem w383 (hmix:Try.prog.follows .mixedOrders=true) {fuel:Nat} {args res:List A} (h:(O383 fuel).o args some=some res):Den Try.prog 7 args res:=d383 fuel hmix (S60 fuel hmix) fits7 args res h
end Go.Eng.R13
