/-
 All functions are sound;printed by decomp.py.
-/
import Derived.Test.YtkknnlhhchielaaDoorDecT2
import Derived.Test.YtkknnlhhchielaaDoorPlRev
import Derived.Test.YtkknnlhhchielaaDoorEngV
import Derived.Test.YtkknnlhhchielaaDoorNsFit
import Derived.Test.YtkknnlhhchielaaDoorNsLay
import Derived.Test.YtkknnlhhchielaaDoorEngX2
import Derived.Test.YtkknnlhhchielaaDoorProg
set_option linter.all false
set_option maxRecDepth 1000000
set_option maxHeartbeats 4000000
namespace Go.Eng.R13
open Go Go.RowKit Go.Eng Go.Proofs
abbrev hM:Prop:=Tryd.prog.follows .mixedOrders=true
variable (u : Nat)
theorem zero_run57 (g:Nat→Nat→CV):evalF (CE 2) 2 A57 [.v (.ro false (.pr (.int .i64) (.pr (.int .i64) .nil)) 0 g)]=some []:=by kernel_rfl
theorem fits57:FFits Tryd.prog 57 A57:=ffits_of Tryd.func57 (by kernel_rfl) rfl (by kernel_rfl) rfl
theorem mut57 (hmix:Tryd.prog.follows .mixedOrders=true) (n:Nat) (g:Nat→Nat→CV):MutDen Tryd.prog 57 (.pr (.int .i64) (.pr (.int .i64) .nil)) n g [] (revF n g):=by
 by_cases h:n<9223372036854775808
 ·by_cases h0:n=0
  ·subst h0
   exact mutDen_of (fuel:=2) hmix (soundE 2) fits57 rfl (by decide) rfl (fun _=>zero_run57 g) (fun h=>absurd h (by omega))
  ·refine mutDen_of (fuel:=n+1) hmix (soundE (n+1)) fits57 rfl (by decide) rfl (fun h=>absurd h h0) (fun _ hok=>?_)
   obtain ⟨f',h1,h2⟩:=rev_law (n+1) n g (by omega) h (fun i j hi hj=>by
    have:=hok i j hi hj
    match j,hj with
    | 0,_=>exact this
    | 1,_=>exact this)
   exact ⟨n,f',(e52 (n+1) n g).trans h1,Nat.le_refl _,fun i j hi hj=>h2 i j hi hj⟩
 ·refine ⟨fits57.ok,fun h0=>absurd h0 (by omega),fun _ w okA gb cap cur e vs _ _ _ _ _ h1 h2=>?_⟩
  have:maxLen=9223372036854775807:=rfl
  omega
theorem fits35:FFits Tryd.prog 35 (cloneAF 75 3 (.pr (.int .i64) .nil) 8 [.c (.i .i64 0)]):=ffits_of Tryd.func35 (by kernel_rfl) rfl (by kernel_rfl) rfl
theorem own35 (hmix:Tryd.prog.follows .mixedOrders=true) (n:Nat) (g:Nat→Nat→CV) (fl:Bool) (h:n≤1073741824):FreshDen Tryd.prog 35 (.pr (.int .i64) .nil) [.v (.ro fl (.pr (.int .i64) .nil) n g)] n g:=by
 have hb:Nat.ble (0+n) 1073741824=true:=by rw [Nat.zero_add,Nat.ble_eq];exact h
 exact clone_fresh (C:=CE 2) hmix (soundE 2) fits35 rfl rfl Tryd.underlying75 n g fl (by kernel_rfl)
  ((show evalC (CE 2) 2 (.seq (.cond (tm 4) (.seq (.region 2 [o1 2 (.assign (.const (.slice none 0 0)))] 0 none) [] (.ret (0 :: 1 :: (rl 3 5 [])))) .skip) [2,3,4] (.seq (.region 3 [o1 5 (.buildSlice 0 75 3 (.pr (.int .i64) .nil) 0 [.c (.i .i64 0)] []),mv 6 0,o1 7 (.append 1 75 3 (.pr (.int .i64) .nil) 8 (tm 5) (tm 6)),o1 2 (.assign (tm 7))] 2 none) [] (.ret (0 :: 1 :: (rl 3 5 []))))) ⟨[.x (.c (.ro fl (.pr (.int .i64) .nil) n g)),.undef,.x (.c (.ro true .nil 0 (fun _ _=>.any))),.x (.c (.ro fl (.pr (.int .i64) .nil) n g)),bl false,.undef,.undef,.undef],[]⟩ (finO 2 (.pr (.int .i64) .nil))=bif Nat.ble (0+n) 1073741824 then some (0+n,joinF 0 (rowsF 1 []) g) else none from by kernel_rfl).trans (by rw [hb];rfl))
theorem S0 (fuel:Nat) (hmix:Tryd.prog.follows .mixedOrders=true):Sound Tryd.prog (C0 fuel) where
 call:=fun f args res h=>by cases h
 turn:=fun f r n g rest g' h=>by
  obtain ⟨h1,h2⟩:=bif_some (show (bif _&&_ then some (revF n g) else none)=some g' from h)
  cases h2
  simp only [Bool.and_eq_true,Bool.or_eq_true] at h1
  have e3:rest = []:=by simpa using h1.2
  have h1:=h1.1
  refine (fun hh=>?_:_→_) h1
  ·have e1:=Nat.eq_of_beq_eq_true hh.1
   have e2:=Kd.eq_of_beq hh.2
   subst e1;subst e2;subst e3
   exact mut57 hmix n g
 fresh:=fun f r args n g h hn=>by
  unfold C0 at h
  dsimp only at h
  split at h
  ·obtain ⟨h1,h2⟩:=bif_some h
   cases h2
   simp only [Bool.and_eq_true,Bool.or_eq_true] at h1
   have h3:=h1.1
   refine (fun hh=>?_:_→_) h3
   ·have e1:=Nat.eq_of_beq_eq_true hh.1
    have e2:=Kd.eq_of_beq hh.2
    have e3:=Kd.eq_of_beq h1.2
    subst e1;subst e3;subst e2
    exact own35 hmix _ _ _ hn
  ·cases h
 cut:=fun f r n g rest m g' h _=>by
  have h:(none:Option (Nat × FF))=some (m,g'):=h
  cases h
 lend:=fun _ _ _ _ _ _ h=>by cases h
theorem fits5:FFits Tryd.prog 5 A5:=ffits_of Tryd.func5 (by kernel_rfl) rfl (by kernel_rfl) rfl
theorem S1 (h:hM):Sound Tryd.prog (C1 u):=(S0 u h).add (d386 u h (S0 u h) fits5)
theorem fits15:FFits Tryd.prog 15 A15:=ffits_of Tryd.func15 (by kernel_rfl) rfl (by kernel_rfl) rfl
theorem S2 (h:hM):Sound Tryd.prog (C2 u):=(S1 u h).add (d387 u h (S1 u h) fits15)
theorem fits16:FFits Tryd.prog 16 A16:=ffits_of Tryd.func16 (by kernel_rfl) rfl (by kernel_rfl) rfl
theorem S3 (h:hM):Sound Tryd.prog (C3 u):=(S2 u h).add (d388 u h (S2 u h) fits16)
theorem fits19:FFits Tryd.prog 19 A19:=ffits_of Tryd.func19 (by kernel_rfl) rfl (by kernel_rfl) rfl
theorem S4 (h:hM):Sound Tryd.prog (C4 u):=(S3 u h).add (d389 u h (S3 u h) fits19)
theorem fits58:FFits Tryd.prog 58 A58:=ffits_of Tryd.func58 (by kernel_rfl) rfl (by kernel_rfl) rfl
theorem S5 (h:hM):Sound Tryd.prog (C5 u):=(S4 u h).add (d61 u h (S4 u h) fits58)
theorem fits75:FFits Tryd.prog 75 A75:=ffits_of Tryd.func75 (by kernel_rfl) rfl (by kernel_rfl) rfl
theorem S6 (h:hM):Sound Tryd.prog (C6 u):=(S5 u h).add (d73 u h (S5 u h) fits75)
theorem fits55:FFits Tryd.prog 55 A55:=ffits_of Tryd.func55 (by kernel_rfl) rfl (by kernel_rfl) rfl
theorem S7 (h:hM):Sound Tryd.prog (C7 u):=(S6 u h).add (d50 u h (S6 u h) fits55)
theorem fits76:FFits Tryd.prog 76 A76:=ffits_of Tryd.func76 (by kernel_rfl) rfl (by kernel_rfl) rfl
theorem S8 (h:hM):Sound Tryd.prog (C8 u):=(S7 u h).add (d79 u h (S7 u h) fits76)
theorem fits89:FFits Tryd.prog 89 A89:=ffits_of Tryd.func89 (by kernel_rfl) rfl (by kernel_rfl) rfl
theorem S9 (h:hM):Sound Tryd.prog (C9 u):=(S8 u h).add (d87 u h (S8 u h) fits89)
theorem fits81:FFits Tryd.prog 81 A81:=ffits_of Tryd.func81 (by kernel_rfl) rfl (by kernel_rfl) rfl
theorem S10 (h:hM):Sound Tryd.prog (C10 u):=(S9 u h).add (d81 u h (S9 u h) fits81)
theorem fits87:FFits Tryd.prog 87 A87:=ffits_of Tryd.func87 (by kernel_rfl) rfl (by kernel_rfl) rfl
theorem S11 (h:hM):Sound Tryd.prog (C11 u):=(S10 u h).add (d90 u h (S10 u h) fits87)
theorem fits91:FFits Tryd.prog 91 A91:=ffits_of Tryd.func91 (by kernel_rfl) rfl (by kernel_rfl) rfl
theorem S12 (h:hM):Sound Tryd.prog (C12 u):=(S11 u h).add (d89 u h (S11 u h) fits91)
theorem fits88:FFits Tryd.prog 88 A88:=ffits_of Tryd.func88 (by kernel_rfl) rfl (by kernel_rfl) rfl
theorem S13 (h:hM):Sound Tryd.prog (C13 u):=(S12 u h).add (d86 u h (S12 u h) fits88)
theorem fits77:FFits Tryd.prog 77 A77:=ffits_of Tryd.func77 (by kernel_rfl) rfl (by kernel_rfl) rfl
theorem S14 (h:hM):Sound Tryd.prog (C14 u):=(S13 u h).add (d80 u h (S13 u h) fits77)
theorem fits59:FFits Tryd.prog 59 A59:=ffits_of Tryd.func59 (by kernel_rfl) rfl (by kernel_rfl) rfl
theorem S15 (h:hM):Sound Tryd.prog (C15 u):=(S14 u h).add (d62 u h (S14 u h) fits59)
theorem fits51:FFits Tryd.prog 51 A51:=ffits_of Tryd.func51 (by kernel_rfl) rfl (by kernel_rfl) rfl
theorem S16 (h:hM):Sound Tryd.prog (C16 u):=(S15 u h).add (d63 u h (S15 u h) fits51)
theorem fits47:FFits Tryd.prog 47 A47:=ffits_of Tryd.func47 (by kernel_rfl) rfl (by kernel_rfl) rfl
theorem S17 (h:hM):Sound Tryd.prog (C17 u):=(S16 u h).add (d33 u h (S16 u h) fits47)
theorem fits43:FFits Tryd.prog 43 A43:=ffits_of Tryd.func43 (by kernel_rfl) rfl (by kernel_rfl) rfl
theorem S18 (h:hM):Sound Tryd.prog (C18 u):=(S17 u h).add (d34 u h (S17 u h) fits43)
theorem fits79:FFits Tryd.prog 79 A79:=ffits_of Tryd.func79 (by kernel_rfl) rfl (by kernel_rfl) rfl
theorem S19 (h:hM):Sound Tryd.prog (C19 u):=(S18 u h).add (d75 u h (S18 u h) fits79)
theorem fits78:FFits Tryd.prog 78 A78:=ffits_of Tryd.func78 (by kernel_rfl) rfl (by kernel_rfl) rfl
theorem S20 (h:hM):Sound Tryd.prog (C20 u):=(S19 u h).add (d74 u h (S19 u h) fits78)
theorem fits80:FFits Tryd.prog 80 A80:=ffits_of Tryd.func80 (by kernel_rfl) rfl (by kernel_rfl) rfl
theorem S21 (h:hM):Sound Tryd.prog (C21 u):=(S20 u h).add (d76 u h (S20 u h) fits80)
theorem fits61:FFits Tryd.prog 61 A61:=ffits_of Tryd.func61 (by kernel_rfl) rfl (by kernel_rfl) rfl
theorem S22 (h:hM):Sound Tryd.prog (C22 u):=(S21 u h).add (d56 u h (S21 u h) fits61)
theorem fits60:FFits Tryd.prog 60 A60:=ffits_of Tryd.func60 (by kernel_rfl) rfl (by kernel_rfl) rfl
theorem S23 (h:hM):Sound Tryd.prog (C23 u):=(S22 u h).add (d58 u h (S22 u h) fits60)
theorem fits63:FFits Tryd.prog 63 A63:=ffits_of Tryd.func63 (by kernel_rfl) rfl (by kernel_rfl) rfl
theorem S24 (h:hM):Sound Tryd.prog (C24 u):=(S23 u h).add (d65 u h (S23 u h) fits63)
theorem fits62:FFits Tryd.prog 62 A62:=ffits_of Tryd.func62 (by kernel_rfl) rfl (by kernel_rfl) rfl
theorem S25 (h:hM):Sound Tryd.prog (C25 u):=(S24 u h).add (d64 u h (S24 u h) fits62)
theorem S26 (h:hM):Sound Tryd.prog (C26 u):=(S25 u h).add (d73b u h (S25 u h) fits75)
theorem S27 (h:hM):Sound Tryd.prog (C27 u):=(S26 u h).add (d50b u h (S26 u h) fits55)
theorem fits48:FFits Tryd.prog 48 A48:=ffits_of Tryd.func48 (by kernel_rfl) rfl (by kernel_rfl) rfl
theorem S28 (h:hM):Sound Tryd.prog (C28 u):=(S27 u h).add (d35 u h (S27 u h) fits48)
theorem fits49:FFits Tryd.prog 49 A49:=ffits_of Tryd.func49 (by kernel_rfl) rfl (by kernel_rfl) rfl
theorem S29 (h:hM):Sound Tryd.prog (C29 u):=(S28 u h).add (d36 u h (S28 u h) fits49)
theorem fits33:FFits Tryd.prog 33 A33:=ffits_of Tryd.func33 (by kernel_rfl) rfl (by kernel_rfl) rfl
theorem S30 (h:hM):Sound Tryd.prog (C30 u):=(S29 u h).add (d13 u h (S29 u h) fits33)
theorem fits22:FFits Tryd.prog 22 A22:=ffits_of Tryd.func22 (by kernel_rfl) rfl (by kernel_rfl) rfl
theorem S31 (h:hM):Sound Tryd.prog (C31 u):=(S30 u h).add (d391 u h (S30 u h) fits22)
theorem srt392 (h:hM) (r:Kd) (n:Nat) (g:FF) (rest:List A) (g' : FF) (hh:(bif r.beq (.pr (.int .i64) .nil)&&rest.isEmpty then F392 u n g else none)=some g'):MutDen Tryd.prog 44 r n g rest g':=sortIT_mut Tryd.sortI rfl (callOk_of2 Tryd.func44 (by kernel_rfl) rfl) hh
theorem S32 (h:hM):Sound Tryd.prog (C32 u):=(S31 u h).addT (srt392 u h)
theorem fits46:FFits Tryd.prog 46 A46:=ffits_of Tryd.func46 (by kernel_rfl) rfl (by kernel_rfl) rfl
theorem S33 (h:hM):Sound Tryd.prog (C33 u):=(S32 u h).add (d72 u h (S32 u h) fits46)
theorem fits32:FFits Tryd.prog 32 A32:=ffits_of Tryd.func32 (by kernel_rfl) rfl (by kernel_rfl) rfl
theorem S34 (h:hM):Sound Tryd.prog (C34 u):=(S33 u h).add (d46 u h (S33 u h) fits32)
theorem fits18:FFits Tryd.prog 18 A18:=ffits_of Tryd.func18 (by kernel_rfl) rfl (by kernel_rfl) rfl
theorem S35 (h:hM):Sound Tryd.prog (C35 u):=(S34 u h).add (d20 u h (S34 u h) fits18)
theorem fits7:FFits Tryd.prog 7 A7:=ffits_of Tryd.func7 (by kernel_rfl) rfl (by kernel_rfl) rfl
theorem S36 (h:hM):Sound Tryd.prog (C36 u):=(S35 u h).add (d393 u h (S35 u h) fits7)
theorem fits54:FFits Tryd.prog 54 A54:=ffits_of Tryd.func54 (by kernel_rfl) rfl (by kernel_rfl) rfl
theorem S37 (h:hM):Sound Tryd.prog (C37 u):=(S36 u h).add (d49 u h (S36 u h) fits54)
theorem fits42:FFits Tryd.prog 42 A42:=ffits_of Tryd.func42 (by kernel_rfl) rfl (by kernel_rfl) rfl
theorem S38 (h:hM):Sound Tryd.prog (C38 u):=(S37 u h).add (d42 u h (S37 u h) fits42)
theorem S39 (h:hM):Sound Tryd.prog (C39 u):=(S38 u h).add (d73c u h (S38 u h) fits75)
theorem S40 (h:hM):Sound Tryd.prog (C40 u):=(S39 u h).add (d50c u h (S39 u h) fits55)
theorem fits56:FFits Tryd.prog 56 A56:=ffits_of Tryd.func56 (by kernel_rfl) rfl (by kernel_rfl) rfl
theorem S41 (h:hM):Sound Tryd.prog (C41 u):=(S40 u h).add (d51 u h (S40 u h) fits56)
theorem fits45:FFits Tryd.prog 45 A45:=ffits_of Tryd.func45 (by kernel_rfl) rfl (by kernel_rfl) rfl
theorem S42 (h:hM):Sound Tryd.prog (C42 u):=(S41 u h).add (d25 u h (S41 u h) fits45)
theorem fits30:FFits Tryd.prog 30 A30:=ffits_of Tryd.func30 (by kernel_rfl) rfl (by kernel_rfl) rfl
theorem S43 (h:hM):Sound Tryd.prog (C43 u):=(S42 u h).add (d394 u h (S42 u h) fits30)
theorem fits9:FFits Tryd.prog 9 A9:=ffits_of Tryd.func9 (by kernel_rfl) rfl (by kernel_rfl) rfl
theorem S44 (h:hM):Sound Tryd.prog (C44 u):=(S43 u h).add (d395 u h (S43 u h) fits9)
theorem fits29:FFits Tryd.prog 29 A29:=ffits_of Tryd.func29 (by kernel_rfl) rfl (by kernel_rfl) rfl
theorem S45 (h:hM):Sound Tryd.prog (C45 u):=(S44 u h).add (d396 u h (S44 u h) fits29)
theorem fits31:FFits Tryd.prog 31 A31:=ffits_of Tryd.func31 (by kernel_rfl) rfl (by kernel_rfl) rfl
theorem S46 (h:hM):Sound Tryd.prog (C46 u):=(S45 u h).add (d397 u h (S45 u h) fits31)
theorem fits14:FFits Tryd.prog 14 A14:=ffits_of Tryd.func14 (by kernel_rfl) rfl (by kernel_rfl) rfl
theorem S47 (h:hM):Sound Tryd.prog (C47 u):=(S46 u h).add (d398 u h (S46 u h) fits14)
theorem fits39:FFits Tryd.prog 39 A39:=ffits_of Tryd.func39 (by kernel_rfl) rfl (by kernel_rfl) rfl
theorem S48 (h:hM):Sound Tryd.prog (C48 u):=(S47 u h).add (d338 u h (S47 u h) fits39)
theorem fits26:FFits Tryd.prog 26 A26:=ffits_of Tryd.func26 (by kernel_rfl) rfl (by kernel_rfl) rfl
theorem S49 (h:hM):Sound Tryd.prog (C49 u):=(S48 u h).add (d399 u h (S48 u h) fits26)
theorem fits25:FFits Tryd.prog 25 A25:=ffits_of Tryd.func25 (by kernel_rfl) rfl (by kernel_rfl) rfl
theorem S50 (h:hM):Sound Tryd.prog (C50 u):=(S49 u h).add (d400 u h (S49 u h) fits25)
theorem fits41:FFits Tryd.prog 41 A41:=ffits_of Tryd.func41 (by kernel_rfl) rfl (by kernel_rfl) rfl
theorem S51 (h:hM):Sound Tryd.prog (C51 u):=(S50 u h).add (d170 u h (S50 u h) fits41)
theorem fits40:FFits Tryd.prog 40 A40:=ffits_of Tryd.func40 (by kernel_rfl) rfl (by kernel_rfl) rfl
theorem S52 (h:hM):Sound Tryd.prog (C52 u):=(S51 u h).add (d171 u h (S51 u h) fits40)
theorem fits27:FFits Tryd.prog 27 A27:=ffits_of Tryd.func27 (by kernel_rfl) rfl (by kernel_rfl) rfl
theorem S53 (h:hM):Sound Tryd.prog (C53 u):=(S52 u h).add (d172 u h (S52 u h) fits27)
theorem fits28:FFits Tryd.prog 28 A28:=ffits_of Tryd.func28 (by kernel_rfl) rfl (by kernel_rfl) rfl
theorem S54 (h:hM):Sound Tryd.prog (C54 u):=(S53 u h).add (d18 u h (S53 u h) fits28)
theorem fits13:FFits Tryd.prog 13 A13:=ffits_of Tryd.func13 (by kernel_rfl) rfl (by kernel_rfl) rfl
theorem S55 (h:hM):Sound Tryd.prog (C55 u):=(S54 u h).add (d183 u h (S54 u h) fits13)
theorem fits12:FFitsI Tryd.prog 12 A12:=ffitsI_of Tryd.func12 (by kernel_rfl) rfl (by kernel_rfl) rfl
theorem all12 (h:hM):AllIt Tryd.prog (AF.body A12):=(.intro trivial (.intro (.intro trivial trivial) (.intro trivial (.intro (.intro trivial trivial) (.intro (.intro trivial trivial) (.intro trivial (.intro (.intro (itT_at h) (.intro trivial (.intro (.intro trivial trivial) (.intro (itP_at h) (.intro (itP_at h) (.intro trivial (.intro trivial (.intro trivial trivial)))))))) (.intro trivial trivial))))))))
theorem S56 (h:hM):Sound Tryd.prog (C56 u):=(S55 u h).add (d401 u h (S55 u h) (all12 h) fits12)
theorem fits17:FFits Tryd.prog 17 A17:=ffits_of Tryd.func17 (by kernel_rfl) rfl (by kernel_rfl) rfl
theorem S57 (h:hM):Sound Tryd.prog (C57 u):=(S56 u h).add (d402 u h (S56 u h) fits17)
theorem fits6:FFits Tryd.prog 6 A6:=ffits_of Tryd.func6 (by kernel_rfl) rfl (by kernel_rfl) rfl
theorem S58 (h:hM):Sound Tryd.prog (C58 u):=(S57 u h).add (d403 u h (S57 u h) fits6)
theorem fits11:FFits Tryd.prog 11 A11:=ffits_of Tryd.func11 (by kernel_rfl) rfl (by kernel_rfl) rfl
theorem S59 (h:hM):Sound Tryd.prog (C59 u):=(S58 u h).add (d390 u h (S58 u h) fits11)
theorem fits4:FFits Tryd.prog 4 A4:=ffits_of Tryd.func4 (by kernel_rfl) rfl (by kernel_rfl) rfl
theorem w408 (hmix:Tryd.prog.follows .mixedOrders=true) {fuel:Nat} {args res:List A} (h:(O408 fuel).o args some=some res):Den Tryd.prog 4 args res:=d408 fuel hmix (S59 fuel hmix) fits4 args res h
end Go.Eng.R13
