/-
 All functions are sound;printed by decomp.py.
-/
import Derived.Test.YtkknnlhhchielaaGreatDoorDecT2
import Derived.Test.YtkknnlhhchielaaGreatDoorPlRev
import Derived.Test.YtkknnlhhchielaaGreatDoorEngV
import Derived.Test.YtkknnlhhchielaaGreatDoorNsFit
import Derived.Test.YtkknnlhhchielaaGreatDoorNsLayz
import Derived.Test.YtkknnlhhchielaaGreatDoorEngX2
import Derived.Test.YtkknnlhhchielaaGreatDoorProg
set_option linter.all false
set_option maxRecDepth 1000000
set_option maxHeartbeats 4000000
namespace Go.Eng.R13
open Go Go.RowKit Go.Eng Go.Proofs
abbrev hM:Prop:=Tryz.prog.follows .mixedOrders=true
variable (u : Nat)
theorem FZ (g:Nat->Nat->CV):aD (CE 2) 2 A71 [.v (.ro false (.pr (.int .i64) (.pr (.int .i64) .nil)) 0 g)]=some []:=by kernel_rfl
theorem GR:cd Tryz.prog 71 A71:=di Tryz.func71 (by kernel_rfl) rfl (by kernel_rfl) rfl
theorem X4 (hmix:Tryz.prog.follows .mixedOrders=true) (n:Nat) (g:Nat->Nat->CV):sZ Tryz.prog 71 (.pr (.int .i64) (.pr (.int .i64) .nil)) n g [] (Gk n g):=by
 by_cases h:n<9223372036854775808
 ·by_cases h0:n=0
  ·subst h0
   exact CJ (fuel:=2) hmix (F7 2) GR rfl (by decide) rfl (fun _=>FZ g) (fun h=>absurd h (by omega))
  ·refine CJ (fuel:=n+1) hmix (F7 (n+1)) GR rfl (by decide) rfl (fun h=>absurd h h0) (fun _ hok=>?_)
   obtain ⟨f',h1,h2⟩:=Qr (n+1) n g (by omega) h (fun i j hi hj=>by
    have:=hok i j hi hj
    match j,hj with
    | 0,_=>exact this
    | 1,_=>exact this)
   exact ⟨n,f',(e52 (n+1) n g).trans h1,rkZ _,fun i j hi hj=>h2 i j hi hj⟩
 ·refine ⟨GR.ok,fun h0=>absurd h0 (by omega),fun _ w okA gb cap cur e vs _ _ _ _ _ h1 h2=>?_⟩
  have:maxLen=9223372036854775807:=rfl
  omega
theorem WI:cd Tryz.prog 54 (D2 79 3 (.pr (.int .i64) .nil) 8 [.c (.i .i64 0)]):=di Tryz.func54 (by kernel_rfl) rfl (by kernel_rfl) rfl
theorem XZ (hmix:Tryz.prog.follows .mixedOrders=true) (n:Nat) (g:Nat->Nat->CV) (fl:Bool) (h:n<=1073741824):aZ Tryz.prog 54 (.pr (.int .i64) .nil) [.v (.ro fl (.pr (.int .i64) .nil) n g)] n g:=by
 have hb:Nat.ble (0+n) 1073741824=true:=by rw [rlZ,Nat.ble_eq];exact h
 exact Ak (C:=CE 2) hmix (F7 2) WI rfl rfl Tryz.underlying79 n g fl (by kernel_rfl)
  ((show aS (CE 2) 2 (.seq (.cond (tm 4) (.seq (.region 2 [o1 2 (.assign (.const (.slice none 0 0)))] 0 none) [] (.ret (0::1::(rl 3 5 [])))) .skip) [2,3,4] (.seq (.region 3 [o1 5 (.buildSlice 0 79 3 (.pr (.int .i64) .nil) 0 [.c (.i .i64 0)] []),mv 6 0,o1 7 (.append 1 79 3 (.pr (.int .i64) .nil) 8 (tm 5) (tm 6)),o1 2 (.assign (tm 7))] 2 none) [] (.ret (0::1::(rl 3 5 []))))) ⟨[.x (.c (.ro fl (.pr (.int .i64) .nil) n g)),.undef,.x (.c (.ro true .nil 0 (fun _ _=>.any))),.x (.c (.ro fl (.pr (.int .i64) .nil) n g)),bl false,.undef,.undef,.undef],[]⟩ (Fy 2 (.pr (.int .i64) .nil))=bif Nat.ble (0+n) 1073741824 then some (0+n,aB 0 (aG 1 []) g) else none from by kernel_rfl).trans (by rw [hb];rfl))
theorem S0 (fuel:Nat) (hmix:Tryz.prog.follows .mixedOrders=true):az Tryz.prog (C0 fuel) where
 call:=fun f args res h=>by cases h
 turn:=fun f r n g rest g' h=>by
  obtain ⟨h1,h2⟩:=ah (show (bif _&&_ then some (Gk n g) else none)=some g' from h)
  cases h2
  simp only [qaZ,Bool.or_eq_true] at h1
  have e3:rest = []:=by simpa using h1.2
  have h1:=h1.1
  refine (fun hh=>?_:_->_) h1
  ·have e1:=qbZ hh.1
   have e2:=Kd.eq_of_beq hh.2
   subst e1;subst e2;subst e3
   exact X4 hmix n g
 fresh:=fun f r args n g h hn=>by
  unfold C0 at h
  dsimp only at h
  split at h
  ·obtain ⟨h1,h2⟩:=ah h
   cases h2
   simp only [qaZ,Bool.or_eq_true] at h1
   have h3:=h1.1
   refine (fun hh=>?_:_->_) h3
   ·have e1:=qbZ hh.1
    have e2:=Kd.eq_of_beq hh.2
    have e3:=Kd.eq_of_beq h1.2
    subst e1;subst e3;subst e2
    exact XZ hmix _ _ _ hn
  ·cases h
 cut:=fun f r n g rest m g' h _=>by
  have h:(none:Option (Nat × FF))=some (m,g'):=h
  cases h
 lend:=fun _ _ _ _ _ _ h=>by cases h
theorem S1 (h:hM):az Tryz.prog (C1 u):=(S0 u h).add (ab4 u h (S0 u h) (fo Tryz.func17))
theorem S2 (h:hM):az Tryz.prog (C2 u):=(S1 u h).add (ab0 u h (S1 u h) (fo Tryz.func7))
theorem S3 (h:hM):az Tryz.prog (C3 u):=(S2 u h).add (ab3 u h (S2 u h) (fo Tryz.func18))
theorem S4 (h:hM):az Tryz.prog (C4 u):=(S3 u h).add (ab2 u h (S3 u h) (fo Tryz.func19))
theorem S5 (h:hM):az Tryz.prog (C5 u):=(S4 u h).add (ab1 u h (S4 u h) (fo Tryz.func22))
theorem S6 (h:hM):az Tryz.prog (C6 u):=(S5 u h).add (d61 u h (S5 u h) (fo Tryz.func93))
theorem GQ:cd Tryz.prog 92 A92:=di Tryz.func92 (by kernel_rfl) rfl (by kernel_rfl) rfl
theorem S7 (h:hM):az Tryz.prog (C7 u):=(S6 u h).add (d73 u h (S6 u h) GQ)
theorem GS:cd Tryz.prog 69 A69:=di Tryz.func69 (by kernel_rfl) rfl (by kernel_rfl) rfl
theorem S8 (h:hM):az Tryz.prog (C8 u):=(S7 u h).add (d50 u h (S7 u h) GS)
theorem S9 (h:hM):az Tryz.prog (C9 u):=(S8 u h).add (d79 u h (S8 u h) (fo Tryz.func119))
theorem S10 (h:hM):az Tryz.prog (C10 u):=(S9 u h).add (d87 u h (S9 u h) (fo Tryz.func133))
theorem S11 (h:hM):az Tryz.prog (C11 u):=(S10 u h).add (d81 u h (S10 u h) (fo Tryz.func121))
theorem S12 (h:hM):az Tryz.prog (C12 u):=(S11 u h).add (d90 u h (S11 u h) (fo Tryz.func128))
theorem S13 (h:hM):az Tryz.prog (C13 u):=(S12 u h).add (d89 u h (S12 u h) (fo Tryz.func136))
theorem S14 (h:hM):az Tryz.prog (C14 u):=(S13 u h).add (d86 u h (S13 u h) (fo Tryz.func132))
theorem S15 (h:hM):az Tryz.prog (C15 u):=(S14 u h).add (d80 u h (S14 u h) (fo Tryz.func120))
theorem S16 (h:hM):az Tryz.prog (C16 u):=(S15 u h).add (d62 u h (S15 u h) (fo Tryz.func94))
theorem S17 (h:hM):az Tryz.prog (C17 u):=(S16 u h).add (d63 u h (S16 u h) (fo Tryz.func91))
theorem S18 (h:hM):az Tryz.prog (C18 u):=(S17 u h).add (d33 u h (S17 u h) (fo Tryz.func72))
theorem S19 (h:hM):az Tryz.prog (C19 u):=(S18 u h).add (d34 u h (S18 u h) (fo Tryz.func67))
theorem S20 (h:hM):az Tryz.prog (C20 u):=(S19 u h).add (d75 u h (S19 u h) (fo Tryz.func98))
theorem S21 (h:hM):az Tryz.prog (C21 u):=(S20 u h).add (d74 u h (S20 u h) (fo Tryz.func97))
theorem S22 (h:hM):az Tryz.prog (C22 u):=(S21 u h).add (d76 u h (S21 u h) (fo Tryz.func99))
theorem S23 (h:hM):az Tryz.prog (C23 u):=(S22 u h).add (d56 u h (S22 u h) (fo Tryz.func79))
theorem S24 (h:hM):az Tryz.prog (C24 u):=(S23 u h).add (d58 u h (S23 u h) (fo Tryz.func81))
theorem S25 (h:hM):az Tryz.prog (C25 u):=(S24 u h).add (d65 u h (S24 u h) (fo Tryz.func96))
theorem S26 (h:hM):az Tryz.prog (C26 u):=(S25 u h).add (d64 u h (S25 u h) (fo Tryz.func95))
theorem S27 (h:hM):az Tryz.prog (C27 u):=(S26 u h).add (abA u h (S26 u h) GQ)
theorem S28 (h:hM):az Tryz.prog (C28 u):=(S27 u h).add (abC u h (S27 u h) GS)
theorem S29 (h:hM):az Tryz.prog (C29 u):=(S28 u h).add (d35 u h (S28 u h) (fo Tryz.func73))
theorem S30 (h:hM):az Tryz.prog (C30 u):=(S29 u h).add (d36 u h (S29 u h) (fo Tryz.func74))
theorem S31 (h:hM):az Tryz.prog (C31 u):=(S30 u h).add (d13 u h (S30 u h) (fo Tryz.func46))
theorem S32 (h:hM):az Tryz.prog (C32 u):=(S31 u h).add (abZ u h (S31 u h) (fo Tryz.func23))
theorem U9 (h:hM) (r:Kd) (n:Nat) (g:FF) (rest:List A) (g' : FF) (hh:(bif r.beq (.pr (.int .i64) .nil)&&rest.isEmpty then Ct u n g else none)=some g'):sZ Tryz.prog 51 r n g rest g':=F8 Tryz.sortI rfl (G1 Tryz.func51 (by kernel_rfl) rfl) hh
theorem S33 (h:hM):az Tryz.prog (C33 u):=(S32 u h).addT (U9 u h)
theorem S34 (h:hM):az Tryz.prog (C34 u):=(S33 u h).add (d72 u h (S33 u h) (fo Tryz.func101))
theorem S35 (h:hM):az Tryz.prog (C35 u):=(S34 u h).add (d46 u h (S34 u h) (fo Tryz.func82))
theorem S36 (h:hM):az Tryz.prog (C36 u):=(S35 u h).add (d20 u h (S35 u h) (fo Tryz.func50))
theorem S37 (h:hM):az Tryz.prog (C37 u):=(S36 u h).add (abY u h (S36 u h) (fo Tryz.func20))
theorem S38 (h:hM):az Tryz.prog (C38 u):=(S37 u h).add (d49 u h (S37 u h) (fo Tryz.func68))
theorem S39 (h:hM):az Tryz.prog (C39 u):=(S38 u h).add (d42 u h (S38 u h) (fo Tryz.func66))
theorem S40 (h:hM):az Tryz.prog (C40 u):=(S39 u h).add (abz u h (S39 u h) GQ)
theorem S41 (h:hM):az Tryz.prog (C41 u):=(S40 u h).add (abB u h (S40 u h) GS)
theorem S42 (h:hM):az Tryz.prog (C42 u):=(S41 u h).add (d51 u h (S41 u h) (fo Tryz.func70))
theorem S43 (h:hM):az Tryz.prog (C43 u):=(S42 u h).add (d25 u h (S42 u h) (fo Tryz.func45))
theorem S44 (h:hM):az Tryz.prog (C44 u):=(S43 u h).add (abX u h (S43 u h) (fo Tryz.func25))
theorem S45 (h:hM):az Tryz.prog (C45 u):=(S44 u h).add (abW u h (S44 u h) (fo Tryz.func21))
theorem S46 (h:hM):az Tryz.prog (C46 u):=(S45 u h).add (abV u h (S45 u h) (fo Tryz.func24))
theorem S47 (h:hM):az Tryz.prog (C47 u):=(S46 u h).add (abU u h (S46 u h) (fo Tryz.func26))
theorem S48 (h:hM):az Tryz.prog (C48 u):=(S47 u h).add (abT u h (S47 u h) (fo Tryz.func10))
theorem S49 (h:hM):az Tryz.prog (C49 u):=(S48 u h).add (ab5 u h (S48 u h) (fo Tryz.func58))
theorem S50 (h:hM):az Tryz.prog (C50 u):=(S49 u h).add (abS u h (S49 u h) (fo Tryz.func34))
theorem S51 (h:hM):az Tryz.prog (C51 u):=(S50 u h).add (abR u h (S50 u h) (fo Tryz.func33))
theorem S52 (h:hM):az Tryz.prog (C52 u):=(S51 u h).add (acb u h (S51 u h) (fo Tryz.func65))
theorem S53 (h:hM):az Tryz.prog (C53 u):=(S52 u h).add (aca u h (S52 u h) (fo Tryz.func64))
theorem S54 (h:hM):az Tryz.prog (C54 u):=(S53 u h).add (ab9 u h (S53 u h) (fo Tryz.func43))
theorem S55 (h:hM):az Tryz.prog (C55 u):=(S54 u h).add (d18 u h (S54 u h) (fo Tryz.func44))
theorem S56 (h:hM):az Tryz.prog (C56 u):=(S55 u h).add (ab7 u h (S55 u h) (fo Tryz.func15))
theorem WJ:D9 Tryz.prog 12 A12:=Kw Tryz.func12 (by kernel_rfl) rfl (by kernel_rfl) rfl
theorem YP (h:hM):so Tryz.prog (AF.body A12):=(.intro trivial (.intro (.intro trivial trivial) (.intro trivial (.intro (.intro trivial trivial) (.intro (.intro trivial trivial) (.intro trivial (.intro (.intro (Wn h) (.intro trivial (.intro (.intro trivial trivial) (.intro (Oe h) (.intro (Oe h) (.intro trivial (.intro trivial (.intro trivial trivial)))))))) (.intro trivial trivial))))))))
theorem S57 (h:hM):az Tryz.prog (C57 u):=(S56 u h).add (abQ u h (S56 u h) (YP h) WJ)
theorem S58 (h:hM):az Tryz.prog (C58 u):=(S57 u h).add (abP u h (S57 u h) (fo Tryz.func9))
theorem S59 (h:hM):az Tryz.prog (C59 u):=(S58 u h).add (abO u h (S58 u h) (fo Tryz.func8))
theorem S60 (h:hM):az Tryz.prog (C60 u):=(S59 u h).add (ab8 u h (S59 u h) (fo Tryz.func38))
theorem S61 (h:hM):az Tryz.prog (C61 u):=(S60 u h).add (d69 u h (S60 u h) (fo Tryz.func116))
theorem S62 (h:hM):az Tryz.prog (C62 u):=(S61 u h).add (d66 u h (S61 u h) (fo Tryz.func113))
theorem S63 (h:hM):az Tryz.prog (C63 u):=(S62 u h).add (d71 u h (S62 u h) (fo Tryz.func118))
theorem S64 (h:hM):az Tryz.prog (C64 u):=(S63 u h).add (d70 u h (S63 u h) (fo Tryz.func117))
theorem S65 (h:hM):az Tryz.prog (C65 u):=(S64 u h).add (d88 u h (S64 u h) (fo Tryz.func135))
theorem S66 (h:hM):az Tryz.prog (C66 u):=(S65 u h).add (d82 u h (S65 u h) (fo Tryz.func129))
theorem S67 (h:hM):az Tryz.prog (C67 u):=(S66 u h).add (d67 u h (S66 u h) (fo Tryz.func114))
theorem S68 (h:hM):az Tryz.prog (C68 u):=(S67 u h).add (d37 u h (S67 u h) (fo Tryz.func85))
theorem S69 (h:hM):az Tryz.prog (C69 u):=(S68 u h).add (d38 u h (S68 u h) (fo Tryz.func86))
theorem S70 (h:hM):az Tryz.prog (C70 u):=(S69 u h).add (d84 u h (S69 u h) (fo Tryz.func131))
theorem S71 (h:hM):az Tryz.prog (C71 u):=(S70 u h).add (d83 u h (S70 u h) (fo Tryz.func130))
theorem S72 (h:hM):az Tryz.prog (C72 u):=(S71 u h).add (d68 u h (S71 u h) (fo Tryz.func115))
theorem S73 (h:hM):az Tryz.prog (C73 u):=(S72 u h).add (d39 u h (S72 u h) (fo Tryz.func87))
theorem S74 (h:hM):az Tryz.prog (C74 u):=(S73 u h).add (d40 u h (S73 u h) (fo Tryz.func88))
theorem S75 (h:hM):az Tryz.prog (C75 u):=(S74 u h).add (d14 u h (S74 u h) (fo Tryz.func52))
theorem S76 (h:hM):az Tryz.prog (C76 u):=(S75 u h).add (abK u h (S75 u h) (fo Tryz.func27))
theorem S77 (h:hM):az Tryz.prog (C77 u):=(S76 u h).add (d21 u h (S76 u h) (fo Tryz.func40))
theorem S78 (h:hM):az Tryz.prog (C78 u):=(S77 u h).add (abN u h (S77 u h) (fo Tryz.func39))
theorem S79 (h:hM):az Tryz.prog (C79 u):=(S78 u h).add (abM u h (S78 u h) (fo Tryz.func29))
theorem S80 (h:hM):az Tryz.prog (C80 u):=(S79 u h).add (d44 u h (S79 u h) (fo Tryz.func61))
theorem S81 (h:hM):az Tryz.prog (C81 u):=(S80 u h).add (d53 u h (S80 u h) (fo Tryz.func62))
theorem S82 (h:hM):az Tryz.prog (C82 u):=(S81 u h).add (d32 u h (S81 u h) (fo Tryz.func90))
theorem S83 (h:hM):az Tryz.prog (C83 u):=(S82 u h).add (d54 u h (S82 u h) (fo Tryz.func63))
theorem S84 (h:hM):az Tryz.prog (C84 u):=(S83 u h).add (d26 u h (S83 u h) (fo Tryz.func41))
theorem S85 (h:hM):az Tryz.prog (C85 u):=(S84 u h).add (abJ u h (S84 u h) (fo Tryz.func30))
theorem S86 (h:hM):az Tryz.prog (C86 u):=(S85 u h).add (abL u h (S85 u h) (fo Tryz.func42))
theorem BG:cd Tryz.prog 35 A35:=di Tryz.func35 (by kernel_rfl) rfl (by kernel_rfl) rfl
theorem S87 (h:hM):az Tryz.prog (C87 u):=(S86 u h).add (abH u h (S86 u h) BG)
theorem S88 (h:hM):az Tryz.prog (C88 u):=(S87 u h).add (YL u h (S87 u h) BG)
theorem S89 (h:hM):az Tryz.prog (C89 u):=(S88 u h).add (YK u h (S88 u h) BG)
theorem S90 (h:hM):az Tryz.prog (C90 u):=(S89 u h).add (YJ u h (S89 u h) BG)
theorem S91 (h:hM):az Tryz.prog (C91 u):=(S90 u h).add (YH u h (S90 u h) BG)
theorem S92 (h:hM):az Tryz.prog (C92 u):=(S91 u h).add (abG u h (S91 u h) (fo Tryz.func59))
theorem S93 (h:hM):az Tryz.prog (C93 u):=(S92 u h).add (abF u h (S92 u h) (fo Tryz.func36))
theorem S94 (h:hM):az Tryz.prog (C94 u):=(S93 u h).add (d19 u h (S93 u h) (fo Tryz.func60))
theorem S95 (h:hM):az Tryz.prog (C95 u):=(S94 u h).add (ab6 u h (S94 u h) (fo Tryz.func37))
theorem S96 (h:hM):az Tryz.prog (C96 u):=(S95 u h).add (abE u h (S95 u h) (fo Tryz.func13))
theorem S97 (h:hM):az Tryz.prog (C97 u):=(S96 u h).add (abI u h (S96 u h) (fo Tryz.func14))
theorem Yr:cd Tryz.prog 4 A4:=di Tryz.func4 (by kernel_rfl) rfl (by kernel_rfl) rfl
theorem w421 (hmix:Tryz.prog.follows .mixedOrders=true) {fuel:Nat} {args res:List A} (h:(O421 fuel).o args some=some res):Den Tryz.prog 4 args res:=abD fuel hmix (S97 fuel hmix) Yr args res h
end Go.Eng.R13
