/-
 The functions of the program,run on symbols;printed by decomp.py.
-/
import Derived.Test.YtkknnlhhchielaaGreatDoorEngS
import Derived.Test.YtkknnlhhchielaaGreatDoorEngX0
import Derived.Test.YtkknnlhhchielaaGreatDoorEngY
import Derived.Test.YtkknnlhhchielaaGreatDoorEngIt1
import Derived.Test.YtkknnlhhchielaaGreatDoorNsTurns
import Derived.Test.YtkknnlhhchielaaGreatDoorEngAn
import Derived.Test.YtkknnlhhchielaaGreatDoorProg
set_option linter.all false
set_option maxRecDepth 1000000
set_option maxHeartbeats 4000000
namespace Go.Eng.R13
open Go Go.RowKit Go.Eng
abbrev kA:Kd:=(.pr .str (.pr (.int .i64) (.pr (.int .i64) (.pr .str (.pr .str (.pr (.int .i64) (.pr (.sl kP) (.pr (.sl (.pr (.sl kP) .nil)) (.pr .str (.pr (.int .i64) (.pr (.int .i64) (.pr (.int .i64) (.pr (.int .i64) (.pr (.int .i64) (.pr (.int .i64) kV)))))))))))))))
abbrev kB:Kd:=(.pr .str (.pr (.int .i64) (.pr (.int .i64) (.pr (.int .i64) (.pr .bool .nil)))))
abbrev kC:Kd:=(.pr (.sl (.pr (.int .i64) .nil)) .nil)
abbrev kD:Kd:=(.pr (.int .i64) .nil)
abbrev kE:Kd:=(.pr (.int .i64) kV)
abbrev kF:Kd:=(.pr (.sl kP) .nil)
abbrev kG:Kd:=(.pr .str .nil)
abbrev uu:V:=.undef
abbrev ro:Kd->Nat->FF->CV:=CV.ro false
open Go.Proofs
variable {ρ σ : Type} (u m : Nat) (k : Ex -> St -> Option ρ) (ng : ρ -> Option σ) (n0 n1 n2 n3 n4 n5 n6 n7 : Nat) (f0 f1 f2 f3 f4 f5 f6 f7 : FF) (i0 i1 i2 i3 i4 i5 i6 i7 i8 i9 iA iB iC iD iE iF iG iH iI iJ iK iL iM : Int) (b0 b1 : Bool) (w0 w1 w2 w3 w4 w5 w6 w7 w8 w9 : ByteArray) (g0 g1 : Nat -> CV)
abbrev kR0:Kd:=(.pr .str (.pr (.int .i64) (.pr (.int .i64) (.pr .str (.pr .str (.pr (.int .i64) (.pr (.sl (.pr (.int .i64) (.pr (.int .i64) .nil))) (.pr (.sl (.pr (.sl (.pr (.int .i64) (.pr (.int .i64) .nil))) .nil)) (.pr .str (.pr (.int .i64) (.pr (.int .i64) (.pr (.int .i64) (.pr (.int .i64) (.pr (.int .i64) (.pr (.int .i64) (.pr (.int .i64) (.pr (.int .i64) (.pr (.int .i64) .nil))))))))))))))))))
abbrev kR1:Kd:=(.pr .str (.pr .str (.pr (.int .i64) (.pr (.int .i64) (.pr (.int .i64) (.pr .str (.pr (.sl (.pr .str (.pr (.int .i64) (.pr (.int .i64) (.pr .str (.pr .str (.pr (.int .i64) (.pr (.sl (.pr (.int .i64) (.pr (.int .i64) .nil))) (.pr (.sl (.pr (.sl (.pr (.int .i64) (.pr (.int .i64) .nil))) .nil)) (.pr .str (.pr (.int .i64) (.pr (.int .i64) (.pr (.int .i64) (.pr (.int .i64) (.pr (.int .i64) (.pr (.int .i64) (.pr (.int .i64) (.pr (.int .i64) (.pr (.int .i64) .nil))))))))))))))))))) (.pr (.int .i64) .nil))))))))
def C0 (u:Nat):ao:=⟨fun _ _ {_} _=>none,fun _ _ {_} _=>rfl,fun f r n g rest=>bif ((Nat.beq f 71&&r.beq kP))&&rest.isEmpty then some (Gk n g) else none,fun f r args=>match args with | [.v (.ro _ r1 n g)]=>bif ((Nat.beq f 54&&r.beq kD))&&r.beq r1 then some (n,g) else none | _=>none,fun f r n g rest=>bif (false)&&rest.isEmpty then some (acd n g,ace n g) else none,fun _ _ _ _ {_} _=>none,fun _ _ _ _ {_} _=>rfl⟩
def CE (u:Nat):ao:=⟨fun _ _ {_} _=>none,fun _ _ {_} _=>rfl,fun _ _ _ _ _=>none,fun _ _ _=>none,fun _ _ _ _ _=>none,fun _ _ _ _ {_} _=>none,fun _ _ _ _ {_} _=>rfl⟩
theorem F7 {P:Program}:az P (CE u):=⟨fun _ _ _ h=>(by cases h),fun _ _ _ _ _ _ h=>(by cases h),fun _ _ _ _ _ h=>(by cases h),fun _ _ _ _ _ _ _ h=>(by cases h),fun _ _ _ _ _ _ h=>(by cases h)⟩
def ZN:AC:=(.seq (.block 1
 (.region 3 [mv 14 0,mv 15 2,mv 16 0,mv 17 3,mv 18 0,mv 19 3,o1 20 (.indexAddr 49 42 2 (tm 18) (tm 19)),o1 21 (ln 42 2 20),mv 22 0,mv 23 2,o1 24 (.indexAddr 49 42 2 (tm 22) (tm 23)),o1 25 (ln 42 2 24),o1 26 (.indexAddr 49 42 2 (tm 14) (tm 15)),o0 (.store 42 2 (tm 26) (tm 21)),o1 27 (.indexAddr 49 42 2 (tm 16) (tm 17)),o0 (.store 42 2 (tm 27) (tm 25))] 0 (some [[],[],[],[],[],[],[4,5],[4,5,6],[],[],[8,9],[8,9,10],(0::1::(rl 4 8 [])),(0::1::(rl 4 9 [])),(rl 0 14 []),(rl 0 15 [])]))) []
 (.region 2 [mv 10 2,o1 11 (bk .add 3 10 1),mv 12 3,o1 13 (bk .sub 3 12 1),o1 2 (sg 11),o1 3 (sg 13)] 0 none))
def PK:AC:=(.seq (.seq (.region 1 [mv 7 2,mv 8 3,o1 9 (bt .lss 3 7 8)] 0 none) []
 (.cond (tm 9)
 .skip
 (.exit 0 (rl 0 28 [])))) [7,8,9]
 ZN)
def A71:AF:=⟨28,[],
 (.seq (.region 0 [mv 4 0,o1 5 (.len 49 false (tm 4)),o1 6 (bk .sub 3 5 1),o1 2 (sk 0),o1 3 (sg 6)] 0 none) []
 (.block 0
 (.loop [] (1::(rl 4 24 []))
  PK)))⟩
def Ty:St->Option St:=nN 1 (1::(rl 4 24 []))
def RQ:St:=⟨(.x (.own 0 0 n0)::.u::vxi i0::vxi i1::(us 24 [])),[.arr (.pr (.int .i64) (.pr (.int .i64) .bool)) n0 f0]⟩
def Xy:St:=⟨(us 28 []),[.arr (.pr (.int .i64) (.pr (.int .i64) .bool)) n0 f0]⟩
def vg {ρ:Type} (u:Nat) (x0:Nat):Nat->Int->Int->FF->(FF->Option ρ)->Option ρ
 | 0,_,_,_,_=>none
 | m+1,x1,x2,x3,k0 =>
  (bif (decide (x1<x2)) then (bif (inb x2 x0) then (bif (inb x1 x0) then (bif (inb x1 x0) then (bif (inb x2 x0) then (vg u x0 m (w64 (x1+1)) (w64 (x2-1)) (cm (cm x3 (0+x1.toNat) 0 2 (au [(.i .i64 (x3 (0+x2.toNat) 0).int),(.i .i64 (x3 (0+x2.toNat) 1).int)])) (0+x2.toNat) 0 2 (au [(.i .i64 (x3 (0+x1.toNat) 0).int),(.i .i64 (x3 (0+x1.toNat) 1).int)])) k0) else none) else none) else none) else none) else (k0 x3))
theorem Ny:∀ (m:Nat) (x0 x1:Int) (x2:FF) (k0:FF->Option ρ),ob (vg u n0 m x0 x1 x2 k0) ng=vg u n0 m x0 x1 x2 (fun x3=>ob (k0 x3) ng)
 | 0,_,_,_,_=>rfl
 | m+1,x0,x1,x2,k0=>by
  simp only [vg,ak,aw,af,Ny m]
theorem SF:∀ (m:Nat) (x0 x1:Int) (x2:FF),
  am (eB PK (CE u) u) Ty m (RQ n0 x2 x0 x1) k=vg u n0 m x0 x1 x2 (fun x3=>k (.exit 0) (Xy n0 x3))
 | 0,_,_,_=>rfl
 | m+1,x0,x1,x2=>by
  simp only [vg,<- SF m]
  kernel_rfl
def D52 (x0:Nat) (x1:FF) (k:(Nat × FF)->Option ρ):Option ρ :=
 (vg u x0 u 0 (w64 ((Int.ofNat x0)-1)) x1
  (fun x2=>(k (x0,x2))))
def F52 (x0:Nat) (x1:FF):Option (Nat × FF):=D52 u x0 x1 some
theorem n52 {ρ σ:Type} (x0:Nat) (x1:FF) (k:(Nat × FF)->Option ρ) (g:ρ->Option σ):ob (D52 u x0 x1 k) g=D52 u x0 x1 fun t=>ob (k t) g:=by
 simp only [D52,ak,aw,af,Ny]
theorem f52 (x0:Nat) (x1:FF) (k:(Nat × FF)->Option ρ):D52 u x0 x1 k=ob (F52 u x0 x1) k:=by
 unfold F52
 rw [n52]
 simp only [aa]
theorem UZ (x0:Nat) (x1:FF) :
  FA (CE u) u A71 kP x0 x1 [] =
  (am (eB PK (CE u) u) Ty u (RQ x0 x1 0 (w64 ((Int.ofNat x0)-1))) (aA 0 (DW (Kd.mark kP)))):=by kernel_rfl
theorem e52:FA (CE u) u A71 kP n0 f0 []=F52 u n0 f0:=by
 rw [UZ]
 simp only [F52,D52,SF]<;>kernel_rfl
def tyT:Nat->TI
 | 3=>.i .i64
 | 4=>.b
 | 9=>.s
 | 22=>.r [9,9,3,3,3,9]
 | 23=>.n 22
 | 24=>.l 58
 | 28=>.l 44
 | 29=>.r [9,3,28]
 | 30=>.n 29
 | 33=>.r [23,24,3]
 | 34=>.n 33
 | 35=>.n 3
 | 41=>.r [3,3]
 | 42=>.n 41
 | 43=>.r [9,42,3,4]
 | 44=>.n 43
 | 49=>.l 42
 | 50=>.l 49
 | 51=>.r [49,50]
 | 52=>.n 51
 | 53=>.r [3,3,3]
 | 54=>.n 53
 | 55=>.r [54,3]
 | 56=>.n 55
 | 57=>.r [9,3,3,9,9,3,52,9,3,3,54,56]
 | 58=>.n 57
 | 65=>.l 72
 | 71=>.r [42,42]
 | 72=>.n 71
 | 79=>.l 3
 | 84=>.l 79
 | 100=>.a 4 3
 | _=>.o 1
def byT:Nat->Nat
 | 3=>8
 | 42=>16
 | 44=>48
 | 49=>24
 | 58=>208
 | 72=>32
 | 79=>24
 | _=>8
def fcT:Nat->Fc
 | 10=>.freeze
 | 12=>.freeze
 | 13=>.freeze
 | 19=>.freeze
 | 23=>.freeze
 | 27=>.freeze
 | 35=>.freeze
 | 41=>.freeze
 | 43=>.freeze
 | 45=>.freeze
 | 51=>.turn
 | 61=>.freeze
 | 63=>.freeze
 | 66=>.freeze
 | 71=>.turn
 | _=>.snap
def tT:Tab:=⟨tyT,byT,fcT,false⟩
def B17:An tT Tryz.f17 [.k (2::(rl 4 36 [])),.k (0::1::(rl 3 53 [])),.k (2::3::(rl 40 16 [])),.h [],.k (0::2::(rl 4 52 [])),.k (rl 40 6 []),.k (rl 0 56 []),.k (2::(rl 48 8 [])),.k (0::1::(rl 3 53 [])),.k (0::1::(rl 3 53 []))]:=by
 apply Subtype.mk;cbv<;>exact rfl
def A17:AF:=B17.1
def UL:AC:=sA A17.body [1,1]
def aan:AC:=sA UL [1]
def UM:AC:=sA UL [0,1,0,0]
def Ph:St->Option St:=nN 1 (0::2::(rl 4 52 []))
def L8:St:=⟨(.u::.x (.ptr 0 0)::.u::vxi i0::(us 52 [])),[.box (pjc kR0 g0)]⟩
def VA:St:=⟨(.u::.u::vxb false::(us 53 [])),[.box (pjc kR0 g0)]⟩
def Vz:St:=⟨(us 56 []),[.box (pjc kR0 g0)]⟩
def mf {ρ:Type} (u:Nat) (x0:Nat->CV):Nat->Int->(Option ρ)->(Option ρ)->Option ρ
 | 0,_,_,_=>none
 | m+1,x1,k0,k1 =>
  (bif (decide (x1<(Int.ofNat (x0 7).len))) then (bif (inb x1 (x0 7).len) then (bif (decide ((Int.ofNat ((x0 7).el x1.toNat 0).len)>40)) then k0 else (mf u x0 m (w64 (x1+1)) k0 k1)) else none) else k1)
theorem IR:∀ (m:Nat) (x0:Int) (k0:Option ρ) (k1:Option ρ),ob (mf u g0 m x0 k0 k1) ng=mf u g0 m x0 (ob k0 ng) (ob k1 ng)
 | 0,_,_,_=>rfl
 | m+1,x0,k0,k1=>by
  simp only [mf,ak,aw,af,IR m]
theorem MN:∀ (m:Nat) (x0:Int),
  am (eB UM (C0 u) u) Ph m (L8 x0 g0) k=mf u g0 m x0 (k .ret (VA g0)) (k (.exit 0) (Vz g0))
 | 0,_=>rfl
 | m+1,x0=>by
  simp only [mf,<- MN m]
  kernel_rfl
def Hg (x0:Nat->CV):Option (Bool) :=
 (bif ((decide ((Int.ofNat (ByteArray.size (x0 0).str))>200))==false) then (bif ((decide ((Int.ofNat (ByteArray.size (x0 3).str))>200))==false) then (bif ((decide ((Int.ofNat (ByteArray.size (x0 4).str))>200))==false) then (bif ((decide ((Int.ofNat (ByteArray.size (x0 8).str))>200))==false) then (bif ((decide ((Int.ofNat (x0 6).len)>40))==false) then (bif (decide ((Int.ofNat (x0 7).len)>12)) then (some false) else (mf u x0 u 0
  (some false)
  (some true))) else (some false)) else (some false)) else (some false)) else (some false)) else (some false))
theorem abr:aD (C0 u) u A17 [.agg (pj kR0 g0)]=ob (Hg u g0) fun t=>some [.v (.b t)]:=Eq.trans (b:=(bif ((decide ((Int.ofNat (ByteArray.size (g0 0).str))>200))==false) then (bif ((decide ((Int.ofNat (ByteArray.size (g0 3).str))>200))==false) then (bif ((decide ((Int.ofNat (ByteArray.size (g0 4).str))>200))==false) then (bif ((decide ((Int.ofNat (ByteArray.size (g0 8).str))>200))==false) then (bif ((decide ((Int.ofNat (g0 6).len)>40))==false) then (bif (decide ((Int.ofNat (g0 7).len)>12)) then (some [.v (.b false)]) else (am (eB UM (C0 u) u) Ph u (L8 0 g0) (aA 0 (aI (C0 u) u (2::3::(rl 40 16 [])) aan (aH A17))))) else (some [.v (.b false)])) else (some [.v (.b false)])) else (some [.v (.b false)])) else (some [.v (.b false)])) else (some [.v (.b false)]))) (by kernel_rfl) (by
 simp only [Hg,ak,aw,af,aa,IR,MN]<;>kernel_rfl)
def Zk:Ora:=mkO (q1 (ar kR0)) (fun x=>Hg u x) fun t=>[.v (.b t)]
theorem ab4:DO (Zk u) (C0 u) 17 A17:=dO u (fun x=>by exact abr u x)
def C1:ao:=(C0 u).add 17 (fun _=>true) (Zk u)
def B7:An tT Tryz.f7 [.k (4::(rl 7 4 [])),.k (rl 0 4 (rl 5 60 [])),.k (4::5::6::(rl 11 54 [])),.h [],.k (rl 1 4 (rl 6 59 [])),.k (rl 11 4 []),.k (rl 0 65 []),.k (4::6::(rl 17 48 [])),.k (4::(rl 17 26 [])),.k (rl 0 4 (rl 5 60 [])),.h [],.k (rl 1 4 (rl 7 58 [])),.k (rl 43 9 []),.k (rl 1 4 (rl 6 59 [])),.k (4::(rl 54 11 [])),.k (rl 0 4 (rl 5 60 [])),.k (rl 0 4 (rl 5 60 []))]:=by
 apply Subtype.mk;cbv<;>exact rfl
def A7:AF:=B7.1
def ZJ:AC:=sA A7.body [1,1]
def acB:AC:=sA ZJ [1]
def Hj:AC:=sA ZJ [0,1,0,0]
def ZK:AC:=sA Hj [1]
def ZL:AC:=sA ZK [1]
def acC:AC:=sA ZK [0,0,1]
def ZM:AC:=sA acC [1,0,0]
def Pg:St->Option St:=nN 0 (rl 1 4 (rl 7 58 []))
def L7:St:=⟨(.x (.c (ro kA n0 f0))::(us 4 (vxi i0::vxi i1::(us 58 [])))),[]⟩
def Bd:St:=⟨(us 4 (vxb false::(us 60 []))),[]⟩
def L6:St:=⟨(.x (.c (ro kA n0 f0))::(us 4 (vxi i0::(us 59 [])))),[]⟩
def me {ρ:Type} (u:Nat) (x0:Nat) (x1:FF) (x2:Int):Nat->Int->(Option ρ)->(Option ρ)->Option ρ
 | 0,_,_,_=>none
 | m+1,x3,k0,k1 =>
  (bif (inb x2 x0) then (bif (decide (x3<(Int.ofNat (x1 x2.toNat 7).len))) then (bif (inb x2 x0) then (bif (inb x3 (x1 x2.toNat 7).len) then (bif (decide ((Int.ofNat ((x1 x2.toNat 7).el x3.toNat 0).len)>12)) then k0 else (me u x0 x1 x2 m (w64 (x3+1)) k0 k1)) else none) else none) else k1) else none)
theorem IQ:∀ (m:Nat) (x0:Int) (k0:Option ρ) (k1:Option ρ),ob (me u n0 f0 i0 m x0 k0 k1) ng=me u n0 f0 i0 m x0 (ob k0 ng) (ob k1 ng)
 | 0,_,_,_=>rfl
 | m+1,x0,k0,k1=>by
  simp only [me,ak,aw,af,IQ m]
theorem MM:∀ (m:Nat) (x0:Int),
  am (eB ZM (C1 u) u) Pg m (L7 n0 f0 i0 x0) k=me u n0 f0 i0 m x0 (k .ret Bd) (k (.exit 2) (L6 n0 f0 i0))
 | 0,_=>rfl
 | m+1,x0=>by
  simp only [me,<- MM m]
  kernel_rfl
def vS:St->Option St:=nN 0 (rl 1 4 (rl 6 59 []))
def DC:St:=⟨(.x (.c (ro kA n0 f0))::(us 4 (vxi i0::(us 59 [])))),[]⟩
def L5:St:=⟨(us 65 []),[]⟩
def lF {ρ:Type} (u:Nat) (x0:Nat) (x1:FF):Nat->Int->(Option ρ)->(Option ρ)->Option ρ
 | 0,_,_,_=>none
 | m+1,x2,k0,k1 =>
  (bif (decide (x2<(Int.ofNat x0))) then (bif (inb x2 x0) then (ob (Hg u (au (pj kR0 (x1 x2.toNat)))) fun x3=>(bif ((!x3)==false) then (bif (inb x2 x0) then (bif ((decide ((Int.ofNat (x1 x2.toNat 6).len)>12))==false) then (bif (inb x2 x0) then (bif (decide ((Int.ofNat (x1 x2.toNat 7).len)>4)) then k0 else (me u x0 x1 x2 u 0
  k0
  (lF u x0 x1 m (w64 (x2+1)) k0 k1))) else none) else k0) else none) else k0)) else none) else k1)
theorem IP:∀ (m:Nat) (x0:Int) (k0:Option ρ) (k1:Option ρ),ob (lF u n0 f0 m x0 k0 k1) ng=lF u n0 f0 m x0 (ob k0 ng) (ob k1 ng)
 | 0,_,_,_=>rfl
 | m+1,x0,k0,k1=>by
  simp only [lF,ak,aw,af,IP m,IQ]
theorem VT :
  am (eB Hj (C1 u) u) vS (m+1) (DC n0 f0 i0) k =
  (bif (decide (i0<(Int.ofNat n0))) then (bif (inb i0 n0) then (ob (Hg u (au (pj kR0 (f0 i0.toNat)))) fun x0=>(bif ((!x0)==false) then (bif (inb i0 n0) then (bif ((decide ((Int.ofNat (f0 i0.toNat 6).len)>12))==false) then (bif (inb i0 n0) then (bif (decide ((Int.ofNat (f0 i0.toNat 7).len)>4)) then (k .ret Bd) else (am (eB ZM (C1 u) u) Pg u (L7 n0 f0 i0 0) (aA 2 (aA 1 (aI (C1 u) u (4::6::(rl 17 48 [])) ZL (aN (eB Hj (C1 u) u) vS m k)))))) else none) else (k .ret Bd)) else none) else (k .ret Bd))) else none) else (k (.exit 0) L5)):=by kernel_rfl
theorem WH :
  (aA 2 (aA 1 (aI (C1 u) u (4::6::(rl 17 48 [])) ZL (aN (eB Hj (C1 u) u) vS m k)))) (.exit 2) (L6 n0 f0 i0) =
  (am (eB Hj (C1 u) u) vS m (DC n0 f0 (w64 (i0+1))) k):=by kernel_rfl
theorem ML:∀ (m:Nat) (x0:Int),
  am (eB Hj (C1 u) u) vS m (DC n0 f0 x0) k=lF u n0 f0 m x0 (k .ret Bd) (k (.exit 0) L5)
 | 0,_=>rfl
 | m+1,x0=>by
  rw [VT]
  simp only [lF,ML m,MM,WH]<;>kernel_rfl
def He (x0:Nat) (x1:FF) (x2:Int):Option (Bool) :=
 (bif (decide ((Int.ofNat x0)>x2)) then (some false) else (lF u x0 x1 u 0
  (some false)
  (some true)))
theorem abn:aD (C1 u) u A7 [.v (ro kA n0 f0),.v (vi i0)]=ob (He u n0 f0 i0) fun t=>some [.v (.b t)]:=Eq.trans (b:=(bif (decide ((Int.ofNat n0)>i0)) then (some [.v (.b false)]) else (am (eB Hj (C1 u) u) vS u (DC n0 f0 0) (aA 0 (aI (C1 u) u (4::5::6::(rl 11 54 [])) acB (aH A7)))))) (by kernel_rfl) (by
 simp only [He,ak,aw,af,aa,IP,ML]<;>kernel_rfl)
def Zg:Ora:=mkO (qc (av (cL kA)) (q1 (av ci))) (fun x=>He u x.1.1 x.1.2 x.2) fun t=>[.v (.b t)]
theorem ab0:DO (Zg u) (C1 u) 7 A7:=dO u (fun x=>by exact abn u x.1.1 x.1.2 x.2)
def C2:ao:=(C1 u).add 7 (fun _=>true) (Zg u)
def B18:An tT Tryz.f18 [.k (rl 0 4 [5,6,7])]:=by
 apply Subtype.mk;cbv<;>exact rfl
def A18:AF:=B18.1
def Hf (u:Nat) (x0 x1:Int):Option (ByteArray × ByteArray × Int × Int × Int × ByteArray) :=
 (some ((ByteArray.mk #[83,49]),(ByteArray.mk #[65]),10,x0,x1,ByteArray.empty))
theorem abq:aD (C2 u) u A18 [.v (vi i0),.v (vi i1)]=ob (Hf u i0 i1) fun t=>some [.agg [(.s t.1),(.s t.2.1),(vi t.2.2.1),(vi t.2.2.2.1),(vi t.2.2.2.2.1),(.s t.2.2.2.2.2)]]:=by
 simp only [Hf,ak,aw,af,aa]
 kernel_rfl
def Zj:Ora:=mkO (qc (av ci) (q1 (av ci))) (fun x=>Hf u x.1 x.2) fun t=>[.agg [(.s t.1),(.s t.2.1),(vi t.2.2.1),(vi t.2.2.2.1),(vi t.2.2.2.2.1),(.s t.2.2.2.2.2)]]
theorem ab3:DO (Zj u) (C2 u) 18 A18:=dO u (fun x=>by exact abq u x.1 x.2)
def C3:ao:=(C2 u).add 18 (fun _=>true) (Zj u)
def B19:An tT Tryz.f19 [.k (rl 0 6 (rl 7 12 []))]:=by
 apply Subtype.mk;cbv<;>exact rfl
def A19:AF:=B19.1
def Cu (u:Nat) (x0:ByteArray) (x1 x2:Int):Option (ByteArray × Int × Int × ByteArray × ByteArray × Int × Nat × FF × Nat × FF × ByteArray × Int × Int × Int × Int × Int × Int × Int × Int × Int) :=
 (some (x0,1,1,(ByteArray.mk #[66,49]),(ByteArray.mk #[65]),10,4,(aG 2 [(.i .i64 0),(.i .i64 0),(.i .i64 x1),(.i .i64 0),(.i .i64 x1),(.i .i64 x2),(.i .i64 0),(.i .i64 x2)]),0,(fun _ _=>.any),ByteArray.empty,0,0,0,0,0,0,0,0,0))
theorem abp:aD (C3 u) u A19 [.v (.s w0),.v (vi i0),.v (vi i1)]=ob (Cu u w0 i0 i1) fun t=>some [.agg [(.s t.1),(vi t.2.1),(vi t.2.2.1),(.s t.2.2.2.1),(.s t.2.2.2.2.1),(vi t.2.2.2.2.2.1),(ro kP t.2.2.2.2.2.2.1 t.2.2.2.2.2.2.2.1),(.ro true kF (p8 t).1 (p8 t).2.1),(.s (p8 t).2.2.1),(vi (p8 t).2.2.2.1),(vi (p8 t).2.2.2.2.1),(vi (p8 t).2.2.2.2.2.1),(vi (p8 t).2.2.2.2.2.2.1),(vi (p8 t).2.2.2.2.2.2.2.1),(vi (pG t).1),(vi (pG t).2.1),(vi (pG t).2.2.1),(vi (pG t).2.2.2)]]:=by
 simp only [Cu,ak,aw,af,aa]
 kernel_rfl
def Zi:Ora:=mkO (qc (av cS) (qc (av ci) (q1 (av ci)))) (fun x=>Cu u x.1 x.2.1 x.2.2) fun t=>[.agg [(.s t.1),(vi t.2.1),(vi t.2.2.1),(.s t.2.2.2.1),(.s t.2.2.2.2.1),(vi t.2.2.2.2.2.1),(ro kP t.2.2.2.2.2.2.1 t.2.2.2.2.2.2.2.1),(ro kF (p8 t).1 (p8 t).2.1),(.s (p8 t).2.2.1),(vi (p8 t).2.2.2.1),(vi (p8 t).2.2.2.2.1),(vi (p8 t).2.2.2.2.2.1),(vi (p8 t).2.2.2.2.2.2.1),(vi (p8 t).2.2.2.2.2.2.2.1),(vi (pG t).1),(vi (pG t).2.1),(vi (pG t).2.2.1),(vi (pG t).2.2.2)]]
theorem ab2:DO (Zi u) (C3 u) 19 A19:=dN u (fun x=>by exact abp u x.2.1 x.2.2 x.1) fun t=>(.cons (WkA.agg (.cons (Wk.refl _) (.cons (Wk.refl _) (.cons (Wk.refl _) (.cons (Wk.refl _) (.cons (Wk.refl _) (.cons (Wk.refl _) (.cons (Wk.refl _) (.cons (Wk.ro (by rfl)) (.cons (Wk.refl _) (.cons (Wk.refl _) (.cons (Wk.refl _) (.cons (Wk.refl _) (.cons (Wk.refl _) (.cons (Wk.refl _) (.cons (Wk.refl _) (.cons (Wk.refl _) (.cons (Wk.refl _) (.cons (Wk.refl _) .nil))))))))))))))))))) .nil)
def C4:ao:=(C3 u).add 19 (fun _=>true) (Zi u)
def B22:An tT Tryz.f22 [.k (rl 0 6 (rl 7 8 []))]:=by
 apply Subtype.mk;cbv<;>exact rfl
def A22:AF:=B22.1
def d8 (u:Nat) (x0 x1 x2:Int):Option (Bool) :=
 (bif ((decide (x0>=x1))==true) then (some (decide (x0<=x2))) else (some false))
theorem abo:aD (C4 u) u A22 [.v (vi i0),.v (vi i1),.v (vi i2)]=ob (d8 u i0 i1 i2) fun t=>some [.v (.b t)]:=by
 simp only [d8,ak,aw,af,aa]
 kernel_rfl
def Zh:Ora:=mkO (qc (av ci) (qc (av ci) (q1 (av ci)))) (fun x=>d8 u x.1 x.2.1 x.2.2) fun t=>[.v (.b t)]
theorem ab1:DO (Zh u) (C4 u) 22 A22:=dO u (fun x=>by exact abo u x.1 x.2.1 x.2.2)
def C5:ao:=(C4 u).add 22 (fun _=>true) (Zh u)
def B93:An tT Tryz.f93 [.k (0::1::(rl 3 18 []))]:=by
 apply Subtype.mk;cbv<;>exact rfl
def A93:AF:=B93.1
def F61 (u:Nat) (x0 x1:Int):Option (Bool) :=
 (bif ((decide (x0<(-32768)))==false) then (bif ((decide (x0>32768))==false) then (bif ((decide (x1<(-32768)))==false) then (some (decide (x1>32768))) else (some true)) else (some true)) else (some true))
theorem e61:aD (C5 u) u A93 [.agg [(vi i0),(vi i1)]]=ob (F61 u i0 i1) fun t=>some [.v (.b t)]:=by
 simp only [F61,ak,aw,af,aa]
 kernel_rfl
def O61:Ora:=mkO (q1 (ag (tc ci (t1 ci)))) (fun x=>F61 u x.1 x.2) fun t=>[.v (.b t)]
theorem d61:DO (O61 u) (C5 u) 93 A93:=dO u (fun x=>by exact e61 u x.1 x.2)
def C6:ao:=(C5 u).add 93 (fun _=>true) (O61 u)
def ZA:AC:=(.region 6 [o1 18 (bk .add 3 8 1),mv 8 18] 0 none)
def Zz:AC:=(.seq (.block 1
 (.seq (.region 3 [mv 10 8,o1 5 (sg 10)] 0 none) []
  (.seq (.region 4 [mv 11 1,mv 12 0,mv 13 5,o1 14 (.indexAddr 49 42 2 (tm 12) (tm 13)),o1 15 (ln 42 2 14),o1 16 (.callv (tm 11) [(tm 15)] [42] .snap)] 0 none) []
  (.cond (tm 16)
  (.seq (.region 5 [mv 17 5,o1 4 (sg 17)] 0 none) []
   (.ret (rl 0 4 (rl 5 14 []))))
  .skip)))) (4::5::(rl 10 8 []))
 ZA)
def BZ:AC:=(.seq (.region 2 [o1 9 (bt .lss 3 8 7)] 0 none) []
 (.seq (.cond (tm 9)
 .skip
 (.exit 0 (rl 0 19 []))) []
 Zz))
def Jw:AC:=(.seq (.region 7 [o1 4 (sk (-1))] 0 none) []
 (.ret (rl 0 4 (rl 5 14 []))))
def A92:AF:=⟨19,[.tmp 4],
 (.seq (.region 0 [o1 4 (sk 0)] 0 none) []
 (.seq (.seq (.region 1 [mv 6 0,o1 7 (.len 49 false (tm 6)),o1 8 (.move (ic 0))] 0 none) []
 (.block 0
 (.loop [] (rl 2 5 (rl 9 10 []))
  BZ))) (rl 4 15 [])
 Jw))⟩
def Tp:St->Option St:=nN 0 (rl 2 5 (rl 9 10 []))
def Rw:St:=⟨(.x (.c (ro kP n0 f0))::.x (.c (.fn 93 0 (au [])))::(us 5 (vxi i0::vxi i1::(us 10 [])))),[]⟩
def Xm:St:=⟨(us 4 (vxi i0::(us 14 []))),[]⟩
def Xl:St:=⟨(us 19 []),[]⟩
def va {ρ:Type} (u:Nat) (x0:Nat) (x1:FF) (x2:Int):Nat->Int->(Int->Option ρ)->(Option ρ)->Option ρ
 | 0,_,_,_=>none
 | m+1,x3,k0,k1 =>
  (bif (decide (x3<x2)) then (bif (inb x3 x0) then (ob (F61 u (x1 x3.toNat 0).int (x1 x3.toNat 1).int) fun x4=>(bif x4 then (k0 x3) else (va u x0 x1 x2 m (w64 (x3+1)) k0 k1))) else none) else k1)
theorem Nj:∀ (m:Nat) (x0:Int) (k0:Int->Option ρ) (k1:Option ρ),ob (va u n0 f0 i0 m x0 k0 k1) ng=va u n0 f0 i0 m x0 (fun x1=>ob (k0 x1) ng) (ob k1 ng)
 | 0,_,_,_=>rfl
 | m+1,x0,k0,k1=>by
  simp only [va,ak,aw,af,Nj m]
theorem Sq:∀ (m:Nat) (x0:Int),
  am (eB BZ (C6 u) u) Tp m (Rw n0 f0 i0 x0) k=va u n0 f0 i0 m x0 (fun x1=>k .ret (Xm x1)) (k (.exit 0) Xl)
 | 0,_=>rfl
 | m+1,x0=>by
  simp only [va,<- Sq m]
  kernel_rfl
def F73 (x0:Nat) (x1:FF):Option (Int) :=
 (va u x0 x1 (Int.ofNat x0) u 0
  (fun x2=>(some x2))
  (some (-1)))
theorem e73:aD (C6 u) u A92 [.v (ro kP n0 f0),.v (.fn 93 0 (au []))]=ob (F73 u n0 f0) fun t=>some [.v (vi t)]:=Eq.trans (b:=(am (eB BZ (C6 u) u) Tp u (Rw n0 f0 (Int.ofNat n0) 0) (aA 0 (aI (C6 u) u (rl 4 15 []) Jw (aH A92))))) (by kernel_rfl) (by
 simp only [F73,ak,aw,af,aa,Nj,Sq]<;>kernel_rfl)
def O73:Ora:=mkO (qc (av (cL kP)) (q1 (av (cF 93 0 t0)))) (fun x=>F73 u x.1.1 x.1.2) fun t=>[.v (vi t)]
theorem d73:DO (O73 u) (C6 u) 92 A92:=dO u (fun x=>by exact e73 u x.1.1 x.1.2)
def C7:ao:=(C6 u).add 92 (fun l=>Fm 93 l 1) (O73 u)
def B69:An tT Tryz.f69 [.k (rl 0 4 (rl 5 4 []))]:=by
 apply Subtype.mk;cbv<;>exact rfl
def A69:AF:=B69.1
def F50 (x0:Nat) (x1:FF):Option (Bool) :=
 (ob (F73 u x0 x1) fun x2=>(some (decide (x2>=0))))
theorem e50:aD (C7 u) u A69 [.v (ro kP n0 f0),.v (.fn 93 0 (au []))]=ob (F50 u n0 f0) fun t=>some [.v (.b t)]:=by
 simp only [F50,ak,aw,af,aa]
 kernel_rfl
def O50:Ora:=mkO (qc (av (cL kP)) (q1 (av (cF 93 0 t0)))) (fun x=>F50 u x.1.1 x.1.2) fun t=>[.v (.b t)]
theorem d50:DO (O50 u) (C7 u) 69 A69:=dO u (fun x=>by exact e50 u x.1.1 x.1.2)
def C8:ao:=(C7 u).add 69 (fun l=>Fm 93 l 1) (O50 u)
def acs:An tT Tryz.f119 [.k (rl 0 6 (rl 7 23 []))]:=by
 apply Subtype.mk;cbv<;>exact rfl
def aaH:AF:=acs.1
def F79 (u:Nat) (x0 x1 x2 x3 x4 x5:Int):Option (Int) :=
 (some (w64 ((w64 ((w64 (x2-x0))*(w64 (x5-x1))))-(w64 ((w64 (x3-x1))*(w64 (x4-x0)))))))
theorem e79:aD (C8 u) u aaH [.agg [(vi i0),(vi i1)],.agg [(vi i2),(vi i3)],.agg [(vi i4),(vi i5)]]=ob (F79 u i0 i1 i2 i3 i4 i5) fun t=>some [.v (vi t)]:=by
 simp only [F79,ak,aw,af,aa]
 kernel_rfl
def O79:Ora:=mkO (qc (ag (tc ci (t1 ci))) (qc (ag (tc ci (t1 ci))) (q1 (ag (tc ci (t1 ci)))))) (fun x=>F79 u x.1.1 x.1.2 x.2.1.1 x.2.1.2 x.2.2.1 x.2.2.2) fun t=>[.v (vi t)]
theorem d79:DO (O79 u) (C8 u) 119 aaH:=dO u (fun x=>by exact e79 u x.1.1 x.1.2 x.2.1.1 x.2.1.2 x.2.2.1 x.2.2.2)
def C9:ao:=(C8 u).add 119 (fun _=>true) (O79 u)
def ack:An tT Tryz.f133 [.k (rl 0 6 (rl 7 38 []))]:=by
 apply Subtype.mk;cbv<;>exact rfl
def aaw:AF:=ack.1
def F87 (u:Nat) (x0 x1 x2 x3 x4 x5:Int):Option (Bool) :=
 (bif ((decide ((if x2<x0 then x2 else x0)<=x4))==true) then (bif ((decide (x4<=(if x2>x0 then x2 else x0)))==true) then (bif ((decide ((if x3<x1 then x3 else x1)<=x5))==true) then (some (decide (x5<=(if x3>x1 then x3 else x1)))) else (some false)) else (some false)) else (some false))
theorem e87:aD (C9 u) u aaw [.agg [(vi i0),(vi i1)],.agg [(vi i2),(vi i3)],.agg [(vi i4),(vi i5)]]=ob (F87 u i0 i1 i2 i3 i4 i5) fun t=>some [.v (.b t)]:=by
 simp only [F87,ak,aw,af,aa]
 kernel_rfl
def O87:Ora:=mkO (qc (ag (tc ci (t1 ci))) (qc (ag (tc ci (t1 ci))) (q1 (ag (tc ci (t1 ci)))))) (fun x=>F87 u x.1.1 x.1.2 x.2.1.1 x.2.1.2 x.2.2.1 x.2.2.2) fun t=>[.v (.b t)]
theorem d87:DO (O87 u) (C9 u) 133 aaw:=dO u (fun x=>by exact e87 u x.1.1 x.1.2 x.2.1.1 x.2.1.2 x.2.2.1 x.2.2.2)
def C10:ao:=(C9 u).add 133 (fun _=>true) (O87 u)
def acq:An tT Tryz.f121 [.k (rl 0 6 (rl 7 11 []))]:=by
 apply Subtype.mk;cbv<;>exact rfl
def aaF:AF:=acq.1
def F81 (x0 x1 x2 x3 x4 x5:Int):Option (Bool) :=
 (ob (F79 u x0 x1 x2 x3 x4 x5) fun x6=>(bif ((x6==0)==true) then (ob (F87 u x0 x1 x2 x3 x4 x5) fun x7=>(some x7)) else (some false)))
theorem e81:aD (C10 u) u aaF [.agg [(vi i0),(vi i1)],.agg [(vi i2),(vi i3)],.agg [(vi i4),(vi i5)]]=ob (F81 u i0 i1 i2 i3 i4 i5) fun t=>some [.v (.b t)]:=by
 simp only [F81,ak,aw,af,aa]
 kernel_rfl
def O81:Ora:=mkO (qc (ag (tc ci (t1 ci))) (qc (ag (tc ci (t1 ci))) (q1 (ag (tc ci (t1 ci)))))) (fun x=>F81 u x.1.1 x.1.2 x.2.1.1 x.2.1.2 x.2.2.1 x.2.2.2) fun t=>[.v (.b t)]
theorem d81:DO (O81 u) (C10 u) 121 aaF:=dO u (fun x=>by exact e81 u x.1.1 x.1.2 x.2.1.1 x.2.1.2 x.2.2.1 x.2.2.2)
def C11:ao:=(C10 u).add 121 (fun _=>true) (O81 u)
def acp:An tT Tryz.f128 [.k [0,1,3,4,5]]:=by
 apply Subtype.mk;cbv<;>exact rfl
def aaE:AF:=acp.1
def F90 (u:Nat) (x0:Int):Option (Bool) :=
 (some (x0 != x0))
theorem e90:aD (C11 u) u aaE [.v (vi i0)]=ob (F90 u i0) fun t=>some [.v (.b t)]:=by
 simp only [F90,ak,aw,af,aa]
 kernel_rfl
def O90:Ora:=mkO (q1 (av ci)) (fun x=>F90 u x) fun t=>[.v (.b t)]
theorem d90:DO (O90 u) (C11 u) 128 aaE:=dO u (fun x=>by exact e90 u x)
def C12:ao:=(C11 u).add 128 (fun _=>true) (O90 u)
def aci:An tT Tryz.f136 [.k [4,11,12],.k [4,12],.k (rl 0 4 (rl 5 15 [])),.k (rl 0 4 (rl 5 15 [])),.k [4,13],.k (rl 0 4 (rl 5 15 [])),.k [4,14,15,16],.k (rl 0 4 (rl 5 15 [])),.k [4,17,18,19],.k (rl 0 4 (rl 5 15 [])),.k (rl 0 4 (rl 5 15 []))]:=by
 apply Subtype.mk;cbv<;>exact rfl
def aau:AF:=aci.1
def F89 (x0 x1:Int):Option (Int) :=
 (ob (F90 u x0) fun x2=>(ob (F90 u x1) fun x3=>(bif x2 then (bif x3 then (some 0) else (some (-1))) else (bif x3 then (some 1) else (bif (decide (x0<x1)) then (some (-1)) else (bif (decide (x0>x1)) then (some 1) else (some 0)))))))
theorem e89:aD (C12 u) u aau [.v (vi i0),.v (vi i1)]=ob (F89 u i0 i1) fun t=>some [.v (vi t)]:=by
 simp only [F89,ak,aw,af,aa]
 kernel_rfl
def O89:Ora:=mkO (qc (av ci) (q1 (av ci))) (fun x=>F89 u x.1 x.2) fun t=>[.v (vi t)]
theorem d89:DO (O89 u) (C12 u) 136 aau:=dO u (fun x=>by exact e89 u x.1 x.2)
def C13:ao:=(C12 u).add 136 (fun _=>true) (O89 u)
def acl:An tT Tryz.f132 [.k [0,1,3,4]]:=by
 apply Subtype.mk;cbv<;>exact rfl
def aax:AF:=acl.1
def F86 (x0:Int):Option (Int) :=
 (ob (F89 u x0 0) fun x1=>(some x1))
theorem e86:aD (C13 u) u aax [.v (vi i0)]=ob (F86 u i0) fun t=>some [.v (vi t)]:=by
 simp only [F86,ak,aw,af,aa]
 kernel_rfl
def O86:Ora:=mkO (q1 (av ci)) (fun x=>F86 u x) fun t=>[.v (vi t)]
theorem d86:DO (O86 u) (C13 u) 132 aax:=dO u (fun x=>by exact e86 u x)
def C14:ao:=(C13 u).add 132 (fun _=>true) (O86 u)
def acr:An tT Tryz.f120 [.k (rl 8 23 []),.k (rl 0 8 (rl 9 48 [])),.k (rl 0 8 (rl 9 48 []))]:=by
 apply Subtype.mk;cbv<;>exact rfl
def aaG:AF:=acr.1
def F80 (x0 x1 x2 x3 x4 x5 x6 x7:Int):Option (Bool) :=
 (ob (F81 u x0 x1 x2 x3 x4 x5) fun x8=>(bif (x8==false) then (ob (F81 u x0 x1 x2 x3 x6 x7) fun x9=>(bif (x9==false) then (ob (F81 u x4 x5 x6 x7 x0 x1) fun xA=>(bif (xA==false) then (ob (F81 u x4 x5 x6 x7 x2 x3) fun xB=>(bif xB then (some true) else (ob (F79 u x0 x1 x2 x3 x4 x5) fun xC=>(ob (F86 u xC) fun xD=>(ob (F79 u x0 x1 x2 x3 x6 x7) fun xE=>(ob (F86 u xE) fun xF=>(bif ((decide ((w64 (xD*xF))<0))==true) then (ob (F79 u x4 x5 x6 x7 x0 x1) fun xG=>(ob (F86 u xG) fun xH=>(ob (F79 u x4 x5 x6 x7 x2 x3) fun xI=>(ob (F86 u xI) fun xJ=>(some (decide ((w64 (xH*xJ))<0))))))) else (some false)))))))) else (some true))) else (some true))) else (some true)))
theorem e80:aD (C14 u) u aaG [.agg [(vi i0),(vi i1)],.agg [(vi i2),(vi i3)],.agg [(vi i4),(vi i5)],.agg [(vi i6),(vi i7)]]=ob (F80 u i0 i1 i2 i3 i4 i5 i6 i7) fun t=>some [.v (.b t)]:=by
 simp only [F80,ak,aw,af,aa]
 kernel_rfl
def O80:Ora:=mkO (qc (ag (tc ci (t1 ci))) (qc (ag (tc ci (t1 ci))) (qc (ag (tc ci (t1 ci))) (q1 (ag (tc ci (t1 ci))))))) (fun x=>F80 u x.1.1 x.1.2 x.2.1.1 x.2.1.2 x.2.2.1.1 x.2.2.1.2 x.2.2.2.1 x.2.2.2.2) fun t=>[.v (.b t)]
theorem d80:DO (O80 u) (C14 u) 120 aaG:=dO u (fun x=>by exact e80 u x.1.1 x.1.2 x.2.1.1 x.2.1.2 x.2.2.1.1 x.2.2.1.2 x.2.2.2.1 x.2.2.2.2)
def C15:ao:=(C14 u).add 120 (fun _=>true) (O80 u)
def B94:An tT Tryz.f94 [.k (2::(rl 4 5 (rl 11 87 []))),.h [],.k (1::2::(rl 4 8 (rl 14 84 []))),.k [],.k (rl 0 98 []),.k (2::(rl 4 5 (rl 15 82 []))),.k [2,27,28,29],.k (0::1::(rl 3 95 [])),.k (2::(rl 37 31 [])),.k (0::1::(rl 3 95 [])),.h [],.k (1::2::7::9::10::11::(rl 14 84 [])),.k [70,71,72],.k (1::2::(rl 4 8 (rl 14 84 []))),.k (2::(rl 75 22 [])),.k (0::1::(rl 3 95 [])),.k (0::1::(rl 3 95 []))]:=by
 apply Subtype.mk;cbv<;>exact rfl
def A94:AF:=B94.1
def Zw:AC:=sA A94.body [1,1,1]
def sq:AC:=sA A94.body [1,1,0,1,0,0]
def TS:AC:=sA sq [1,1]
def Jv:AC:=sA TS [1]
def Zx:AC:=sA TS [0,0,1,1,1]
def Zy:AC:=sA Zx [1,1]
def PG:AC:=sA Zy [1,0,0]
def OY:St->Option St:=nN 3 (1::2::7::9::10::11::(rl 14 84 []))
def Lo:St:=⟨(.x (.c (ro kP n0 f0))::.u::.u::vxi i0::vxi i1::.x (.ptr 0 0)::.x (.ptr 1 0)::.u::vxi i2::(us 3 (vxi i0::vxi i1::(us 84 [])))),[.box [(vci i3),(vci i4)],.box [(vci i5),(vci i6)],.box [(vci i7),(vci i8)]]⟩
def Xu:St:=⟨(.u::.u::vxb false::(us 95 [])),[.box [(vci i0),(vci i1)],.box [(vci i2),(vci i3)],.box [(vci i4),(vci i5)]]⟩
def Ln:St:=⟨(.x (.c (ro kP n0 f0))::.u::.u::vxi i0::(us 8 (vxi i0::vxi i1::(us 84 [])))),[.box [(vci i2),(vci i3)],.box [(vci i4),(vci i5)],.box [(vci i6),(vci i7)]]⟩
def my {ρ:Type} (u:Nat) (x0:Nat) (x1:FF) (x2 x3 x4 x5 x6 x7 x8 x9:Int):Nat->Int->(Option ρ)->(Option ρ)->Option ρ
 | 0,_,_,_=>none
 | m+1,xA,k0,k1 =>
  (bif (decide (xA<x2)) then (bif (x2==0) then none else (bif (((Int.tmod (w64 (xA+1)) x2) != x3)==true) then (bif (inb xA x0) then (bif (x2==0) then none else (bif (inb (Int.tmod (w64 (xA+1)) x2) x0) then (ob (F80 u x4 x5 x6 x7 (x1 xA.toNat 0).int (x1 xA.toNat 1).int ((x1 (Int.toNat (Int.tmod (w64 (xA+1)) x2)) 0).int) ((x1 (Int.toNat (Int.tmod (w64 (xA+1)) x2)) 1).int)) fun xB=>(bif xB then k0 else (my u x0 x1 x2 x3 x4 x5 x6 x7 x8 x9 m (w64 (xA+1)) k0 k1))) else none)) else none) else (my u x0 x1 x2 x3 x4 x5 x6 x7 x8 x9 m (w64 (xA+1)) k0 k1))) else k1)
theorem Nu:∀ (m:Nat) (x0:Int) (k0:Option ρ) (k1:Option ρ),ob (my u n0 f0 i0 i1 i2 i3 i4 i5 i6 i7 m x0 k0 k1) ng=my u n0 f0 i0 i1 i2 i3 i4 i5 i6 i7 m x0 (ob k0 ng) (ob k1 ng)
 | 0,_,_,_=>rfl
 | m+1,x0,k0,k1=>by
  simp only [my,ak,aw,af,Nu m]
theorem SB:∀ (m:Nat) (x0:Int),
  am (eB PG (C15 u) u) OY m (Lo n0 f0 i0 i1 x0 i2 i3 i4 i5 i6 i7) k=my u n0 f0 i0 i1 i2 i3 i4 i5 i6 i7 m x0 (k .ret (Xu i2 i3 i4 i5 i6 i7)) (k (.exit 2) (Ln n0 f0 i0 i1 i2 i3 i4 i5 i6 i7))
 | 0,_=>rfl
 | m+1,x0=>by
  simp only [my,<- SB m]
  kernel_rfl
def t7:St->Option St:=nN 0 (1::2::(rl 4 8 (rl 14 84 [])))
def Ev:St:=⟨(.x (.c (ro kP n0 f0))::.u::.u::vxi i0::(us 8 (vxi i0::vxi i1::(us 84 [])))),[]⟩
def RL:St:=⟨(.u::.u::vxb false::(us 95 [])),[.box [(vci i0),(vci i1)],.box [(vci i2),(vci i3)]]⟩
def RK:St:=⟨(.u::.u::vxb false::(us 95 [])),[.box [(vci i0),(vci i1)],.box [(vci i2),(vci i3)],.box [(vci i4),(vci i5)]]⟩
def RI:St:=⟨(us 98 []),[]⟩
def oj {ρ:Type} (u:Nat) (x0:Nat) (x1:FF) (x2:Int):Nat->Int->(Int->Int->Int->Int->Option ρ)->(Int->Int->Int->Int->Int->Int->Option ρ)->(Option ρ)->Option ρ
 | 0,_,_,_,_=>none
 | m+1,x3,k0,k1,k2 =>
  (bif (decide (x3<x2)) then (bif (inb x3 x0) then (bif (x2==0) then none else (bif (inb (Int.tmod (w64 (x3+1)) x2) x0) then (bif (((x1 x3.toNat 0).int==((x1 (Int.toNat (Int.tmod (w64 (x3+1)) x2)) 0).int))&&(((x1 x3.toNat 1).int==((x1 (Int.toNat (Int.tmod (w64 (x3+1)) x2)) 1).int))&&true)) then (k0 (x1 x3.toNat 0).int (x1 x3.toNat 1).int ((x1 (Int.toNat (Int.tmod (w64 (x3+1)) x2)) 0).int) ((x1 (Int.toNat (Int.tmod (w64 (x3+1)) x2)) 1).int)) else (bif (x2==0) then none else (bif (inb (Int.tmod (w64 (x3+2)) x2) x0) then (ob (F79 u (x1 x3.toNat 0).int (x1 x3.toNat 1).int ((x1 (Int.toNat (Int.tmod (w64 (x3+1)) x2)) 0).int) ((x1 (Int.toNat (Int.tmod (w64 (x3+1)) x2)) 1).int) ((x1 (Int.toNat (Int.tmod (w64 (x3+2)) x2)) 0).int) ((x1 (Int.toNat (Int.tmod (w64 (x3+2)) x2)) 1).int)) fun x4=>(bif ((x4==0)==true) then (bif (decide ((w64 ((w64 ((w64 ((x1 x3.toNat 0).int-((x1 (Int.toNat (Int.tmod (w64 (x3+1)) x2)) 0).int)))*(w64 (((x1 (Int.toNat (Int.tmod (w64 (x3+2)) x2)) 0).int)-((x1 (Int.toNat (Int.tmod (w64 (x3+1)) x2)) 0).int)))))+(w64 ((w64 ((x1 x3.toNat 1).int-((x1 (Int.toNat (Int.tmod (w64 (x3+1)) x2)) 1).int)))*(w64 (((x1 (Int.toNat (Int.tmod (w64 (x3+2)) x2)) 1).int)-((x1 (Int.toNat (Int.tmod (w64 (x3+1)) x2)) 1).int)))))))>0)) then (k1 (x1 x3.toNat 0).int (x1 x3.toNat 1).int ((x1 (Int.toNat (Int.tmod (w64 (x3+1)) x2)) 0).int) ((x1 (Int.toNat (Int.tmod (w64 (x3+1)) x2)) 1).int) ((x1 (Int.toNat (Int.tmod (w64 (x3+2)) x2)) 0).int) ((x1 (Int.toNat (Int.tmod (w64 (x3+2)) x2)) 1).int)) else (my u x0 x1 x2 x3 (x1 x3.toNat 0).int (x1 x3.toNat 1).int ((x1 (Int.toNat (Int.tmod (w64 (x3+1)) x2)) 0).int) ((x1 (Int.toNat (Int.tmod (w64 (x3+1)) x2)) 1).int) ((x1 (Int.toNat (Int.tmod (w64 (x3+2)) x2)) 0).int) ((x1 (Int.toNat (Int.tmod (w64 (x3+2)) x2)) 1).int) u (w64 (x3+2))
  (k1 (x1 x3.toNat 0).int (x1 x3.toNat 1).int ((x1 (Int.toNat (Int.tmod (w64 (x3+1)) x2)) 0).int) ((x1 (Int.toNat (Int.tmod (w64 (x3+1)) x2)) 1).int) ((x1 (Int.toNat (Int.tmod (w64 (x3+2)) x2)) 0).int) ((x1 (Int.toNat (Int.tmod (w64 (x3+2)) x2)) 1).int))
  (oj u x0 x1 x2 m (w64 (x3+1)) k0 k1 k2))) else (my u x0 x1 x2 x3 (x1 x3.toNat 0).int (x1 x3.toNat 1).int ((x1 (Int.toNat (Int.tmod (w64 (x3+1)) x2)) 0).int) ((x1 (Int.toNat (Int.tmod (w64 (x3+1)) x2)) 1).int) ((x1 (Int.toNat (Int.tmod (w64 (x3+2)) x2)) 0).int) ((x1 (Int.toNat (Int.tmod (w64 (x3+2)) x2)) 1).int) u (w64 (x3+2))
  (k1 (x1 x3.toNat 0).int (x1 x3.toNat 1).int ((x1 (Int.toNat (Int.tmod (w64 (x3+1)) x2)) 0).int) ((x1 (Int.toNat (Int.tmod (w64 (x3+1)) x2)) 1).int) ((x1 (Int.toNat (Int.tmod (w64 (x3+2)) x2)) 0).int) ((x1 (Int.toNat (Int.tmod (w64 (x3+2)) x2)) 1).int))
  (oj u x0 x1 x2 m (w64 (x3+1)) k0 k1 k2)))) else none))) else none)) else none) else k2)
theorem Nt:∀ (m:Nat) (x0:Int) (k0:Int->Int->Int->Int->Option ρ) (k1:Int->Int->Int->Int->Int->Int->Option ρ) (k2:Option ρ),ob (oj u n0 f0 i0 m x0 k0 k1 k2) ng=oj u n0 f0 i0 m x0 (fun x1 x2 x3 x4=>ob (k0 x1 x2 x3 x4) ng) (fun x5 x6 x7 x8 x9 xA=>ob (k1 x5 x6 x7 x8 x9 xA) ng) (ob k2 ng)
 | 0,_,_,_,_=>rfl
 | m+1,x0,k0,k1,k2=>by
  simp only [oj,ak,aw,af,Nt m,Nu]
theorem XQ :
  am (eB sq (C15 u) u) t7 (m+1) (Ev n0 f0 i0 i1) k =
  (bif (decide (i1<i0)) then (bif (inb i1 n0) then (bif (i0==0) then none else (bif (inb (Int.tmod (w64 (i1+1)) i0) n0) then (bif (((f0 i1.toNat 0).int==((f0 (Int.toNat (Int.tmod (w64 (i1+1)) i0)) 0).int))&&(((f0 i1.toNat 1).int==((f0 (Int.toNat (Int.tmod (w64 (i1+1)) i0)) 1).int))&&true)) then (k .ret (RL (f0 i1.toNat 0).int (f0 i1.toNat 1).int ((f0 (Int.toNat (Int.tmod (w64 (i1+1)) i0)) 0).int) ((f0 (Int.toNat (Int.tmod (w64 (i1+1)) i0)) 1).int))) else (bif (i0==0) then none else (bif (inb (Int.tmod (w64 (i1+2)) i0) n0) then (ob (F79 u (f0 i1.toNat 0).int (f0 i1.toNat 1).int ((f0 (Int.toNat (Int.tmod (w64 (i1+1)) i0)) 0).int) ((f0 (Int.toNat (Int.tmod (w64 (i1+1)) i0)) 1).int) ((f0 (Int.toNat (Int.tmod (w64 (i1+2)) i0)) 0).int) ((f0 (Int.toNat (Int.tmod (w64 (i1+2)) i0)) 1).int)) fun x0=>(bif ((x0==0)==true) then (bif (decide ((w64 ((w64 ((w64 ((f0 i1.toNat 0).int-((f0 (Int.toNat (Int.tmod (w64 (i1+1)) i0)) 0).int)))*(w64 (((f0 (Int.toNat (Int.tmod (w64 (i1+2)) i0)) 0).int)-((f0 (Int.toNat (Int.tmod (w64 (i1+1)) i0)) 0).int)))))+(w64 ((w64 ((f0 i1.toNat 1).int-((f0 (Int.toNat (Int.tmod (w64 (i1+1)) i0)) 1).int)))*(w64 (((f0 (Int.toNat (Int.tmod (w64 (i1+2)) i0)) 1).int)-((f0 (Int.toNat (Int.tmod (w64 (i1+1)) i0)) 1).int)))))))>0)) then (k .ret (RK (f0 i1.toNat 0).int (f0 i1.toNat 1).int ((f0 (Int.toNat (Int.tmod (w64 (i1+1)) i0)) 0).int) ((f0 (Int.toNat (Int.tmod (w64 (i1+1)) i0)) 1).int) ((f0 (Int.toNat (Int.tmod (w64 (i1+2)) i0)) 0).int) ((f0 (Int.toNat (Int.tmod (w64 (i1+2)) i0)) 1).int))) else (am (eB PG (C15 u) u) OY u (Lo n0 f0 i0 i1 (w64 (i1+2)) (f0 i1.toNat 0).int (f0 i1.toNat 1).int ((f0 (Int.toNat (Int.tmod (w64 (i1+1)) i0)) 0).int) ((f0 (Int.toNat (Int.tmod (w64 (i1+1)) i0)) 1).int) ((f0 (Int.toNat (Int.tmod (w64 (i1+2)) i0)) 0).int) ((f0 (Int.toNat (Int.tmod (w64 (i1+2)) i0)) 1).int)) (aA 2 (aA 1 (aI (C15 u) u (2::(rl 4 5 (rl 15 82 []))) Jv (aN (eB sq (C15 u) u) t7 m k)))))) else (am (eB PG (C15 u) u) OY u (Lo n0 f0 i0 i1 (w64 (i1+2)) (f0 i1.toNat 0).int (f0 i1.toNat 1).int ((f0 (Int.toNat (Int.tmod (w64 (i1+1)) i0)) 0).int) ((f0 (Int.toNat (Int.tmod (w64 (i1+1)) i0)) 1).int) ((f0 (Int.toNat (Int.tmod (w64 (i1+2)) i0)) 0).int) ((f0 (Int.toNat (Int.tmod (w64 (i1+2)) i0)) 1).int)) (aA 2 (aA 1 (aI (C15 u) u (2::(rl 4 5 (rl 15 82 []))) Jv (aN (eB sq (C15 u) u) t7 m k))))))) else none))) else none)) else none) else (k (.exit 0) RI)):=by kernel_rfl
theorem Yf :
  (aA 2 (aA 1 (aI (C15 u) u (2::(rl 4 5 (rl 15 82 []))) Jv (aN (eB sq (C15 u) u) t7 m k)))) (.exit 2) (Ln n0 f0 i0 i1 (f0 i1.toNat 0).int (f0 i1.toNat 1).int ((f0 (Int.toNat (Int.tmod (w64 (i1+1)) i0)) 0).int) ((f0 (Int.toNat (Int.tmod (w64 (i1+1)) i0)) 1).int) ((f0 (Int.toNat (Int.tmod (w64 (i1+2)) i0)) 0).int) ((f0 (Int.toNat (Int.tmod (w64 (i1+2)) i0)) 1).int)) =
  (am (eB sq (C15 u) u) t7 m (Ev n0 f0 i0 (w64 (i1+1))) k):=by kernel_rfl
theorem Ye :
  (aA 2 (aA 1 (aI (C15 u) u (2::(rl 4 5 (rl 15 82 []))) Jv (aN (eB sq (C15 u) u) t7 m k)))) (.exit 2) (Ln n0 f0 i0 i1 (f0 i1.toNat 0).int (f0 i1.toNat 1).int ((f0 (Int.toNat (Int.tmod (w64 (i1+1)) i0)) 0).int) ((f0 (Int.toNat (Int.tmod (w64 (i1+1)) i0)) 1).int) ((f0 (Int.toNat (Int.tmod (w64 (i1+2)) i0)) 0).int) ((f0 (Int.toNat (Int.tmod (w64 (i1+2)) i0)) 1).int)) =
  (am (eB sq (C15 u) u) t7 m (Ev n0 f0 i0 (w64 (i1+1))) k):=by kernel_rfl
theorem SA:∀ (m:Nat) (x0:Int),
  am (eB sq (C15 u) u) t7 m (Ev n0 f0 i0 x0) k=oj u n0 f0 i0 m x0 (fun x1 x2 x3 x4=>k .ret (RL x1 x2 x3 x4)) (fun x5 x6 x7 x8 x9 xA=>k .ret (RK x5 x6 x7 x8 x9 xA)) (k (.exit 0) RI)
 | 0,_=>rfl
 | m+1,x0=>by
  rw [XQ]
  simp only [oj,SA m,SB,Yf,Ye]<;>kernel_rfl
def F62 (x0:Nat) (x1:FF):Option (Bool) :=
 (oj u x0 x1 (Int.ofNat x0) u 0
  (fun x2 x3 x4 x5=>(some false))
  (fun x6 x7 x8 x9 xA xB=>(some false))
  (some true))
theorem e62:aD (C15 u) u A94 [.v (ro kP n0 f0)]=ob (F62 u n0 f0) fun t=>some [.v (.b t)]:=Eq.trans (b:=(am (eB sq (C15 u) u) t7 u (Ev n0 f0 (Int.ofNat n0) 0) (aA 0 (aI (C15 u) u (2::(rl 4 5 (rl 11 87 []))) Zw (aH A94))))) (by kernel_rfl) (by
 simp only [F62,ak,aw,af,aa,Nt,SA]<;>kernel_rfl)
def O62:Ora:=mkO (q1 (av (cL kP))) (fun x=>F62 u x.1 x.2) fun t=>[.v (.b t)]
theorem d62:DO (O62 u) (C15 u) 94 A94:=dO u (fun x=>by exact e62 u x.1 x.2)
def C16:ao:=(C15 u).add 94 (fun _=>true) (O62 u)
def B91:An tT Tryz.f91 [.k (rl 4 32 []),.h [],.k (1::2::4::5::6::(rl 10 27 [])),.k [],.k (0::1::2::(rl 4 33 [])),.k (0::1::(rl 3 34 []))]:=by
 apply Subtype.mk;cbv<;>exact rfl
def A91:AF:=B91.1
def ZB:AC:=sA A91.body [1,1,1]
def TT:AC:=sA A91.body [1,1,0,1,0,0]
def Tv:St->Option St:=nN 0 (1::2::4::5::6::(rl 10 27 []))
def RH:St:=⟨(.x (.c (ro kP n0 f0))::.u::.u::vxi i0::(us 3 (.x (.c (ro kP n0 f0))::vxi i1::vxi i2::(us 27 [])))),[]⟩
def Xt:St:=⟨(us 3 (vxi i0::(us 33 []))),[]⟩
def vf {ρ:Type} (u:Nat) (x0:Nat) (x1:FF) (x2:Int):Nat->Int->Int->(Int->Option ρ)->Option ρ
 | 0,_,_,_=>none
 | m+1,x3,x4,k0 =>
  (bif (decide (x4<x2)) then (bif (inb x4 x0) then (bif ((Int.ofNat x0)==0) then none else (bif (inb (Int.tmod (w64 (x4+1)) (Int.ofNat x0)) x0) then (vf u x0 x1 x2 m (w64 (x3+(w64 ((w64 ((x1 x4.toNat 0).int*((x1 (Int.toNat (Int.tmod (w64 (x4+1)) (Int.ofNat x0))) 1).int)))-(w64 (((x1 (Int.toNat (Int.tmod (w64 (x4+1)) (Int.ofNat x0))) 0).int)*(x1 x4.toNat 1).int)))))) (w64 (x4+1)) k0) else none)) else none) else (k0 x3))
theorem Ns:∀ (m:Nat) (x0 x1:Int) (k0:Int->Option ρ),ob (vf u n0 f0 i0 m x0 x1 k0) ng=vf u n0 f0 i0 m x0 x1 (fun x2=>ob (k0 x2) ng)
 | 0,_,_,_=>rfl
 | m+1,x0,x1,k0=>by
  simp only [vf,ak,aw,af,Ns m]
theorem Sz:∀ (m:Nat) (x0 x1:Int),
  am (eB TT (C16 u) u) Tv m (RH n0 f0 x0 i0 x1) k=vf u n0 f0 i0 m x0 x1 (fun x2=>k (.exit 0) (Xt x2))
 | 0,_,_=>rfl
 | m+1,x0,x1=>by
  simp only [vf,<- Sz m]
  kernel_rfl
def F63 (x0:Nat) (x1:FF):Option (Int) :=
 (vf u x0 x1 (Int.ofNat x0) u 0 0
  (fun x2=>(some x2)))
theorem e63:aD (C16 u) u A91 [.v (ro kP n0 f0)]=ob (F63 u n0 f0) fun t=>some [.v (vi t)]:=Eq.trans (b:=(am (eB TT (C16 u) u) Tv u (RH n0 f0 0 (Int.ofNat n0) 0) (aA 0 (aI (C16 u) u (rl 4 32 []) ZB (aH A91))))) (by kernel_rfl) (by
 simp only [F63,ak,aw,af,aa,Ns,Sz]<;>kernel_rfl)
def O63:Ora:=mkO (q1 (av (cL kP))) (fun x=>F63 u x.1 x.2) fun t=>[.v (vi t)]
theorem d63:DO (O63 u) (C16 u) 91 A91:=dO u (fun x=>by exact e63 u x.1 x.2)
def C17:ao:=(C16 u).add 91 (fun _=>true) (O63 u)
def B72:An tT Tryz.f72 [.k (rl 2 21 []),.k (0::1::(rl 3 20 [])),.k (0::1::(rl 3 20 [])),.k (0::1::(rl 3 20 [])),.k (0::1::(rl 3 20 [])),.k (0::1::(rl 3 20 []))]:=by
 apply Subtype.mk;cbv<;>exact rfl
def A72:AF:=B72.1
def F33 (x0:Nat) (x1:FF):Option (Int) :=
 (bif (decide ((Int.ofNat x0)<3)) then (some 3) else (bif (decide ((Int.ofNat x0)>32)) then (some 4) else (ob (F50 u x0 x1) fun x2=>(bif x2 then (some 9) else (ob (F62 u x0 x1) fun x3=>(bif ((!x3)==false) then (ob (F63 u x0 x1) fun x4=>(bif (x4==0) then (some 17) else (some 0))) else (some 17)))))))
theorem e33:aD (C17 u) u A72 [.v (ro kP n0 f0)]=ob (F33 u n0 f0) fun t=>some [.v (vi t)]:=by
 simp only [F33,ak,aw,af,aa]
 kernel_rfl
def O33:Ora:=mkO (q1 (av (cL kP))) (fun x=>F33 u x.1 x.2) fun t=>[.v (vi t)]
theorem d33:DO (O33 u) (C17 u) 72 A72:=dO u (fun x=>by exact e33 u x.1 x.2)
def C18:ao:=(C17 u).add 72 (fun _=>true) (O33 u)
def B67:An tT Tryz.f67 [.k (rl 2 4 []),.k (0::1::(rl 3 5 [])),.k (0::1::(rl 3 5 []))]:=by
 apply Subtype.mk;cbv<;>exact rfl
def A67:AF:=B67.1
def F34 (x0:Nat) (x1:FF):Option (Int) :=
 (ob (F33 u x0 x1) fun x2=>(bif (x2 != 0) then (some 0) else (ob (F63 u x0 x1) fun x3=>(some x3))))
theorem e34:aD (C18 u) u A67 [.v (ro kP n0 f0)]=ob (F34 u n0 f0) fun t=>some [.v (vi t)]:=by
 simp only [F34,ak,aw,af,aa]
 kernel_rfl
def O34:Ora:=mkO (q1 (av (cL kP))) (fun x=>F34 u x.1 x.2) fun t=>[.v (vi t)]
theorem d34:DO (O34 u) (C18 u) 67 A67:=dO u (fun x=>by exact e34 u x.1 x.2)
def C19:ao:=(C18 u).add 67 (fun _=>true) (O34 u)
def B98:An tT Tryz.f98 [.k (rl 0 6 (rl 7 23 []))]:=by
 apply Subtype.mk;cbv<;>exact rfl
def A98:AF:=B98.1
def F75 (u:Nat) (x0 x1 x2 x3 x4 x5:Int):Option (Int) :=
 (some (w64 ((w64 ((w64 (x2-x0))*(w64 (x5-x1))))-(w64 ((w64 (x3-x1))*(w64 (x4-x0)))))))
theorem e75:aD (C19 u) u A98 [.agg [(vi i0),(vi i1)],.agg [(vi i2),(vi i3)],.agg [(vi i4),(vi i5)]]=ob (F75 u i0 i1 i2 i3 i4 i5) fun t=>some [.v (vi t)]:=by
 simp only [F75,ak,aw,af,aa]
 kernel_rfl
def O75:Ora:=mkO (qc (ag (tc ci (t1 ci))) (qc (ag (tc ci (t1 ci))) (q1 (ag (tc ci (t1 ci)))))) (fun x=>F75 u x.1.1 x.1.2 x.2.1.1 x.2.1.2 x.2.2.1 x.2.2.2) fun t=>[.v (vi t)]
theorem d75:DO (O75 u) (C19 u) 98 A98:=dO u (fun x=>by exact e75 u x.1.1 x.1.2 x.2.1.1 x.2.1.2 x.2.2.1 x.2.2.2)
def C20:ao:=(C19 u).add 98 (fun _=>true) (O75 u)
def B97:An tT Tryz.f97 [.k [0,1,3,4,5]]:=by
 apply Subtype.mk;cbv<;>exact rfl
def A97:AF:=B97.1
def F74 (u:Nat) (x0:Int):Option (Int) :=
 (some (if 1<(if (-1)>x0 then (-1) else x0) then 1 else (if (-1)>x0 then (-1) else x0)))
theorem e74:aD (C20 u) u A97 [.v (vi i0)]=ob (F74 u i0) fun t=>some [.v (vi t)]:=by
 simp only [F74,ak,aw,af,aa]
 kernel_rfl
def O74:Ora:=mkO (q1 (av ci)) (fun x=>F74 u x) fun t=>[.v (vi t)]
theorem d74:DO (O74 u) (C20 u) 97 A97:=dO u (fun x=>by exact e74 u x)
def C21:ao:=(C20 u).add 97 (fun _=>true) (O74 u)
def B99:An tT Tryz.f99 [.k (rl 0 6 (rl 7 38 []))]:=by
 apply Subtype.mk;cbv<;>exact rfl
def A99:AF:=B99.1
def F76 (u:Nat) (x0 x1 x2 x3 x4 x5:Int):Option (Bool) :=
 (bif ((decide (x4>=(if x2<x0 then x2 else x0)))==true) then (bif ((decide (x4<=(if x2>x0 then x2 else x0)))==true) then (bif ((decide (x5>=(if x3<x1 then x3 else x1)))==true) then (some (decide (x5<=(if x3>x1 then x3 else x1)))) else (some false)) else (some false)) else (some false))
theorem e76:aD (C21 u) u A99 [.agg [(vi i0),(vi i1)],.agg [(vi i2),(vi i3)],.agg [(vi i4),(vi i5)]]=ob (F76 u i0 i1 i2 i3 i4 i5) fun t=>some [.v (.b t)]:=by
 simp only [F76,ak,aw,af,aa]
 kernel_rfl
def O76:Ora:=mkO (qc (ag (tc ci (t1 ci))) (qc (ag (tc ci (t1 ci))) (q1 (ag (tc ci (t1 ci)))))) (fun x=>F76 u x.1.1 x.1.2 x.2.1.1 x.2.1.2 x.2.2.1 x.2.2.2) fun t=>[.v (.b t)]
theorem d76:DO (O76 u) (C21 u) 99 A99:=dO u (fun x=>by exact e76 u x.1.1 x.1.2 x.2.1.1 x.2.1.2 x.2.2.1 x.2.2.2)
def C22:ao:=(C21 u).add 99 (fun _=>true) (O76 u)
def B79:An tT Tryz.f79 [.k (8::(rl 33 10 [])),.k (rl 0 8 (rl 9 72 [])),.k (rl 0 8 (rl 9 72 []))]:=by
 apply Subtype.mk;cbv<;>exact rfl
def A79:AF:=B79.1
def F56 (x0 x1 x2 x3 x4 x5 x6 x7:Int):Option (Bool) :=
 (ob (F75 u x0 x1 x2 x3 x4 x5) fun x8=>(ob (F74 u x8) fun x9=>(ob (F75 u x0 x1 x2 x3 x6 x7) fun xA=>(ob (F74 u xA) fun xB=>(ob (F75 u x4 x5 x6 x7 x0 x1) fun xC=>(ob (F74 u xC) fun xD=>(ob (F75 u x4 x5 x6 x7 x2 x3) fun xE=>(ob (F74 u xE) fun xF=>(bif ((decide ((w64 (x9*xB))<0))==true) then (bif (decide ((w64 (xD*xF))<0)) then (some true) else (bif ((x9==0)==true) then (ob (F76 u x0 x1 x2 x3 x4 x5) fun xG=>(bif (xG==false) then (bif ((xB==0)==true) then (ob (F76 u x0 x1 x2 x3 x6 x7) fun xH=>(bif (xH==false) then (bif ((xD==0)==true) then (ob (F76 u x4 x5 x6 x7 x0 x1) fun xI=>(bif (xI==false) then (bif ((xF==0)==true) then (ob (F76 u x4 x5 x6 x7 x2 x3) fun xJ=>(some xJ)) else (some false)) else (some true))) else (bif ((xF==0)==true) then (ob (F76 u x4 x5 x6 x7 x2 x3) fun xK=>(some xK)) else (some false))) else (some true))) else (bif ((xD==0)==true) then (ob (F76 u x4 x5 x6 x7 x0 x1) fun xL=>(bif (xL==false) then (bif ((xF==0)==true) then (ob (F76 u x4 x5 x6 x7 x2 x3) fun xM=>(some xM)) else (some false)) else (some true))) else (bif ((xF==0)==true) then (ob (F76 u x4 x5 x6 x7 x2 x3) fun xN=>(some xN)) else (some false)))) else (some true))) else (bif ((xB==0)==true) then (ob (F76 u x0 x1 x2 x3 x6 x7) fun xO=>(bif (xO==false) then (bif ((xD==0)==true) then (ob (F76 u x4 x5 x6 x7 x0 x1) fun xP=>(bif (xP==false) then (bif ((xF==0)==true) then (ob (F76 u x4 x5 x6 x7 x2 x3) fun xQ=>(some xQ)) else (some false)) else (some true))) else (bif ((xF==0)==true) then (ob (F76 u x4 x5 x6 x7 x2 x3) fun xR=>(some xR)) else (some false))) else (some true))) else (bif ((xD==0)==true) then (ob (F76 u x4 x5 x6 x7 x0 x1) fun xS=>(bif (xS==false) then (bif ((xF==0)==true) then (ob (F76 u x4 x5 x6 x7 x2 x3) fun xT=>(some xT)) else (some false)) else (some true))) else (bif ((xF==0)==true) then (ob (F76 u x4 x5 x6 x7 x2 x3) fun xU=>(some xU)) else (some false)))))) else (bif ((x9==0)==true) then (ob (F76 u x0 x1 x2 x3 x4 x5) fun xV=>(bif (xV==false) then (bif ((xB==0)==true) then (ob (F76 u x0 x1 x2 x3 x6 x7) fun xW=>(bif (xW==false) then (bif ((xD==0)==true) then (ob (F76 u x4 x5 x6 x7 x0 x1) fun xX=>(bif (xX==false) then (bif ((xF==0)==true) then (ob (F76 u x4 x5 x6 x7 x2 x3) fun xY=>(some xY)) else (some false)) else (some true))) else (bif ((xF==0)==true) then (ob (F76 u x4 x5 x6 x7 x2 x3) fun xZ=>(some xZ)) else (some false))) else (some true))) else (bif ((xD==0)==true) then (ob (F76 u x4 x5 x6 x7 x0 x1) fun xa=>(bif (xa==false) then (bif ((xF==0)==true) then (ob (F76 u x4 x5 x6 x7 x2 x3) fun xb=>(some xb)) else (some false)) else (some true))) else (bif ((xF==0)==true) then (ob (F76 u x4 x5 x6 x7 x2 x3) fun xc=>(some xc)) else (some false)))) else (some true))) else (bif ((xB==0)==true) then (ob (F76 u x0 x1 x2 x3 x6 x7) fun xd=>(bif (xd==false) then (bif ((xD==0)==true) then (ob (F76 u x4 x5 x6 x7 x0 x1) fun xe=>(bif (xe==false) then (bif ((xF==0)==true) then (ob (F76 u x4 x5 x6 x7 x2 x3) fun xf=>(some xf)) else (some false)) else (some true))) else (bif ((xF==0)==true) then (ob (F76 u x4 x5 x6 x7 x2 x3) fun xg=>(some xg)) else (some false))) else (some true))) else (bif ((xD==0)==true) then (ob (F76 u x4 x5 x6 x7 x0 x1) fun xh=>(bif (xh==false) then (bif ((xF==0)==true) then (ob (F76 u x4 x5 x6 x7 x2 x3) fun xi=>(some xi)) else (some false)) else (some true))) else (bif ((xF==0)==true) then (ob (F76 u x4 x5 x6 x7 x2 x3) fun xj=>(some xj)) else (some false))))))))))))))
theorem e56:aD (C22 u) u A79 [.agg [(vi i0),(vi i1)],.agg [(vi i2),(vi i3)],.agg [(vi i4),(vi i5)],.agg [(vi i6),(vi i7)]]=ob (F56 u i0 i1 i2 i3 i4 i5 i6 i7) fun t=>some [.v (.b t)]:=by
 simp only [F56,ak,aw,af,aa]
 kernel_rfl
def O56:Ora:=mkO (qc (ag (tc ci (t1 ci))) (qc (ag (tc ci (t1 ci))) (qc (ag (tc ci (t1 ci))) (q1 (ag (tc ci (t1 ci))))))) (fun x=>F56 u x.1.1 x.1.2 x.2.1.1 x.2.1.2 x.2.2.1.1 x.2.2.1.2 x.2.2.2.1 x.2.2.2.2) fun t=>[.v (.b t)]
theorem d56:DO (O56 u) (C22 u) 79 A79:=dO u (fun x=>by exact e56 u x.1.1 x.1.2 x.2.1.1 x.2.1.2 x.2.2.1.1 x.2.2.1.2 x.2.2.2.1 x.2.2.2.2)
def C23:ao:=(C22 u).add 79 (fun _=>true) (O56 u)
def ZI:AC:=(.region 9 [o1 45 (bk .add 3 20 1),mv 20 45] 0 none)
def ZH:AC:=(.seq (.block 3
 (.seq (.region 6 [mv 22 20,o1 23 (.indexAddr 49 42 2 (tm 18) (tm 20)),o1 24 (ln 42 2 23),o1 10 (.alloc 0 42 [vci 0,vci 0]),o1 9 (sg 22),o0 (.store 42 2 (tm 10) (tm 24))] 1 none) []
  (.seq (.region 7 [mv 25 2,o1 26 (ln 42 2 8),mv 27 0,mv 28 7,o1 29 (bk .add 3 28 1),mv 30 0,o1 31 (.len 49 false (tm 30)),o1 32 (bt .rem 3 29 31),o1 33 (.indexAddr 49 42 2 (tm 27) (tm 32)),o1 34 (ln 42 2 33),o1 35 (ln 42 2 10),mv 36 1,mv 37 9,o1 38 (bk .add 3 37 1),mv 39 1,o1 40 (.len 49 false (tm 39)),o1 41 (bt .rem 3 38 40),o1 42 (.indexAddr 49 42 2 (tm 36) (tm 41)),o1 43 (ln 42 2 42),o1 44 (.callv (tm 25) [(tm 26),(tm 34),(tm 35),(tm 43)] [42,42,42,42] .snap)] 0 (some [[],[],[],[],[3],[],[5],(rl 3 4 []),(rl 2 6 []),(rl 2 7 []),[],[],[],[12],[],[14],(rl 12 4 []),(rl 11 6 []),(rl 11 7 []),(rl 0 19 [])])) []
  (.cond (tm 44)
  (.seq (.region 8 [o1 6 (sb true)] 0 none) []
   (.ret (rl 0 6 (rl 7 40 []))))
  .skip)))) (6::9::10::(rl 22 23 []))
 ZI)
def PJ:AC:=(.seq (.region 5 [o1 21 (bt .lss 3 20 19)] 0 none) []
 (.seq (.cond (tm 21)
 .skip
 (.exit 2 (rl 3 8 (rl 14 33 [])))) []
 ZH))
def PI:AC:=(.region 10 [o1 46 (bk .add 3 13 1),mv 13 46] 0 none)
def ZG:AC:=(.seq (.block 1
 (.seq (.region 3 [mv 15 13,o1 16 (.indexAddr 49 42 2 (tm 11) (tm 13)),o1 17 (ln 42 2 16),o1 8 (.alloc 0 42 [vci 0,vci 0]),o1 7 (sg 15),o0 (.store 42 2 (tm 8) (tm 17))] 1 none) []
  (.seq (.region 4 [mv 18 1,o1 19 (.len 49 false (tm 18)),o1 20 (.move (ic 0))] 0 none) []
  (.block 2
  (.loop [] (rl 3 4 (9::10::(rl 14 4 (rl 21 26 []))))
   PJ))))) (rl 6 5 (rl 15 31 []))
 PI)
def B5:AC:=(.seq (.region 2 [o1 14 (bt .lss 3 13 12)] 0 none) []
 (.seq (.cond (tm 14)
 .skip
 (.exit 0 (rl 0 47 []))) []
 ZG))
def T5:AC:=(.seq (.region 11 [o1 6 (sb false)] 0 none) []
 (.ret (rl 0 6 (rl 7 40 []))))
def A81:AF:=⟨47,[.tmp 6],
 (.seq (.region 0 [o1 6 (sb false)] 0 none) []
 (.seq (.seq (.region 1 [mv 11 0,o1 12 (.len 49 false (tm 11)),o1 13 (.move (ic 0))] 0 none) []
 (.block 0
 (.loop [] (rl 3 8 (rl 14 33 []))
  B5))) (rl 6 41 [])
 T5))⟩
def Tw:St->Option St:=nN 1 (rl 3 4 (9::10::(rl 14 4 (rl 21 26 []))))
def RO:St:=⟨(.x (.c (ro kP n0 f0))::.x (.c (ro kP n1 f1))::.x (.c (.fn 79 0 (au [])))::(us 4 (vxi i0::.x (.ptr 0 0)::.u::.u::.x (.c (ro kP n0 f0))::vxi i1::vxi i0::(us 4 (.x (.c (ro kP n1 f1))::vxi i2::vxi i3::(us 26 [])))))),[.box [(vci i4),(vci i5)]]⟩
def Xw:St:=⟨(us 6 (vxb true::(us 40 []))),[.box [(vci i0),(vci i1)],.box [(vci i2),(vci i3)]]⟩
def RN:St:=⟨(.x (.c (ro kP n0 f0))::.x (.c (ro kP n1 f1))::.x (.c (.fn 79 0 (au [])))::(us 8 (.x (.c (ro kP n0 f0))::vxi i0::vxi i1::(us 33 [])))),[.box [(vci i2),(vci i3)]]⟩
def rT {ρ:Type} (u:Nat) (x0:Nat) (x1:FF) (x2:Nat) (x3:FF) (x4 x5 x6 x7 x8:Int):Nat->Int->(Int->Int->Option ρ)->(Option ρ)->Option ρ
 | 0,_,_,_=>none
 | m+1,x9,k0,k1 =>
  (bif (decide (x9<x6)) then (bif (inb x9 x2) then (bif ((Int.ofNat x0)==0) then none else (bif (inb (Int.tmod (w64 (x4+1)) (Int.ofNat x0)) x0) then (bif ((Int.ofNat x2)==0) then none else (bif (inb (Int.tmod (w64 (x9+1)) (Int.ofNat x2)) x2) then (ob (F56 u x7 x8 ((x1 (Int.toNat (Int.tmod (w64 (x4+1)) (Int.ofNat x0))) 0).int) ((x1 (Int.toNat (Int.tmod (w64 (x4+1)) (Int.ofNat x0))) 1).int) (x3 x9.toNat 0).int (x3 x9.toNat 1).int ((x3 (Int.toNat (Int.tmod (w64 (x9+1)) (Int.ofNat x2))) 0).int) ((x3 (Int.toNat (Int.tmod (w64 (x9+1)) (Int.ofNat x2))) 1).int)) fun xA=>(bif xA then (k0 (x3 x9.toNat 0).int (x3 x9.toNat 1).int) else (rT u x0 x1 x2 x3 x4 x5 x6 x7 x8 m (w64 (x9+1)) k0 k1))) else none)) else none)) else none) else k1)
theorem Nw:∀ (m:Nat) (x0:Int) (k0:Int->Int->Option ρ) (k1:Option ρ),ob (rT u n0 f0 n1 f1 i0 i1 i2 i3 i4 m x0 k0 k1) ng=rT u n0 f0 n1 f1 i0 i1 i2 i3 i4 m x0 (fun x1 x2=>ob (k0 x1 x2) ng) (ob k1 ng)
 | 0,_,_,_=>rfl
 | m+1,x0,k0,k1=>by
  simp only [rT,ak,aw,af,Nw m]
theorem SD:∀ (m:Nat) (x0:Int),
  am (eB PJ (C23 u) u) Tw m (RO n0 n1 f0 f1 i0 i1 i2 x0 i3 i4) k=rT u n0 f0 n1 f1 i0 i1 i2 i3 i4 m x0 (fun x1 x2=>k .ret (Xw i3 i4 x1 x2)) (k (.exit 2) (RN n0 n1 f0 f1 i1 i0 i3 i4))
 | 0,_=>rfl
 | m+1,x0=>by
  simp only [rT,<- SD m]
  kernel_rfl
def De:St->Option St:=nN 0 (rl 3 8 (rl 14 33 []))
def HF:St:=⟨(.x (.c (ro kP n0 f0))::.x (.c (ro kP n1 f1))::.x (.c (.fn 79 0 (au [])))::(us 8 (.x (.c (ro kP n0 f0))::vxi i0::vxi i1::(us 33 [])))),[]⟩
def Xv:St:=⟨(us 6 (vxb true::(us 40 []))),[.box [(vci i0),(vci i1)],.box [(vci i2),(vci i3)]]⟩
def RM:St:=⟨(us 47 []),[]⟩
def rS {ρ:Type} (u:Nat) (x0:Nat) (x1:FF) (x2:Nat) (x3:FF) (x4:Int):Nat->Int->(Int->Int->Int->Int->Option ρ)->(Option ρ)->Option ρ
 | 0,_,_,_=>none
 | m+1,x5,k0,k1 =>
  (bif (decide (x5<x4)) then (bif (inb x5 x0) then (rT u x0 x1 x2 x3 x5 x4 (Int.ofNat x2) (x1 x5.toNat 0).int (x1 x5.toNat 1).int u 0
  (fun x6 x7=>(k0 (x1 x5.toNat 0).int (x1 x5.toNat 1).int x6 x7))
  (rS u x0 x1 x2 x3 x4 m (w64 (x5+1)) k0 k1)) else none) else k1)
theorem Nv:∀ (m:Nat) (x0:Int) (k0:Int->Int->Int->Int->Option ρ) (k1:Option ρ),ob (rS u n0 f0 n1 f1 i0 m x0 k0 k1) ng=rS u n0 f0 n1 f1 i0 m x0 (fun x1 x2 x3 x4=>ob (k0 x1 x2 x3 x4) ng) (ob k1 ng)
 | 0,_,_,_=>rfl
 | m+1,x0,k0,k1=>by
  simp only [rS,ak,aw,af,Nv m,Nw]
theorem XR :
  am (eB B5 (C23 u) u) De (m+1) (HF n0 n1 f0 f1 i0 i1) k =
  (bif (decide (i1<i0)) then (bif (inb i1 n0) then (am (eB PJ (C23 u) u) Tw u (RO n0 n1 f0 f1 i1 i0 (Int.ofNat n1) 0 (f0 i1.toNat 0).int (f0 i1.toNat 1).int) (aA 2 (aA 1 (aI (C23 u) u (rl 6 5 (rl 15 31 [])) PI (aN (eB B5 (C23 u) u) De m k))))) else none) else (k (.exit 0) RM)):=by kernel_rfl
theorem Yg :
  (aA 2 (aA 1 (aI (C23 u) u (rl 6 5 (rl 15 31 [])) PI (aN (eB B5 (C23 u) u) De m k)))) (.exit 2) (RN n0 n1 f0 f1 i0 i1 (f0 i1.toNat 0).int (f0 i1.toNat 1).int) =
  (am (eB B5 (C23 u) u) De m (HF n0 n1 f0 f1 i0 (w64 (i1+1))) k):=by kernel_rfl
theorem SC:∀ (m:Nat) (x0:Int),
  am (eB B5 (C23 u) u) De m (HF n0 n1 f0 f1 i0 x0) k=rS u n0 f0 n1 f1 i0 m x0 (fun x1 x2 x3 x4=>k .ret (Xv x1 x2 x3 x4)) (k (.exit 0) RM)
 | 0,_=>rfl
 | m+1,x0=>by
  rw [XR]
  simp only [rS,SC m,SD,Yg]<;>kernel_rfl
def F58 (x0:Nat) (x1:FF) (x2:Nat) (x3:FF):Option (Bool) :=
 (rS u x0 x1 x2 x3 (Int.ofNat x0) u 0
  (fun x4 x5 x6 x7=>(some true))
  (some false))
theorem e58:aD (C23 u) u A81 [.v (ro kP n0 f0),.v (ro kP n1 f1),.v (.fn 79 0 (au []))]=ob (F58 u n0 f0 n1 f1) fun t=>some [.v (.b t)]:=Eq.trans (b:=(am (eB B5 (C23 u) u) De u (HF n0 n1 f0 f1 (Int.ofNat n0) 0) (aA 0 (aI (C23 u) u (rl 6 41 []) T5 (aH A81))))) (by kernel_rfl) (by
 simp only [F58,ak,aw,af,aa,Nv,SC]<;>kernel_rfl)
def O58:Ora:=mkO (qc (av (cL kP)) (qc (av (cL kP)) (q1 (av (cF 79 0 t0))))) (fun x=>F58 u x.1.1 x.1.2 x.2.1.1 x.2.1.2) fun t=>[.v (.b t)]
theorem d58:DO (O58 u) (C23 u) 81 A81:=dO u (fun x=>by exact e58 u x.1.1 x.2.1.1 x.1.2 x.2.1.2)
def C24:ao:=(C23 u).add 81 (fun l=>Fm 79 l 2) (O58 u)
def B96:An tT Tryz.f96 [.k (4::(rl 10 7 [])),.k (rl 0 4 (rl 5 58 [])),.k (4::(rl 6 4 (rl 17 45 []))),.h [],.k (1::2::4::(rl 6 11 (rl 20 43 []))),.k [],.k (rl 0 5 (rl 6 57 [])),.k (4::(rl 6 4 (rl 21 40 []))),.k (4::(rl 32 4 [])),.k (rl 0 4 (rl 5 58 [])),.k (rl 36 11 []),.k (1::2::4::(rl 6 11 (rl 20 43 []))),.k [4,62],.k (rl 0 4 (rl 5 58 [])),.k (rl 0 4 (rl 5 58 []))]:=by
 apply Subtype.mk;cbv<;>exact rfl
def A96:AF:=B96.1
def TQ:AC:=sA A96.body [1,1]
def Zv:AC:=sA TQ [1,1]
def TR:AC:=sA TQ [1,0,1,0,0]
def Tu:St->Option St:=nN 1 (1::2::4::(rl 6 11 (rl 20 43 [])))
def RG:St:=⟨(.x (.c (ro kP n0 f0))::.u::.u::.x (.ptr 0 0)::.u::vxb b0::(us 11 (.x (.c (ro kP n0 f0))::vxi i0::vxi i1::(us 43 [])))),[.box [(vci i2),(vci i3)]]⟩
def Xs:St:=⟨(us 4 (vxi 0::(us 58 []))),[.box [(vci i0),(vci i1)],.box [(vci i2),(vci i3)],.box [(vci i4),(vci i5)]]⟩
def Xr:St:=⟨(us 5 (vxb b0::(us 57 []))),[.box [(vci i0),(vci i1)]]⟩
def oi {ρ:Type} (u:Nat) (x0:Nat) (x1:FF) (x2 x3 x4:Int):Nat->Bool->Int->(Int->Int->Int->Int->Option ρ)->(Bool->Option ρ)->Option ρ
 | 0,_,_,_,_=>none
 | m+1,x5,x6,k0,k1 =>
  (bif (decide (x6<x2)) then (bif (inb x6 x0) then (bif ((Int.ofNat x0)==0) then none else (bif (inb (Int.tmod (w64 (x6+1)) (Int.ofNat x0)) x0) then (ob (F81 u (x1 x6.toNat 0).int (x1 x6.toNat 1).int ((x1 (Int.toNat (Int.tmod (w64 (x6+1)) (Int.ofNat x0))) 0).int) ((x1 (Int.toNat (Int.tmod (w64 (x6+1)) (Int.ofNat x0))) 1).int) x3 x4) fun x7=>(bif x7 then (k0 (x1 x6.toNat 0).int (x1 x6.toNat 1).int ((x1 (Int.toNat (Int.tmod (w64 (x6+1)) (Int.ofNat x0))) 0).int) ((x1 (Int.toNat (Int.tmod (w64 (x6+1)) (Int.ofNat x0))) 1).int)) else (bif ((decide ((x1 x6.toNat 1).int>x4))==(decide (((x1 (Int.toNat (Int.tmod (w64 (x6+1)) (Int.ofNat x0))) 1).int)>x4))) then (oi u x0 x1 x2 x3 x4 m x5 (w64 (x6+1)) k0 k1) else (ob (F79 u (x1 x6.toNat 0).int (x1 x6.toNat 1).int ((x1 (Int.toNat (Int.tmod (w64 (x6+1)) (Int.ofNat x0))) 0).int) ((x1 (Int.toNat (Int.tmod (w64 (x6+1)) (Int.ofNat x0))) 1).int) x3 x4) fun x8=>(bif ((decide (x8>0))==(decide (((x1 (Int.toNat (Int.tmod (w64 (x6+1)) (Int.ofNat x0))) 1).int)>(x1 x6.toNat 1).int))) then (oi u x0 x1 x2 x3 x4 m (!x5) (w64 (x6+1)) k0 k1) else (oi u x0 x1 x2 x3 x4 m x5 (w64 (x6+1)) k0 k1)))))) else none)) else none) else (k1 x5))
theorem Nr:∀ (m:Nat) (x0:Bool) (x1:Int) (k0:Int->Int->Int->Int->Option ρ) (k1:Bool->Option ρ),ob (oi u n0 f0 i0 i1 i2 m x0 x1 k0 k1) ng=oi u n0 f0 i0 i1 i2 m x0 x1 (fun x2 x3 x4 x5=>ob (k0 x2 x3 x4 x5) ng) (fun x6=>ob (k1 x6) ng)
 | 0,_,_,_,_=>rfl
 | m+1,x0,x1,k0,k1=>by
  simp only [oi,ak,aw,af,Nr m]
theorem Sy:∀ (m:Nat) (x0:Bool) (x1:Int),
  am (eB TR (C24 u) u) Tu m (RG n0 f0 i0 x1 i1 i2 x0) k=oi u n0 f0 i0 i1 i2 m x0 x1 (fun x2 x3 x4 x5=>k .ret (Xs i1 i2 x2 x3 x4 x5)) (fun x6=>k (.exit 0) (Xr i1 i2 x6))
 | 0,_,_=>rfl
 | m+1,x0,x1=>by
  simp only [oi,<- Sy m]
  kernel_rfl
def F65 (x0:Nat) (x1:FF) (x2 x3:Int):Option (Int) :=
 (ob (F61 u x2 x3) fun x4=>(bif (x4==false) then (ob (F33 u x0 x1) fun x5=>(bif (x5 != 0) then (some (-1)) else (oi u x0 x1 (Int.ofNat x0) x2 x3 u false 0
  (fun x6 x7 x8 x9=>(some 0))
  (fun xA=>(bif xA then (some 1) else (some (-1))))))) else (some (-1))))
theorem e65:aD (C24 u) u A96 [.v (ro kP n0 f0),.agg [(vi i0),(vi i1)]]=ob (F65 u n0 f0 i0 i1) fun t=>some [.v (vi t)]:=Eq.trans (b:=(ob (F61 u i0 i1) fun x0=>(bif (x0==false) then (ob (F33 u n0 f0) fun x1=>(bif (x1 != 0) then (some [.v (vi (-1))]) else (am (eB TR (C24 u) u) Tu u (RG n0 f0 (Int.ofNat n0) 0 i0 i1 false) (aA 0 (aI (C24 u) u (4::(rl 6 4 (rl 17 45 []))) Zv (aH A96)))))) else (some [.v (vi (-1))])))) (by kernel_rfl) (by
 simp only [F65,ak,aw,af,aa,Nr,Sy]<;>kernel_rfl)
def O65:Ora:=mkO (qc (av (cL kP)) (q1 (ag (tc ci (t1 ci))))) (fun x=>F65 u x.1.1 x.1.2 x.2.1 x.2.2) fun t=>[.v (vi t)]
theorem d65:DO (O65 u) (C24 u) 96 A96:=dO u (fun x=>by exact e65 u x.1.1 x.1.2 x.2.1 x.2.2)
def C25:ao:=(C24 u).add 96 (fun _=>true) (O65 u)
def B95:An tT Tryz.f95 [.k (0::1::2::(rl 4 4 []))]:=by
 apply Subtype.mk;cbv<;>exact rfl
def A95:AF:=B95.1
def F64 (x0 x1:Int) (x2:Nat->CV):Option (Bool) :=
 (ob (F65 u (x2 0).len (x2 0).el x0 x1) fun x3=>(some (x3 != 1)))
theorem e64:aD (C25 u) u A95 [.agg [(vi i0),(vi i1)],.v (.rp kF g0)]=ob (F64 u i0 i1 g0) fun t=>some [.v (.b t)]:=by
 simp only [F64,ak,aw,af,aa]
 kernel_rfl
def O64:Ora:=mkO (qc (ag (tc ci (t1 ci))) (q1 (av (cP kF)))) (fun x=>F64 u x.1.1 x.1.2 x.2) fun t=>[.v (.b t)]
theorem d64:DO (O64 u) (C25 u) 95 A95:=dO u (fun x=>by exact e64 u x.1.1 x.1.2 x.2)
def C26:ao:=(C25 u).add 95 (fun _=>true) (O64 u)
def OX:St->Option St:=nN 0 (rl 2 5 (rl 9 10 []))
def Lj:St:=⟨(.x (.c (ro kP n0 f0))::.x (.c (.fn 95 1 (au [(.rp kF g0)])))::(us 5 (vxi i0::vxi i1::(us 10 [])))),[]⟩
def Vi:St:=⟨(us 4 (vxi i0::(us 14 []))),[]⟩
def Vh:St:=⟨(us 19 []),[]⟩
def mQ {ρ:Type} (u:Nat) (x0:Nat) (x1:FF) (x2:Nat->CV) (x3:Int):Nat->Int->(Int->Option ρ)->(Option ρ)->Option ρ
 | 0,_,_,_=>none
 | m+1,x4,k0,k1 =>
  (bif (decide (x4<x3)) then (bif (inb x4 x0) then (ob (F64 u (x1 x4.toNat 0).int (x1 x4.toNat 1).int x2) fun x5=>(bif x5 then (k0 x4) else (mQ u x0 x1 x2 x3 m (w64 (x4+1)) k0 k1))) else none) else k1)
theorem Ik:∀ (m:Nat) (x0:Int) (k0:Int->Option ρ) (k1:Option ρ),ob (mQ u n0 f0 g0 i0 m x0 k0 k1) ng=mQ u n0 f0 g0 i0 m x0 (fun x1=>ob (k0 x1) ng) (ob k1 ng)
 | 0,_,_,_=>rfl
 | m+1,x0,k0,k1=>by
  simp only [mQ,ak,aw,af,Ik m]
theorem Mk:∀ (m:Nat) (x0:Int),
  am (eB BZ (C26 u) u) OX m (Lj n0 f0 i0 x0 g0) k=mQ u n0 f0 g0 i0 m x0 (fun x1=>k .ret (Vi x1)) (k (.exit 0) Vh)
 | 0,_=>rfl
 | m+1,x0=>by
  simp only [mQ,<- Mk m]
  kernel_rfl
def Px (x0:Nat) (x1:FF) (x2:Nat->CV):Option (Int) :=
 (mQ u x0 x1 x2 (Int.ofNat x0) u 0
  (fun x3=>(some x3))
  (some (-1)))
theorem aaX:aD (C26 u) u A92 [.v (ro kP n0 f0),.v (.fn 95 1 (au [(.rp kF g0)]))]=ob (Px u n0 f0 g0) fun t=>some [.v (vi t)]:=Eq.trans (b:=(am (eB BZ (C26 u) u) OX u (Lj n0 f0 (Int.ofNat n0) 0 g0) (aA 0 (aI (C26 u) u (rl 4 15 []) Jw (aH A92))))) (by kernel_rfl) (by
 simp only [Px,ak,aw,af,aa,Ik,Mk]<;>kernel_rfl)
def YR:Ora:=mkO (qc (av (cL kP)) (q1 (av (cF 95 1 (t1 (cP kF)))))) (fun x=>Px u x.1.1 x.1.2 x.2) fun t=>[.v (vi t)]
theorem abA:DO (YR u) (C26 u) 92 A92:=dO u (fun x=>by exact aaX u x.1.1 x.1.2 x.2)
def C27:ao:=(C26 u).add 92 (fun l=>Fm 95 l 1) (YR u)
def Py (x0:Nat) (x1:FF) (x2:Nat->CV):Option (Bool) :=
 (ob (Px u x0 x1 x2) fun x3=>(some (decide (x3>=0))))
theorem aaZ:aD (C27 u) u A69 [.v (ro kP n0 f0),.v (.fn 95 1 (au [(.rp kF g0)]))]=ob (Py u n0 f0 g0) fun t=>some [.v (.b t)]:=by
 simp only [Py,ak,aw,af,aa]
 kernel_rfl
def YT:Ora:=mkO (qc (av (cL kP)) (q1 (av (cF 95 1 (t1 (cP kF)))))) (fun x=>Py u x.1.1 x.1.2 x.2) fun t=>[.v (.b t)]
theorem abC:DO (YT u) (C27 u) 69 A69:=dO u (fun x=>by exact aaZ u x.1.1 x.1.2 x.2)
def C28:ao:=(C27 u).add 69 (fun l=>Fm 95 l 1) (YT u)
def B73:An tT Tryz.f73 [.k (rl 0 4 (rl 5 10 []))]:=by
 apply Subtype.mk;cbv<;>exact rfl
def A73:AF:=B73.1
def F35 (x0:Nat) (x1:FF) (x2:Nat) (x3:FF):Option (Bool) :=
 (ob (F58 u x0 x1 x2 x3) fun x4=>(bif ((!x4)==true) then (ob (Py u x0 x1 (au [(.ro false (.pr (.int .i64) (.pr (.int .i64) .nil)) x2 x3)])) fun x5=>(some (!x5))) else (some false)))
theorem e35:aD (C28 u) u A73 [.v (ro kP n0 f0),.v (ro kP n1 f1)]=ob (F35 u n0 f0 n1 f1) fun t=>some [.v (.b t)]:=by
 simp only [F35,ak,aw,af,aa]
 kernel_rfl
def O35:Ora:=mkO (qc (av (cL kP)) (q1 (av (cL kP)))) (fun x=>F35 u x.1.1 x.1.2 x.2.1 x.2.2) fun t=>[.v (.b t)]
theorem d35:DO (O35 u) (C28 u) 73 A73:=dO u (fun x=>by exact e35 u x.1.1 x.2.1 x.1.2 x.2.2)
def C29:ao:=(C28 u).add 73 (fun _=>true) (O35 u)
def B74:An tT Tryz.f74 [.k (rl 0 4 (rl 5 20 []))]:=by
 apply Subtype.mk;cbv<;>exact rfl
def A74:AF:=B74.1
def F36 (x0:Nat) (x1:FF) (x2:Nat) (x3:FF):Option (Bool) :=
 (ob (F58 u x0 x1 x2 x3) fun x4=>(bif ((!x4)==true) then (bif (inb 0 x2) then (ob (F65 u x0 x1 (x3 0 0).int (x3 0 1).int) fun x5=>(bif ((decide (x5<0))==true) then (bif (inb 0 x0) then (ob (F65 u x2 x3 (x1 0 0).int (x1 0 1).int) fun x6=>(some (decide (x6<0)))) else none) else (some false))) else none) else (some false)))
theorem e36:aD (C29 u) u A74 [.v (ro kP n0 f0),.v (ro kP n1 f1)]=ob (F36 u n0 f0 n1 f1) fun t=>some [.v (.b t)]:=by
 simp only [F36,ak,aw,af,aa]
 kernel_rfl
def O36:Ora:=mkO (qc (av (cL kP)) (q1 (av (cL kP)))) (fun x=>F36 u x.1.1 x.1.2 x.2.1 x.2.2) fun t=>[.v (.b t)]
theorem d36:DO (O36 u) (C29 u) 74 A74:=dO u (fun x=>by exact e36 u x.1.1 x.2.1 x.1.2 x.2.2)
def C30:ao:=(C29 u).add 74 (fun _=>true) (O36 u)
def B46:An tT Tryz.f46 [.k (2::(rl 9 4 [])),.k (0::1::(rl 3 58 [])),.k (2::3::(rl 13 6 [])),.k (0::1::(rl 3 58 [])),.k (2::(rl 19 4 [])),.k (0::1::(rl 3 58 [])),.k (2::4::5::6::8::(rl 23 38 [])),.h [],.k (0::(rl 2 22 (rl 27 34 []))),.k [],.k (rl 0 61 []),.k (2::4::5::6::8::(rl 28 32 [])),.k (2::6::(rl 31 5 [])),.k (0::1::(rl 3 58 [])),.k (2::(rl 36 10 [])),.k (0::1::(rl 3 58 [])),.h [],.k (0::2::3::4::(rl 6 18 (rl 27 22 (rl 52 9 [])))),.k [],.k (0::(rl 2 22 (rl 27 34 []))),.k (2::8::(rl 53 6 [])),.k (0::1::(rl 3 58 [])),.k (0::1::(rl 3 58 []))]:=by
 apply Subtype.mk;cbv<;>exact rfl
def A46:AF:=B46.1
def W3:AC:=sA A46.body [1,1]
def W4:AC:=sA W3 [1]
def PP:AC:=sA W4 [1]
def ZY:AC:=sA PP [1]
def Ca:AC:=sA PP [0,1,0,0]
def Uh:AC:=sA Ca [1,1]
def Ui:AC:=sA Uh [1]
def ZZ:AC:=sA Uh [0,0,1,1]
def Z0:AC:=sA ZZ [1]
def Uj:AC:=sA Z0 [1,0,0]
def TN:St->Option St:=nN 1 (0::2::3::4::(rl 6 18 (rl 27 22 (rl 52 9 []))))
def Sl:St:=⟨(.u::.x (.ptr 0 0)::(us 3 (.x (.c (ro kP n0 f0))::(us 18 (.x (.c (ro kF n1 f1))::vxi i0::vxi i1::(us 22 (.x (.c (ro kF n2 f1))::vxi i2::vxi i3::(us 9 [])))))))),[.box [(.c (ro kP n3 f2)),(.c (ro kF n1 f1))]]⟩
def XL:St:=⟨(.u::.u::vxi 17::(us 58 [])),[.box [(.c (ro kP n0 f0)),(.c (ro kF n1 f1))]]⟩
def Sk:St:=⟨(.u::.x (.ptr 0 0)::(us 22 (.x (.c (ro kF n0 f0))::vxi i0::vxi i1::(us 34 [])))),[.box [(.c (ro kP n1 f1)),(.c (ro kF n0 f0))]]⟩
def si {ρ:Type} (u:Nat) (x0:Nat) (x1:FF) (x2:Nat) (x3:FF) (x4 x5:Int) (x6:Nat) (x7:Int) (x8:Nat) (x9:FF):Nat->Int->(Option ρ)->(Option ρ)->Option ρ
 | 0,_,_,_=>none
 | m+1,xA,k0,k1 =>
  (bif (decide (xA<x7)) then (bif (inb xA x6) then (ob (F36 u x0 x1 (x3 xA.toNat 0).len (x3 xA.toNat 0).el) fun xB=>(bif (!xB) then k0 else (si u x0 x1 x2 x3 x4 x5 x6 x7 x8 x9 m (w64 (xA+1)) k0 k1))) else none) else k1)
theorem NU:∀ (m:Nat) (x0:Int) (k0:Option ρ) (k1:Option ρ),ob (si u n0 f0 n1 f1 i0 i1 n2 i2 n3 f2 m x0 k0 k1) ng=si u n0 f0 n1 f1 i0 i1 n2 i2 n3 f2 m x0 (ob k0 ng) (ob k1 ng)
 | 0,_,_,_=>rfl
 | m+1,x0,k0,k1=>by
  simp only [si,ak,aw,af,NU m]
theorem Tb:∀ (m:Nat) (x0:Int),
  am (eB Uj (C30 u) u) TN m (Sl n0 n1 n2 n3 f0 f1 f2 i0 i1 i2 x0) k=si u n0 f0 n1 f1 i0 i1 n2 i2 n3 f2 m x0 (k .ret (XL n3 n1 f2 f1)) (k (.exit 2) (Sk n1 n3 f1 f2 i0 i1))
 | 0,_=>rfl
 | m+1,x0=>by
  simp only [si,<- Tb m]
  kernel_rfl
def Di:St->Option St:=nN 1 (0::(rl 2 22 (rl 27 34 [])))
def HW:St:=⟨(.u::.x (.ptr 0 0)::(us 22 (.x (.c (ro kF n0 f0))::vxi i0::vxi i1::(us 34 [])))),[.box [(.c (ro kP n1 f1)),(.c (ro kF n0 f0))]]⟩
def HV:St:=⟨(.u::.u::vxi i0::(us 58 [])),[.box [(.c (ro kP n0 f0)),(.c (ro kF n1 f1))]]⟩
def Sj:St:=⟨(us 61 []),[.box [(.c (ro kP n0 f0)),(.c (ro kF n1 f1))]]⟩
def vo {ρ:Type} (u:Nat) (x0:Nat) (x1:FF) (x2:Int) (x3:Nat) (x4:FF):Nat->Int->(Int->Option ρ)->(Option ρ)->Option ρ
 | 0,_,_,_=>none
 | m+1,x5,k0,k1 =>
  (bif (decide (x5<x2)) then (bif (inb x5 x0) then (ob (F33 u (x1 x5.toNat 0).len (x1 x5.toNat 0).el) fun x6=>(bif (x6 != 0) then (k0 x6) else (ob (F34 u (x1 x5.toNat 0).len (x1 x5.toNat 0).el) fun x7=>(bif ((decide (x7>=0))==false) then (ob (F35 u (x1 x5.toNat 0).len (x1 x5.toNat 0).el x3 x4) fun x8=>(bif (!x8) then (k0 17) else (bif (oH x5 x0) then (si u (x1 x5.toNat 0).len (x1 x5.toNat 0).el x0 x1 x2 x5 (x5.toNat-0) (Int.ofNat (x5.toNat-0)) x3 x4 u 0
  (k0 17)
  (vo u x0 x1 x2 x3 x4 m (w64 (x5+1)) k0 k1)) else none))) else (k0 17))))) else none) else k1)
theorem NT:∀ (m:Nat) (x0:Int) (k0:Int->Option ρ) (k1:Option ρ),ob (vo u n0 f0 i0 n1 f1 m x0 k0 k1) ng=vo u n0 f0 i0 n1 f1 m x0 (fun x1=>ob (k0 x1) ng) (ob k1 ng)
 | 0,_,_,_=>rfl
 | m+1,x0,k0,k1=>by
  simp only [vo,ak,aw,af,NT m,NU]
theorem XX :
  am (eB Ca (C30 u) u) Di (m+1) (HW n0 n1 f0 f1 i0 i1) k =
  (bif (decide (i1<i0)) then (bif (inb i1 n0) then (ob (F33 u (f0 i1.toNat 0).len (f0 i1.toNat 0).el) fun x0=>(bif (x0 != 0) then (k .ret (HV n1 n0 f1 f0 x0)) else (ob (F34 u (f0 i1.toNat 0).len (f0 i1.toNat 0).el) fun x1=>(bif ((decide (x1>=0))==false) then (ob (F35 u (f0 i1.toNat 0).len (f0 i1.toNat 0).el n1 f1) fun x2=>(bif (!x2) then (k .ret (HV n1 n0 f1 f0 17)) else (bif (oH i1 n0) then (am (eB Uj (C30 u) u) TN u (Sl (f0 i1.toNat 0).len n0 (i1.toNat-0) n1 (f0 i1.toNat 0).el f0 f1 i0 i1 (Int.ofNat (i1.toNat-0)) 0) (aA 2 (aA 1 (aI (C30 u) u (2::4::5::6::8::(rl 28 32 [])) Ui (aN (eB Ca (C30 u) u) Di m k))))) else none))) else (k .ret (HV n1 n0 f1 f0 17)))))) else none) else (k (.exit 0) (Sj n1 n0 f1 f0))):=by kernel_rfl
theorem Yp :
  (aA 2 (aA 1 (aI (C30 u) u (2::4::5::6::8::(rl 28 32 [])) Ui (aN (eB Ca (C30 u) u) Di m k)))) (.exit 2) (Sk n0 n1 f0 f1 i0 i1) =
  (am (eB Ca (C30 u) u) Di m (HW n0 n1 f0 f1 i0 (w64 (i1+1))) k):=by kernel_rfl
theorem Ta:∀ (m:Nat) (x0:Int),
  am (eB Ca (C30 u) u) Di m (HW n0 n1 f0 f1 i0 x0) k=vo u n0 f0 i0 n1 f1 m x0 (fun x1=>k .ret (HV n1 n0 f1 f0 x1)) (k (.exit 0) (Sj n1 n0 f1 f0))
 | 0,_=>rfl
 | m+1,x0=>by
  rw [XX]
  simp only [vo,Ta m,Tb,Yp]<;>kernel_rfl
def F13 (x0:Nat) (x1:FF) (x2:Nat) (x3:FF):Option (Int) :=
 (bif (decide ((Int.ofNat x2)>8)) then (some 12) else (ob (F33 u x0 x1) fun x4=>(bif (x4 != 0) then (some x4) else (ob (F34 u x0 x1) fun x5=>(bif (decide (x5<=0)) then (some 17) else (vo u x2 x3 (Int.ofNat x2) x0 x1 u 0
  (fun x6=>(some x6))
  (some 0)))))))
theorem e13:aD (C30 u) u A46 [.agg [(ro kP n0 f0),(ro kF n1 f1)]]=ob (F13 u n0 f0 n1 f1) fun t=>some [.v (vi t)]:=Eq.trans (b:=(bif (decide ((Int.ofNat n1)>8)) then (some [.v (vi 12)]) else (ob (F33 u n0 f0) fun x0=>(bif (x0 != 0) then (some [.v (vi x0)]) else (ob (F34 u n0 f0) fun x1=>(bif (decide (x1<=0)) then (some [.v (vi 17)]) else (am (eB Ca (C30 u) u) Di u (HW n1 n0 f1 f0 (Int.ofNat n1) 0) (aA 0 (aI (C30 u) u (2::4::5::6::8::(rl 23 38 [])) ZY (aH A46)))))))))) (by kernel_rfl) (by
 simp only [F13,ak,aw,af,aa,NT,Ta]<;>kernel_rfl)
def O13:Ora:=mkO (q1 (ag (tc (cL kP) (t1 (cL kF))))) (fun x=>F13 u x.1.1 x.1.2 x.2.1 x.2.2) fun t=>[.v (vi t)]
theorem d13:DO (O13 u) (C30 u) 46 A46:=dO u (fun x=>by exact e13 u x.1.1 x.2.1 x.1.2 x.2.2)
def C31:ao:=(C30 u).add 46 (fun _=>true) (O13 u)
def aal:AC:=(.region 10 [o1 55 (bk .add 3 13 1),mv 13 55] 0 none)
def aak:AC:=(.seq (.block 1
 (.seq (.region 5 [o1 15 (.indexAddr 24 58 18 (tm 11) (tm 13)),o1 16 (ln 58 18 15),o1 8 (.alloc 0 58 [vcs ByteArray.empty,vci 0,vci 0,vcs ByteArray.empty,vcs ByteArray.empty,vci 0,vcn,vcn,vcs ByteArray.empty,vci 0,vci 0,vci 0,vci 0,vci 0,vci 0,vci 0,vci 0,vci 0]),o0 (.store 58 18 (tm 8) (tm 16))] 1 none) []
  (.seq (.region 6 [mv 17 6,o1 18 (fa 58 8 0 0),o1 19 (lo 9 18),o1 20 (.lookupB 101 (tm 17) (tm 19)),o1 21 (.unOp .not 4 (tm 20)),o1 9 (sg 21)] 0 none) []
  (.seq (.region 7 [mv 22 6,o1 23 (fa 58 8 0 0),o1 24 (lo 9 23),o0 (.mapPutT 101 (tm 22) (tm 24))] 0 none) []
  (.seq (.region 8 [mv 25 9,mv 26 25,og 27 (fa 58 8 2 2) 26 true,og 28 (lo 3 27) 26 true,og 29 (bk .eql 3 28 1) 26 true,o1 30 (po 26 29),mv 31 30,og 32 (fa 58 8 4 4) 31 true,og 33 (lo 9 32) 31 true,og 34 (fa 23 2 1 1) 31 true,og 35 (lo 9 34) 31 true,og 36 (bt .eql 9 33 35) 31 true,o1 37 (po 31 36),mv 38 37,og 39 (fa 58 8 5 5) 38 true,og 40 (lo 3 39) 38 true,og 41 (fa 23 2 2 2) 38 true,og 42 (lo 3 41) 38 true,og 43 (bt .eql 3 40 42) 38 true,o1 44 (po 38 43),mv 45 44,og 46 (fa 58 8 6 6) 45 true,og 47 (ln 52 2 46) 45 true,og 48 (cs 46 [47] [52]) 45 true,og 49 (bk .eql 35 48 0) 45 true,o1 50 (po 45 49)] 0 none) []
  (.cond (tm 50)
  (.region 9 [mv 51 5,o1 52 (ln 58 18 8),o1 53 (.buildSlice 0 24 58 kA 1 [vcs ByteArray.empty,vci 0,vci 0,vcs ByteArray.empty,vcs ByteArray.empty,vci 0,.c (.ro true kP 0 aR),.c (.ro true kF 0 aR),vcs ByteArray.empty,vci 0,vci 0,vci 0,vci 0,vci 0,vci 0,vci 0,vci 0,vci 0] [(0,(tm 52))]),o1 54 (.append 1 24 58 kA 208 (tm 51) (tm 53)),o1 5 (sg 54)] 2 none)
  .skip)))))) (8::9::(rl 15 40 []))
 aal)
def PZ:AC:=(.seq (.region 4 [o1 14 (bt .lss 3 13 12)] 0 none) []
 (.seq (.cond (tm 14)
 .skip
 (.ghost [0] (.exit 0 (rl 0 5 (rl 6 51 []))))) []
 aak))
def UF:AC:=(.seq (.region 11 [mv 56 5,o1 4 (sg 56)] 0 none) []
 (.ghost [0] (.ret (rl 0 4 (rl 5 52 [])))))
def A23:AF:=⟨57,[.tmp 4],
 (.seq (.region 0 [o1 2 (bx 0 23 0),o1 4 (.assign (.const (.slice none 0 0)))] 1 none) []
 (.seq (.region 1 [o1 5 (.assign (.const (.slice none 0 0)))] 0 none) []
 (.seq (.region 2 [o1 10 (.makeMap 0 101 2),o1 6 (sg 10)] 1 none) []
 (.seq (.seq (.region 3 [mv 11 1,o1 12 (.len 24 false (tm 11)),o1 13 (.move (ic 0))] 0 none) []
 (.block 0
 (.loop [.slot 5 kA] (0::1::3::4::(rl 7 4 (rl 14 43 [])))
  PZ))) (8::9::(rl 11 45 []))
 UF))))⟩
def Pf:St->Option St:=nN 3 (0::1::3::4::(rl 7 4 (rl 14 43 [])))
def L4:St:=⟨(.u::.u::.x (.ptr 0 0)::.u::.u::.x (.own 2 0 n0)::.x (.own 1 0 0)::(us 4 (.x (.c (ro kA n1 f0))::vxi i0::vxi i1::(us 43 [])))),[.box [(vcs w0),(vcs w1),(vci i2),(vci i3),(vci i4),(vcs w2)],.set 2 n2 f1,.arr kA n0 f2]⟩
def Vy:St:=⟨(us 5 (.x (.own 2 0 n0)::(us 51 []))),[.dead,.set 2 n1 f0,.arr kA n0 f1]⟩
def em {ρ:Type} (u:Nat) (x0:Nat) (x1:FF) (x2:Int) (x3 x4:ByteArray) (x5 x6 x7:Int) (x8:ByteArray):Nat->Nat->Int->Nat->FF->FF->(Nat->Nat->FF->FF->Option ρ)->Option ρ
 | 0,_,_,_,_,_,_=>none
 | m+1,x9,xA,xB,xC,xD,k0 =>
  (bif (decide (xA<x2)) then (bif (inb xA x0) then (bif ((!(lX xB xC (x1 xA.toNat 0).str==1))==true) then (bif (((x1 xA.toNat 2).int==1)==true) then (bif ((ByteArray.toList (x1 xA.toNat 4).str==ByteArray.toList x4)==true) then (bif (((x1 xA.toNat 5).int==x5)==true) then (ob (F13 u (x1 xA.toNat 6).len (x1 xA.toNat 6).el (x1 xA.toNat 7).len (x1 xA.toNat 7).el) fun xE=>(bif (xE==0) then (bif (Nat.ble (x9+1) 1073741824) then (em u x0 x1 x2 x3 x4 x5 x6 x7 x8 m (x9+1) (w64 (xA+1)) (oG xB xC (x1 xA.toNat 0).str) (oF xB xC (x1 xA.toNat 0).str 1) (aB x9 xD (aG 18 [(.s (x1 xA.toNat 0).str),(.i .i64 (x1 xA.toNat 1).int),(.i .i64 (x1 xA.toNat 2).int),(.s (x1 xA.toNat 3).str),(.s (x1 xA.toNat 4).str),(.i .i64 (x1 xA.toNat 5).int),(.ro false (.pr (.int .i64) (.pr (.int .i64) .nil)) (x1 xA.toNat 6).len (x1 xA.toNat 6).el),(.ro false (.pr (.sl (.pr (.int .i64) (.pr (.int .i64) .nil))) .nil) (x1 xA.toNat 7).len (x1 xA.toNat 7).el),(.s (x1 xA.toNat 8).str),(.i .i64 (x1 xA.toNat 9).int),(.i .i64 (x1 xA.toNat 10).int),(.i .i64 (x1 xA.toNat 11).int),(.i .i64 (x1 xA.toNat 12).int),(.i .i64 (x1 xA.toNat 13).int),(.i .i64 (x1 xA.toNat 14).int),(.i .i64 (x1 xA.toNat 15).int),(.i .i64 (x1 xA.toNat 16).int),(.i .i64 (x1 xA.toNat 17).int)])) k0) else none) else (em u x0 x1 x2 x3 x4 x5 x6 x7 x8 m x9 (w64 (xA+1)) (oG xB xC (x1 xA.toNat 0).str) (oF xB xC (x1 xA.toNat 0).str 1) xD k0))) else (em u x0 x1 x2 x3 x4 x5 x6 x7 x8 m x9 (w64 (xA+1)) (oG xB xC (x1 xA.toNat 0).str) (oF xB xC (x1 xA.toNat 0).str 1) xD k0)) else (em u x0 x1 x2 x3 x4 x5 x6 x7 x8 m x9 (w64 (xA+1)) (oG xB xC (x1 xA.toNat 0).str) (oF xB xC (x1 xA.toNat 0).str 1) xD k0)) else (em u x0 x1 x2 x3 x4 x5 x6 x7 x8 m x9 (w64 (xA+1)) (oG xB xC (x1 xA.toNat 0).str) (oF xB xC (x1 xA.toNat 0).str 1) xD k0)) else (em u x0 x1 x2 x3 x4 x5 x6 x7 x8 m x9 (w64 (xA+1)) (oG xB xC (x1 xA.toNat 0).str) (oF xB xC (x1 xA.toNat 0).str 1) xD k0)) else none) else (k0 x9 xB xC xD))
theorem IM:∀ (m:Nat) (x0:Nat) (x1:Int) (x2:Nat) (x3 x4:FF) (k0:Nat->Nat->FF->FF->Option ρ),ob (em u n0 f0 i0 w0 w1 i1 i2 i3 w2 m x0 x1 x2 x3 x4 k0) ng=em u n0 f0 i0 w0 w1 i1 i2 i3 w2 m x0 x1 x2 x3 x4 (fun x5 x6 x7 x8=>ob (k0 x5 x6 x7 x8) ng)
 | 0,_,_,_,_,_,_=>rfl
 | m+1,x0,x1,x2,x3,x4,k0=>by
  simp only [em,ak,aw,af,IM m]
theorem MK:∀ (m:Nat) (x0:Nat) (x1:Int) (x2:Nat) (x3 x4:FF),
  am (eB PZ (C31 u) u) Pf m (L4 x0 n0 x2 f0 x3 x4 i0 x1 i1 i2 i3 w0 w1 w2) k=em u n0 f0 i0 w0 w1 i1 i2 i3 w2 m x0 x1 x2 x3 x4 (fun x5 x6 x7 x8=>k (.exit 0) (Vy x5 x6 x7 x8))
 | 0,_,_,_,_,_=>rfl
 | m+1,x0,x1,x2,x3,x4=>by
  simp only [em,<- MK m]
  kernel_rfl
def te (x0 x1:ByteArray) (x2 x3 x4:Int) (x5:ByteArray) (x6:Nat) (x7:FF):Option (Nat × FF) :=
 (em u x6 x7 (Int.ofNat x6) x0 x1 x2 x3 x4 x5 u 0 0 0 (fun _ _=>.any) (fun _ _=>.any)
  (fun x8 x9 xA xB=>(some (x8,xB))))
theorem abm:aD (C31 u) u A23 [.agg [(.s w0),(.s w1),(vi i0),(vi i1),(vi i2),(.s w2)],.v (ro kA n0 f0)]=ob (te u w0 w1 i0 i1 i2 w2 n0 f0) fun t=>some [.v (ro kA t.1 t.2)]:=Eq.trans (b:=(am (eB PZ (C31 u) u) Pf u (L4 0 n0 0 f0 aR aR (Int.ofNat n0) 0 i0 i1 i2 w0 w1 w2) (aA 0 (aI (C31 u) u (8::9::(rl 11 45 [])) UF (aH A23))))) (by kernel_rfl) (by
 simp only [te,ak,aw,af,aa,IM,MK]<;>kernel_rfl)
def Zf:Ora:=mkO (qc (ag (tc cS (tc cS (tc ci (tc ci (tc ci (t1 cS))))))) (q1 (av (cL kA)))) (fun x=>te u x.1.1 x.1.2.1 x.1.2.2.1 x.1.2.2.2.1 x.1.2.2.2.2.1 x.1.2.2.2.2.2 x.2.1 x.2.2) fun t=>[.v (ro kA t.1 t.2)]
theorem abZ:DO (Zf u) (C31 u) 23 A23:=dO u (fun x=>by exact abm u x.2.1 x.2.2 x.1.2.2.1 x.1.2.2.2.1 x.1.2.2.2.2.1 x.1.1 x.1.2.1 x.1.2.2.2.2.2)
def C32:ao:=(C31 u).add 23 (fun _=>true) (Zf u)
def Ct (u:Nat) (n:Nat) (g:FF):Option FF:=Dp n g
def C33:ao:=(C32 u).addT 51 (fun r n g rest=>bif r.beq kD&&rest.isEmpty then Ct u n g else none)
def acz:An tT Tryz.f101 [.k (7::(rl 10 13 [])),.h [],.k (rl 0 4 (rl 6 4 (rl 13 12 []))),.k [],.k (rl 0 4 (rl 6 19 [])),.k (rl 0 4 (rl 6 19 []))]:=by
 apply Subtype.mk;cbv<;>exact rfl
def Qh:AF:=acz.1
def Xf:AC:=sA Qh.body [1,1,1]
def Qg:AC:=sA Qh.body [1,1,0,1,0,0]
def Tq:St->Option St:=nN 0 (rl 0 4 (rl 6 4 (rl 13 12 [])))
def Rx:St:=⟨(us 4 (vxi i0::vxi i1::(us 4 (.x (.c (ro kD n0 f0))::vxi i2::vxi i3::(us 12 []))))),[]⟩
def Xn:St:=⟨(us 4 (vxi i0::vxi i1::(us 19 []))),[]⟩
def vc {ρ:Type} (u:Nat) (x0:Nat) (x1:FF) (x2:Int):Nat->Int->Int->Int->(Int->Int->Option ρ)->Option ρ
 | 0,_,_,_,_=>none
 | m+1,x3,x4,x5,k0 =>
  (bif (decide (x5<x2)) then (bif (inb x5 x0) then (vc u x0 x1 x2 m (if (x1 x5.toNat 0).int<x3 then (x1 x5.toNat 0).int else x3) (if (x1 x5.toNat 0).int>x4 then (x1 x5.toNat 0).int else x4) (w64 (x5+1)) k0) else none) else (k0 x3 x4))
theorem Nk:∀ (m:Nat) (x0 x1 x2:Int) (k0:Int->Int->Option ρ),ob (vc u n0 f0 i0 m x0 x1 x2 k0) ng=vc u n0 f0 i0 m x0 x1 x2 (fun x3 x4=>ob (k0 x3 x4) ng)
 | 0,_,_,_,_=>rfl
 | m+1,x0,x1,x2,k0=>by
  simp only [vc,ak,aw,af,Nk m]
theorem Sr:∀ (m:Nat) (x0 x1 x2:Int),
  am (eB Qg (C33 u) u) Tq m (Rx n0 f0 x0 x1 i0 x2) k=vc u n0 f0 i0 m x0 x1 x2 (fun x3 x4=>k (.exit 0) (Xn x3 x4))
 | 0,_,_,_=>rfl
 | m+1,x0,x1,x2=>by
  simp only [vc,<- Sr m]
  kernel_rfl
def F72 (x0:Int) (x1:Nat) (x2:FF):Option (Int × Int) :=
 (vc u x1 x2 (Int.ofNat x1) u x0 x0 0
  (fun x3 x4=>(some (x3,x4))))
theorem e72:aD (C33 u) u Qh [.v (vi i0),.v (ro kD n0 f0)]=ob (F72 u i0 n0 f0) fun t=>some [.v (vi t.1),.v (vi t.2)]:=Eq.trans (b:=(am (eB Qg (C33 u) u) Tq u (Rx n0 f0 i0 i0 (Int.ofNat n0) 0) (aA 0 (aI (C33 u) u (7::(rl 10 13 [])) Xf (aH Qh))))) (by kernel_rfl) (by
 simp only [F72,ak,aw,af,aa,Nk,Sr]<;>kernel_rfl)
def O72:Ora:=mkO (qc (av ci) (q1 (av (cL kD)))) (fun x=>F72 u x.1 x.2.1 x.2.2) fun t=>[.v (vi t.1),.v (vi t.2)]
theorem d72:DO (O72 u) (C33 u) 101 Qh:=dO u (fun x=>by exact e72 u x.2.1 x.2.2 x.1)
def C34:ao:=(C33 u).add 101 (fun _=>true) (O72 u)
def B82:An tT Tryz.f82 [.k (rl 7 4 []),.k (0::1::(rl 3 50 [])),.k (6::(rl 11 17 [])),.h [.slot 3 kD,.slot 4 kD],.k (0::1::(rl 5 6 (rl 14 39 []))),.k [],.k (0::1::(rl 5 48 [])),.k (0::1::(rl 3 50 []))]:=by
 apply Subtype.mk;cbv<;>exact rfl
def A82:AF:=B82.1
def T3:AC:=sA A82.body [1,1]
def ZF:AC:=sA T3 [1,1]
def T4:AC:=sA T3 [1,0,1,0,0]
def Tz:St->Option St:=nN 3 (0::1::(rl 5 6 (rl 14 39 [])))
def RT:St:=⟨(.u::.u::.x (.ptr 0 0)::.x (.own 1 0 n0)::.x (.own 2 0 n0)::(us 6 (.x (.c (ro kP n1 f0))::vxi i0::vxi i1::(us 39 [])))),[.box [(vci 0),(vci 0),(vci 0),(vci 0)],.arr kD n0 f1,.arr kD n0 f2]⟩
def Xz:St:=⟨(.u::.u::.x (.ptr 0 0)::.x (.own 1 0 n0)::.x (.own 2 0 n0)::(us 48 [])),[.box [(vci 0),(vci 0),(vci 0),(vci 0)],.arr kD n0 f0,.arr kD n0 f1]⟩
def vh {ρ:Type} (u:Nat) (x0:Nat) (x1:FF) (x2:Int):Nat->Nat->Int->FF->FF->(Nat->FF->FF->Option ρ)->Option ρ
 | 0,_,_,_,_,_=>none
 | m+1,x3,x4,x5,x6,k0 =>
  (bif (decide (x4<x2)) then (bif (inb x4 x0) then (bif (Nat.ble (x3+1) 1073741824) then (bif (Nat.ble (x3+1) 1073741824) then (vh u x0 x1 x2 m (x3+1) (w64 (x4+1)) (aB x3 x5 (aG 1 [(.i .i64 (x1 x4.toNat 0).int)])) (aB x3 x6 (aG 1 [(.i .i64 (x1 x4.toNat 1).int)])) k0) else none) else none) else none) else (k0 x3 x5 x6))
theorem NB:∀ (m:Nat) (x0:Nat) (x1:Int) (x2 x3:FF) (k0:Nat->FF->FF->Option ρ),ob (vh u n0 f0 i0 m x0 x1 x2 x3 k0) ng=vh u n0 f0 i0 m x0 x1 x2 x3 (fun x4 x5 x6=>ob (k0 x4 x5 x6) ng)
 | 0,_,_,_,_,_=>rfl
 | m+1,x0,x1,x2,x3,k0=>by
  simp only [vh,ak,aw,af,NB m]
theorem SI:∀ (m:Nat) (x0:Nat) (x1:Int) (x2 x3:FF),
  am (eB T4 (C34 u) u) Tz m (RT x0 n0 f0 x2 x3 i0 x1) k=vh u n0 f0 i0 m x0 x1 x2 x3 (fun x4 x5 x6=>k (.exit 0) (Xz x4 x5 x6))
 | 0,_,_,_,_=>rfl
 | m+1,x0,x1,x2,x3=>by
  simp only [vh,<- SI m]
  kernel_rfl
def F46 (x0:Nat) (x1:FF):Option (Int × Int × Int × Int) :=
 (bif ((Int.ofNat x0)==0) then (some (0,0,0,0)) else (vh u x0 x1 (Int.ofNat x0) u 0 0 (fun _ _=>.any) (fun _ _=>.any)
  (fun x2 x3 x4=>(bif (inb 0 x2) then (ob (F72 u (x3 0 0).int x2 x3) fun x5=>(bif (inb 0 x2) then (ob (F72 u (x4 0 0).int x2 x4) fun x6=>(some (x5.1,x6.1,x5.2,x6.2))) else none)) else none))))
theorem e46:aD (C34 u) u A82 [.v (ro kP n0 f0)]=ob (F46 u n0 f0) fun t=>some [.agg [(vi t.1),(vi t.2.1),(vi t.2.2.1),(vi t.2.2.2)]]:=Eq.trans (b:=(bif ((Int.ofNat n0)==0) then (some [.agg [(vi 0),(vi 0),(vi 0),(vi 0)]]) else (am (eB T4 (C34 u) u) Tz u (RT 0 n0 f0 aR aR (Int.ofNat n0) 0) (aA 0 (aI (C34 u) u (6::(rl 11 17 [])) ZF (aH A82)))))) (by kernel_rfl) (by
 simp only [F46,ak,aw,af,aa,NB,SI]<;>kernel_rfl)
def O46:Ora:=mkO (q1 (av (cL kP))) (fun x=>F46 u x.1 x.2) fun t=>[.agg [(vi t.1),(vi t.2.1),(vi t.2.2.1),(vi t.2.2.2)]]
theorem d46:DO (O46 u) (C34 u) 82 A82:=dO u (fun x=>by exact e46 u x.1 x.2)
def C35:ao:=(C34 u).add 82 (fun _=>true) (O46 u)
def B50:An tT Tryz.f50 [.k [0,1,3,4,5]]:=by
 apply Subtype.mk;cbv<;>exact rfl
def A50:AF:=B50.1
def F20 (x0:Nat) (x1:FF) (x2:Nat) (x3:FF):Option (Int × Int × Int × Int) :=
 (ob (F46 u x0 x1) fun x4=>(some (x4.1,x4.2.1,x4.2.2.1,x4.2.2.2)))
theorem e20:aD (C35 u) u A50 [.agg [(ro kP n0 f0),(ro kF n1 f1)]]=ob (F20 u n0 f0 n1 f1) fun t=>some [.agg [(vi t.1),(vi t.2.1),(vi t.2.2.1),(vi t.2.2.2)]]:=by
 simp only [F20,ak,aw,af,aa]
 kernel_rfl
def O20:Ora:=mkO (q1 (ag (tc (cL kP) (t1 (cL kF))))) (fun x=>F20 u x.1.1 x.1.2 x.2.1 x.2.2) fun t=>[.agg [(vi t.1),(vi t.2.1),(vi t.2.2.1),(vi t.2.2.2)]]
theorem d20:DO (O20 u) (C35 u) 50 A50:=dO u (fun x=>by exact e20 u x.1.1 x.2.1 x.1.2 x.2.2)
def C36:ao:=(C35 u).add 50 (fun _=>true) (O20 u)
def B20:An tT Tryz.f20 [.k (4::5::8::(rl 14 20 [])),.g [0],.h [],.k (0::(rl 2 4 (rl 7 19 (rl 28 27 [])))),.k [],.g [0],.k (0::(rl 2 4 (rl 7 48 []))),.k (4::5::8::(rl 29 4 [])),.g [0,1],.k (rl 0 4 (rl 6 49 [])),.k (4::5::(rl 48 5 [])),.g [0,1],.k (rl 0 4 (rl 6 49 [])),.g [0,1],.k (rl 0 4 (rl 6 49 []))]:=by
 apply Subtype.mk;cbv<;>exact rfl
def A20:AF:=B20.1
def aam:AC:=sA A20.body [1,1,1]
def UK:AC:=sA A20.body [1,1,0,1,0,0,0]
def Pe:St->Option St:=nN 2 (0::(rl 2 4 (rl 7 19 (rl 28 27 []))))
def L3:St:=⟨(.u::vxi i0::(us 4 (.x (.ptr 1 0)::(us 19 (.agg [(vci i1),(vci i2),(vci i3),(vci i4)]::vxi i5::(us 27 [])))))),[.dead,.box [(vci i1),(vci i2),(vci i3),(vci i4)]]⟩
def Vx:St:=⟨(us 4 (vxi 0::vxi 0::(us 49 []))),[.dead,.dead]⟩
def Vw:St:=⟨(.u::vxi i0::(us 4 (.x (.ptr 1 0)::(us 48 [])))),[.dead,.box [(vci i1),(vci i2),(vci i3),(vci i4)]]⟩
def eF {ρ:Type} (u:Nat) (x0 x1 x2 x3 x4:Int):Nat->Int->(Option ρ)->(Option ρ)->Option ρ
 | 0,_,_,_=>none
 | m+1,x5,k0,k1 =>
  (bif (decide (x5<4)) then (bif (x5==0) then (ob (d8 u x1 (-1099511627776) 1099511627776) fun x6=>(bif (!x6) then k0 else (eF u x0 x1 x2 x3 x4 m (w64 (x5+1)) k0 k1))) else (bif (x5==1) then (ob (d8 u x2 (-1099511627776) 1099511627776) fun x7=>(bif (!x7) then k0 else (eF u x0 x1 x2 x3 x4 m (w64 (x5+1)) k0 k1))) else (bif (x5==2) then (ob (d8 u x3 (-1099511627776) 1099511627776) fun x8=>(bif (!x8) then k0 else (eF u x0 x1 x2 x3 x4 m (w64 (x5+1)) k0 k1))) else (bif (x5==3) then (ob (d8 u x4 (-1099511627776) 1099511627776) fun x9=>(bif (!x9) then k0 else (eF u x0 x1 x2 x3 x4 m (w64 (x5+1)) k0 k1))) else none)))) else k1)
theorem IL:∀ (m:Nat) (x0:Int) (k0:Option ρ) (k1:Option ρ),ob (eF u i0 i1 i2 i3 i4 m x0 k0 k1) ng=eF u i0 i1 i2 i3 i4 m x0 (ob k0 ng) (ob k1 ng)
 | 0,_,_,_=>rfl
 | m+1,x0,k0,k1=>by
  simp only [eF,ak,aw,af,IL m]
theorem MJ:∀ (m:Nat) (x0:Int),
  am (eB UK (C36 u) u) Pe m (L3 i0 i1 i2 i3 i4 x0) k=eF u i0 i1 i2 i3 i4 m x0 (k .ret Vx) (k (.exit 0) (Vw i0 i1 i2 i3 i4))
 | 0,_=>rfl
 | m+1,x0=>by
  simp only [eF,<- MJ m]
  kernel_rfl
def lG (x0:Nat->CV) (x1:Int):Option (Int × Int) :=
 (ob (F20 u (x0 6).len (x0 6).el (x0 7).len (x0 7).el) fun x2=>(eF u x1 x2.1 x2.2.1 x2.2.2.1 x2.2.2.2 u 0
  (some (0,0))
  (bif ((Int.tmod x1 2) != 0) then (some ((w64 (x2.2.2.2-x2.2.1)),(w64 (x2.2.2.1-x2.1)))) else (some ((w64 (x2.2.2.1-x2.1)),(w64 (x2.2.2.2-x2.2.1)))))))
theorem abl:aD (C36 u) u A20 [.agg (pj kR0 g0),.v (vi i0)]=ob (lG u g0 i0) fun t=>some [.v (vi t.1),.v (vi t.2)]:=Eq.trans (b:=(ob (F20 u (g0 6).len (g0 6).el (g0 7).len (g0 7).el) fun x0=>(am (eB UK (C36 u) u) Pe u (L3 i0 x0.1 x0.2.1 x0.2.2.1 x0.2.2.2 0) (aA 0 (aI (C36 u) u (4::5::8::(rl 14 20 [])) aam (aH A20)))))) (by kernel_rfl) (by
 simp only [lG,ak,aw,af,aa,IL,MJ]<;>kernel_rfl)
def Ze:Ora:=mkO (qc (ar kR0) (q1 (av ci))) (fun x=>lG u x.1 x.2) fun t=>[.v (vi t.1),.v (vi t.2)]
theorem abY:DO (Ze u) (C36 u) 20 A20:=dO u (fun x=>by exact abl u x.2 x.1)
def C37:ao:=(C36 u).add 20 (fun _=>true) (Ze u)
def B68:An tT Tryz.f68 [.k (0::1::(rl 3 18 []))]:=by
 apply Subtype.mk;cbv<;>exact rfl
def A68:AF:=B68.1
def F49 (u:Nat) (x0 x1:Int):Option (Bool) :=
 (bif ((decide (x0<(-1099511627776)))==false) then (bif ((decide (x0>1099511627776))==false) then (bif ((decide (x1<(-1099511627776)))==false) then (some (decide (x1>1099511627776))) else (some true)) else (some true)) else (some true))
theorem e49:aD (C37 u) u A68 [.agg [(vi i0),(vi i1)]]=ob (F49 u i0 i1) fun t=>some [.v (.b t)]:=by
 simp only [F49,ak,aw,af,aa]
 kernel_rfl
def O49:Ora:=mkO (q1 (ag (tc ci (t1 ci)))) (fun x=>F49 u x.1 x.2) fun t=>[.v (.b t)]
theorem d49:DO (O49 u) (C37 u) 68 A68:=dO u (fun x=>by exact e49 u x.1 x.2)
def C38:ao:=(C37 u).add 68 (fun _=>true) (O49 u)
def B66:An tT Tryz.f66 [.k (0::1::(rl 3 6 []))]:=by
 apply Subtype.mk;cbv<;>exact rfl
def A66:AF:=B66.1
def F42 (u:Nat) (x0:Nat) (x1:FF) (x2:Nat) (x3:FF):Option (Nat × FF) :=
 (bif (Nat.ble (1+x2) 1073741824) then (some ((1+x2),(aB 1 (aG 1 [(.ro false (.pr (.int .i64) (.pr (.int .i64) .nil)) x0 x1)]) x3))) else none)
theorem e42:aD (C38 u) u A66 [.agg [(ro kP n0 f0),(ro kF n1 f1)]]=ob (F42 u n0 f0 n1 f1) fun t=>some [.v (ro kF t.1 t.2)]:=by
 simp only [F42,ak,aw,af,aa]
 kernel_rfl
def O42:Ora:=mkO (q1 (ag (tc (cL kP) (t1 (cL kF))))) (fun x=>F42 u x.1.1 x.1.2 x.2.1 x.2.2) fun t=>[.v (ro kF t.1 t.2)]
theorem d42:DO (O42 u) (C38 u) 66 A66:=dO u (fun x=>by exact e42 u x.1.1 x.2.1 x.1.2 x.2.2)
def C39:ao:=(C38 u).add 66 (fun _=>true) (O42 u)
def OW:St->Option St:=nN 0 (rl 2 5 (rl 9 10 []))
def Li:St:=⟨(.x (.c (ro kP n0 f0))::.x (.c (.fn 68 0 (au [])))::(us 5 (vxi i0::vxi i1::(us 10 [])))),[]⟩
def Vg:St:=⟨(us 4 (vxi i0::(us 14 []))),[]⟩
def Vf:St:=⟨(us 19 []),[]⟩
def mP {ρ:Type} (u:Nat) (x0:Nat) (x1:FF) (x2:Int):Nat->Int->(Int->Option ρ)->(Option ρ)->Option ρ
 | 0,_,_,_=>none
 | m+1,x3,k0,k1 =>
  (bif (decide (x3<x2)) then (bif (inb x3 x0) then (ob (F49 u (x1 x3.toNat 0).int (x1 x3.toNat 1).int) fun x4=>(bif x4 then (k0 x3) else (mP u x0 x1 x2 m (w64 (x3+1)) k0 k1))) else none) else k1)
theorem Ij:∀ (m:Nat) (x0:Int) (k0:Int->Option ρ) (k1:Option ρ),ob (mP u n0 f0 i0 m x0 k0 k1) ng=mP u n0 f0 i0 m x0 (fun x1=>ob (k0 x1) ng) (ob k1 ng)
 | 0,_,_,_=>rfl
 | m+1,x0,k0,k1=>by
  simp only [mP,ak,aw,af,Ij m]
theorem Mj:∀ (m:Nat) (x0:Int),
  am (eB BZ (C39 u) u) OW m (Li n0 f0 i0 x0) k=mP u n0 f0 i0 m x0 (fun x1=>k .ret (Vg x1)) (k (.exit 0) Vf)
 | 0,_=>rfl
 | m+1,x0=>by
  simp only [mP,<- Mj m]
  kernel_rfl
def Pw (x0:Nat) (x1:FF):Option (Int) :=
 (mP u x0 x1 (Int.ofNat x0) u 0
  (fun x2=>(some x2))
  (some (-1)))
theorem aaW:aD (C39 u) u A92 [.v (ro kP n0 f0),.v (.fn 68 0 (au []))]=ob (Pw u n0 f0) fun t=>some [.v (vi t)]:=Eq.trans (b:=(am (eB BZ (C39 u) u) OW u (Li n0 f0 (Int.ofNat n0) 0) (aA 0 (aI (C39 u) u (rl 4 15 []) Jw (aH A92))))) (by kernel_rfl) (by
 simp only [Pw,ak,aw,af,aa,Ij,Mj]<;>kernel_rfl)
def YQ:Ora:=mkO (qc (av (cL kP)) (q1 (av (cF 68 0 t0)))) (fun x=>Pw u x.1.1 x.1.2) fun t=>[.v (vi t)]
theorem abz:DO (YQ u) (C39 u) 92 A92:=dO u (fun x=>by exact aaW u x.1.1 x.1.2)
def C40:ao:=(C39 u).add 92 (fun l=>Fm 68 l 1) (YQ u)
def KM (x0:Nat) (x1:FF):Option (Bool) :=
 (ob (Pw u x0 x1) fun x2=>(some (decide (x2>=0))))
theorem aaY:aD (C40 u) u A69 [.v (ro kP n0 f0),.v (.fn 68 0 (au []))]=ob (KM u n0 f0) fun t=>some [.v (.b t)]:=by
 simp only [KM,ak,aw,af,aa]
 kernel_rfl
def YS:Ora:=mkO (qc (av (cL kP)) (q1 (av (cF 68 0 t0)))) (fun x=>KM u x.1.1 x.1.2) fun t=>[.v (.b t)]
theorem abB:DO (YS u) (C40 u) 69 A69:=dO u (fun x=>by exact aaY u x.1.1 x.1.2)
def C41:ao:=(C40 u).add 69 (fun l=>Fm 68 l 1) (YS u)
def B70:An tT Tryz.f70 [.k (rl 6 41 []),.h [.slot 4 kP],.k (0::2::3::5::6::(rl 10 42 [])),.k [],.k (0::2::3::(rl 5 47 [])),.k (6::(rl 11 35 [])),.k (rl 13 6 []),.k (rl 19 11 []),.h [],.k (0::2::3::5::(rl 10 10 (rl 22 30 []))),.k [],.k (0::2::3::5::(rl 10 42 [])),.k (rl 47 4 []),.k (0::1::2::(rl 4 48 []))]:=by
 apply Subtype.mk;cbv<;>exact rfl
def A70:AF:=B70.1
def ZO:AC:=sA A70.body [1,1,1]
def sr:AC:=sA A70.body [1,1,0,1,0,0]
def T6:AC:=sA sr [1,1]
def Jx:AC:=sA T6 [1]
def T7:AC:=sA T6 [0,0,1,1]
def Jy:AC:=sA T7 [1]
def PL:AC:=sA T7 [0,1,0,0]
def OZ:St->Option St:=nN 2 (0::2::3::5::(rl 10 10 (rl 22 30 [])))
def Lq:St:=⟨(.u::.x (.c (.rp kB g0))::.u::.u::.x (.own 0 0 n0)::.u::.x (.ptr 1 0)::.x (.c (ro kP n1 f0))::vxi i0::vxi i1::(us 10 (vxi (g1 3).int::vxi i2::(us 30 [])))),[.arr kP n0 f1,.box [(vci i3),(vci i4)]]⟩
def Lp:St:=⟨(.u::.x (.c (.rp kB g0))::.u::.u::.x (.own 0 0 n0)::.u::.x (.ptr 1 0)::.x (.c (ro kP n1 f0))::vxi i0::vxi i1::(us 42 [])),[.arr kP n0 f1,.box [(vci i2),(vci i3)]]⟩
def rW {ρ:Type} (u:Nat) (x0:Nat->CV) (x1 x2:Nat) (x3:FF) (x4 x5:Int) (x6:Nat->CV) (x7:FF):Nat->Int->Int->Int->(Int->Int->Option ρ)->Option ρ
 | 0,_,_,_,_=>none
 | m+1,x8,x9,xA,k0 =>
  (bif (decide (x8<(x6 3).int)) then (rW u x0 x1 x2 x3 x4 x5 x6 x7 m (w64 (x8+1)) (w64 (0-xA)) x9 k0) else (k0 x9 xA))
theorem NA:∀ (m:Nat) (x0 x1 x2:Int) (k0:Int->Int->Option ρ),ob (rW u g0 n0 n1 f0 i0 i1 g1 f1 m x0 x1 x2 k0) ng=rW u g0 n0 n1 f0 i0 i1 g1 f1 m x0 x1 x2 (fun x3 x4=>ob (k0 x3 x4) ng)
 | 0,_,_,_,_=>rfl
 | m+1,x0,x1,x2,k0=>by
  simp only [rW,ak,aw,af,NA m]
theorem SH:∀ (m:Nat) (x0 x1 x2:Int),
  am (eB PL (C41 u) u) OZ m (Lq n0 n1 f0 f1 i0 i1 x0 x1 x2 g0 g1) k=rW u g0 n0 n1 f0 i0 i1 g1 f1 m x0 x1 x2 (fun x3 x4=>k (.exit 2) (Lp n0 n1 f0 f1 i0 i1 x3 x4 g0))
 | 0,_,_,_=>rfl
 | m+1,x0,x1,x2=>by
  simp only [rW,<- SH m]
  kernel_rfl
def t8:St->Option St:=nN 1 (0::2::3::5::6::(rl 10 42 []))
def Ew:St:=⟨(.u::.x (.c (.rp kB g0))::.u::.u::.x (.own 0 0 n0)::.u::.u::.x (.c (ro kP n1 f0))::vxi i0::vxi i1::(us 42 [])),[.arr kP n0 f1]⟩
def RR:St:=⟨(.u::.x (.c (.rp kB g0))::.u::.u::.x (.own 0 0 n0)::(us 47 [])),[.arr kP n0 f0]⟩
def rV {ρ:Type} (u:Nat) (x0:Nat->CV) (x1:Nat) (x2:FF) (x3:Int):Nat->Nat->Int->FF->(Nat->FF->Option ρ)->Option ρ
 | 0,_,_,_,_=>none
 | m+1,x4,x5,x6,k0 =>
  (bif (decide (x5<x3)) then (bif (inb x5 x1) then (bif (x0 4).bool then (rW u x0 x4 x1 x2 x3 x5 x0 x6 u 0 (w64 (0-(x2 x5.toNat 0).int)) (x2 x5.toNat 1).int
  (fun x7 x8=>(bif (Nat.ble (x4+1) 1073741824) then (rV u x0 x1 x2 x3 m (x4+1) (w64 (x5+1)) (aB x4 x6 (aG 2 [(.i .i64 (w64 (x7+(x0 1).int))),(.i .i64 (w64 (x8+(x0 2).int)))])) k0) else none))) else (rW u x0 x4 x1 x2 x3 x5 x0 x6 u 0 (x2 x5.toNat 0).int (x2 x5.toNat 1).int
  (fun x9 xA=>(bif (Nat.ble (x4+1) 1073741824) then (rV u x0 x1 x2 x3 m (x4+1) (w64 (x5+1)) (aB x4 x6 (aG 2 [(.i .i64 (w64 (x9+(x0 1).int))),(.i .i64 (w64 (xA+(x0 2).int)))])) k0) else none)))) else none) else (k0 x4 x6))
theorem Nz:∀ (m:Nat) (x0:Nat) (x1:Int) (x2:FF) (k0:Nat->FF->Option ρ),ob (rV u g0 n0 f0 i0 m x0 x1 x2 k0) ng=rV u g0 n0 f0 i0 m x0 x1 x2 (fun x3 x4=>ob (k0 x3 x4) ng)
 | 0,_,_,_,_=>rfl
 | m+1,x0,x1,x2,k0=>by
  simp only [rV,ak,aw,af,Nz m,NA]
theorem XS :
  am (eB sr (C41 u) u) t8 (m+1) (Ew n1 n0 f0 f1 i0 i1 g0) k =
  (bif (decide (i1<i0)) then (bif (inb i1 n0) then (bif (g0 4).bool then (am (eB PL (C41 u) u) OZ u (Lq n1 n0 f0 f1 i0 i1 0 (w64 (0-(f0 i1.toNat 0).int)) (f0 i1.toNat 1).int g0 g0) (aA 2 (aI (C41 u) u (rl 19 11 []) Jy (aA 1 (aI (C41 u) u (6::(rl 11 35 [])) Jx (aN (eB sr (C41 u) u) t8 m k)))))) else (am (eB PL (C41 u) u) OZ u (Lq n1 n0 f0 f1 i0 i1 0 (f0 i1.toNat 0).int (f0 i1.toNat 1).int g0 g0) (aA 2 (aI (C41 u) u (rl 19 11 []) Jy (aA 1 (aI (C41 u) u (6::(rl 11 35 [])) Jx (aN (eB sr (C41 u) u) t8 m k))))))) else none) else (k (.exit 0) (RR n1 f1 g0))):=by kernel_rfl
theorem Yi :
  (aA 2 (aI (C41 u) u (rl 19 11 []) Jy (aA 1 (aI (C41 u) u (6::(rl 11 35 [])) Jx (aN (eB sr (C41 u) u) t8 m k))))) (.exit 2) (Lp n0 n1 f0 f1 i0 i1 i2 i3 g0) =
  (bif (Nat.ble (n0+1) 1073741824) then (am (eB sr (C41 u) u) t8 m (Ew (n0+1) n1 f0 (aB n0 f1 (aG 2 [(vi (w64 (i2+(g0 1).int))),(vi (w64 (i3+(g0 2).int)))])) i0 (w64 (i1+1)) g0) k) else none):=by kernel_rfl
theorem Yh :
  (aA 2 (aI (C41 u) u (rl 19 11 []) Jy (aA 1 (aI (C41 u) u (6::(rl 11 35 [])) Jx (aN (eB sr (C41 u) u) t8 m k))))) (.exit 2) (Lp n0 n1 f0 f1 i0 i1 i2 i3 g0) =
  (bif (Nat.ble (n0+1) 1073741824) then (am (eB sr (C41 u) u) t8 m (Ew (n0+1) n1 f0 (aB n0 f1 (aG 2 [(vi (w64 (i2+(g0 1).int))),(vi (w64 (i3+(g0 2).int)))])) i0 (w64 (i1+1)) g0) k) else none):=by kernel_rfl
theorem SG:∀ (m:Nat) (x0:Nat) (x1:Int) (x2:FF),
  am (eB sr (C41 u) u) t8 m (Ew x0 n0 f0 x2 i0 x1 g0) k=rV u g0 n0 f0 i0 m x0 x1 x2 (fun x3 x4=>k (.exit 0) (RR x3 x4 g0))
 | 0,_,_,_=>rfl
 | m+1,x0,x1,x2=>by
  rw [XS]
  simp only [rV,SG m,SH,Yi,Yh]
def F51 (x0:Nat) (x1:FF) (x2:Nat->CV):Option (Nat × FF) :=
 (rV u x2 x0 x1 (Int.ofNat x0) u 0 0 (fun _ _=>.any)
  (fun x3 x4=>(bif (x2 4).bool then (bif (Nat.beq x3 x3) then (bif (Nat.beq x3 0) then (some (x3,x4)) else (some (x3,(Gk x3 x4)))) else none) else (some (x3,x4)))))
theorem e51:aD (C41 u) u A70 [.v (ro kP n0 f0),.v (.rp kB g0)]=ob (F51 u n0 f0 g0) fun t=>some [.v (ro kP t.1 t.2)]:=Eq.trans (b:=(am (eB sr (C41 u) u) t8 u (Ew 0 n0 f0 aR (Int.ofNat n0) 0 g0) (aA 0 (aI (C41 u) u (rl 6 41 []) ZO (aH A70))))) (by kernel_rfl) (by
 simp only [F51,ak,aw,af,aa,Nz,SG]<;>kernel_rfl)
def O51:Ora:=mkO (qc (av (cL kP)) (q1 (av (cP kB)))) (fun x=>F51 u x.1.1 x.1.2 x.2) fun t=>[.v (ro kP t.1 t.2)]
theorem d51:DO (O51 u) (C41 u) 70 A70:=dO u (fun x=>by exact e51 u x.1.1 x.1.2 x.2)
def C42:ao:=(C41 u).add 70 (fun _=>true) (O51 u)
def Z4:AC:=(.region 8 [o1 35 (bk .add 3 28 1),mv 28 35] 0 none)
def Z3:AC:=(.seq (.block 1
 (.seq (.region 5 [o1 30 (.indexAddr 50 49 1 (tm 26) (tm 28)),o1 31 (lo 49 30),o1 6 (sg 31)] 0 none) []
  (.seq (.region 6 [mv 32 6,o1 33 (.call 69 [(tm 32),(.func 68)] [49,109] .snap)] 0 none) []
  (.cond (tm 33)
  (.seq (.region 7 [o1 34 (.build 52 [.c (.ro true kP 0 aR),.c (.ro true kF 0 aR)] [(0,1),(1,1)] 0 []),o0 (.store 52 2 (tm 4) (tm 34))] 0 none) []
   (.ret (rl 0 4 (rl 5 54 []))))
  .skip)))) (6::(rl 30 5 []))
 Z4)
def PS:AC:=(.seq (.region 4 [o1 29 (bt .lss 3 28 27)] 0 none) []
 (.seq (.cond (tm 29)
 .skip
 (.exit 0 (0::1::(rl 5 54 [])))) []
 Z3))
def Z2:AC:=(.seq (.block 3
 (.seq (.region 13 [o1 47 (.indexAddr 50 49 1 (tm 43) (tm 45)),o1 48 (lo 49 47),o1 10 (sg 48)] 0 none) []
  (.region 14 [o1 49 (fa 52 8 1 1),o1 50 (lo 50 49),mv 51 7,mv 52 10,o1 53 (.callv (tm 51) [(tm 52)] [49] .freeze),o1 54 (.buildSlice 0 50 49 kF 1 [.c (.ro true kP 0 aR)] [(0,(tm 53))]),o1 55 (.append 1 50 49 kF 24 (tm 50) (tm 54)),o1 56 (fa 52 8 1 1),o0 (.store 50 1 (tm 56) (tm 55))] 2 (some [[],[0],[],[],[2,3],[2,3,4],(rl 0 6 []),(rl 0 7 []),(rl 0 8 [])])))) []
 (.region 15 [o1 57 (bk .add 3 45 1),mv 45 57] 0 none))
def PR:AC:=(.seq (.region 12 [o1 46 (bt .lss 3 45 44)] 0 none) []
 (.seq (.cond (tm 46)
 .skip
 (.exit 2 (rl 0 4 (5::6::7::(rl 9 50 []))))) []
 Z2))
def Uk:AC:=(.seq (.region 16 [o1 58 (ln 52 2 8),o0 (.store 52 2 (tm 4) (tm 58))] 0 none) []
 (.ret (rl 0 4 (rl 5 54 []))))
def PQ:AC:=(.seq (.region 9 [o1 36 (.mkfn 70 [(tm 3)]),o1 7 (sg 36)] 0 none) []
 (.seq (.region 10 [mv 37 7,o1 38 (fa 52 2 0 0),o1 39 (lo 49 38),o1 40 (.callv (tm 37) [(tm 39)] [49] .freeze),o1 41 (.build 52 [.c (.ro true kP 0 aR),.c (.ro true kF 0 aR)] [(0,1),(1,1)] 0 [(0,(tm 40))]),o1 8 (.alloc 0 52 [vcn,vcn]),o0 (.store 52 2 (tm 8) (tm 41))] 1 none) []
 (.seq (.seq (.region 11 [o1 42 (fa 52 2 1 1),o1 43 (lo 50 42),o1 44 (.len 50 false (tm 43)),o1 45 (.move (ic 0))] 0 none) []
 (.block 2
 (.loop [.cell 8 1 kF] (rl 0 4 (5::6::(rl 9 34 (rl 46 13 []))))
  PR))) (10::(rl 42 16 []))
 Uk)))
def Z1:AC:=(.seq (.seq (.region 3 [o1 25 (ln 52 2 2),o1 26 (cf 66 [25] [52]),o1 27 (.len 50 false (tm 26)),o1 28 (.move (ic 0))] 0 none) []
 (.block 0
 (.loop [] (0::1::(rl 5 21 (rl 29 30 [])))
  PS))) (6::(rl 25 11 []))
 PQ)
def A45:AF:=⟨59,[.cell 4 52 (some 2)],
 (.seq (.region 0 [o1 2 (bx 0 52 0),o1 3 (bx 1 44 1),o1 4 (.alloc 2 52 [vcn,vcn])] 3 none) []
 (.seq (.seq (.region 1 [o1 11 (fa 44 3 2 3),o1 12 (lo 3 11),o1 13 (bk .lss 3 12 0),mv 14 13,og 15 (fa 44 3 2 3) 14 false,og 16 (lo 3 15) 14 false,og 17 (bk .gtr 3 16 3) 14 false,o1 18 (pa 14 17),mv 19 18,og 20 (fa 44 3 1 1) 19 false,og 21 (ln 42 2 20) 19 false,og 22 (cs 68 [21] [42]) 19 false,o1 23 (pa 19 22)] 0 none) []
 (.cond (tm 23)
 (.seq (.region 2 [o1 24 (.build 52 [.c (.ro true kP 0 aR),.c (.ro true kF 0 aR)] [(0,1),(1,1)] 0 []),o0 (.store 52 2 (tm 4) (tm 24))] 0 none) []
  (.ret (rl 0 4 (rl 5 54 []))))
 .skip)) (rl 11 14 [])
 Z1))⟩
def TH:St->Option St:=nN 3 (0::1::(rl 5 21 (rl 29 30 [])))
def Sb:St:=⟨(.u::.u::.x (.ptr 0 0)::.x (.ptr 1 0)::.x (.ptr 2 0)::(us 21 (.x (.c (ro kF n0 f0))::vxi i0::vxi i1::(us 30 [])))),[.box [(.c (ro kP n1 f1)),(.c (ro kF n2 f2))],.box [(vcs w0),(vci i2),(vci i3),(vci i4),(vcb b0)],.box [(vcn),(vcn)]]⟩
def XG:St:=⟨(us 4 (.x (.ptr 2 0)::(us 54 []))),[.box [(.c (ro kP n0 f0)),(.c (ro kF n1 f1))],.box [(vcs w0),(vci i0),(vci i1),(vci i2),(vcb b0)],.box [(.c (.ro true kP 0 aR)),(.c (.ro true kF 0 aR))]]⟩
def Sa:St:=⟨(.u::.u::.x (.ptr 0 0)::.x (.ptr 1 0)::.x (.ptr 2 0)::(us 54 [])),[.box [(.c (ro kP n0 f0)),(.c (ro kF n1 f1))],.box [(vcs w0),(vci i0),(vci i1),(vci i2),(vcb b0)],.box [(vcn),(vcn)]]⟩
def sd {ρ:Type} (u:Nat) (x0:Nat) (x1:FF) (x2:Int) (x3:Nat) (x4:FF) (x5:Nat) (x6:FF) (x7:ByteArray) (x8 x9 xA:Int) (xB:Bool):Nat->Int->(Option ρ)->(Option ρ)->Option ρ
 | 0,_,_,_=>none
 | m+1,xC,k0,k1 =>
  (bif (decide (xC<x2)) then (bif (inb xC x0) then (ob (KM u (x1 xC.toNat 0).len (x1 xC.toNat 0).el) fun xD=>(bif xD then k0 else (sd u x0 x1 x2 x3 x4 x5 x6 x7 x8 x9 xA xB m (w64 (xC+1)) k0 k1))) else none) else k1)
theorem NN:∀ (m:Nat) (x0:Int) (k0:Option ρ) (k1:Option ρ),ob (sd u n0 f0 i0 n1 f1 n2 f2 w0 i1 i2 i3 b0 m x0 k0 k1) ng=sd u n0 f0 i0 n1 f1 n2 f2 w0 i1 i2 i3 b0 m x0 (ob k0 ng) (ob k1 ng)
 | 0,_,_,_=>rfl
 | m+1,x0,k0,k1=>by
  simp only [sd,ak,aw,af,NN m]
theorem SU:∀ (m:Nat) (x0:Int),
  am (eB PS (C42 u) u) TH m (Sb n0 n1 n2 f0 f1 f2 i0 x0 i1 i2 i3 b0 w0) k=sd u n0 f0 i0 n1 f1 n2 f2 w0 i1 i2 i3 b0 m x0 (k .ret (XG n1 n2 f1 f2 i1 i2 i3 b0 w0)) (k (.exit 0) (Sa n1 n2 f1 f2 i1 i2 i3 b0 w0))
 | 0,_=>rfl
 | m+1,x0=>by
  simp only [sd,<- SU m]
  kernel_rfl
def TG:St->Option St:=nN 5 (rl 0 4 (5::6::(rl 9 34 (rl 46 13 []))))
def R9:St:=⟨(us 4 (.x (.ptr 2 0)::.u::.u::.x (.c (.fn 70 1 (au [(.rp kB (au [(.s w0),(vi i0),(vi i1),(vi i2),(.b b0)]))])))::.x (.ptr 3 0)::(us 34 (.x (.c (ro kF n0 f0))::vxi i3::vxi i4::(us 13 []))))),[.box [(.c (ro kP n1 f1)),(.c (ro kF n0 f0))],.dead,.box [(vcn),(vcn)],.box [(.c (ro kP n2 f2)),(.own 4 0 n3)],.arr kF n3 f3]⟩
def XF:St:=⟨(us 4 (.x (.ptr 2 0)::(us 3 (.x (.ptr 3 0)::(us 50 []))))),[.box [(.c (ro kP n0 f0)),(.c (ro kF n1 f1))],.dead,.box [(vcn),(vcn)],.box [(.c (ro kP n2 f2)),(.own 4 0 n3)],.arr kF n3 f3]⟩
def vl {ρ:Type} (u:Nat) (x0:ByteArray) (x1 x2 x3:Int) (x4:Bool) (x5:Nat) (x6:FF) (x7:Int) (x8:Nat) (x9:FF) (xA:Nat) (xB:FF):Nat->Int->Nat->FF->(Nat->FF->Option ρ)->Option ρ
 | 0,_,_,_,_=>none
 | m+1,xC,xD,xE,k0 =>
  (bif (decide (xC<x7)) then (bif (inb xC x5) then (ob (F51 u (x6 xC.toNat 0).len (x6 xC.toNat 0).el (au [(.s x0),(.i .i64 x1),(.i .i64 x2),(.i .i64 x3),(.b x4)])) fun xF=>(bif (Nat.ble (xD+1) 1073741824) then (vl u x0 x1 x2 x3 x4 x5 x6 x7 x8 x9 xA xB m (w64 (xC+1)) (xD+1) (aB xD xE (aG 1 [(.ro false (.pr (.int .i64) (.pr (.int .i64) .nil)) xF.1 xF.2)])) k0) else none)) else none) else (k0 xD xE))
theorem NM:∀ (m:Nat) (x0:Int) (x1:Nat) (x2:FF) (k0:Nat->FF->Option ρ),ob (vl u w0 i0 i1 i2 b0 n0 f0 i3 n1 f1 n2 f2 m x0 x1 x2 k0) ng=vl u w0 i0 i1 i2 b0 n0 f0 i3 n1 f1 n2 f2 m x0 x1 x2 (fun x3 x4=>ob (k0 x3 x4) ng)
 | 0,_,_,_,_=>rfl
 | m+1,x0,x1,x2,k0=>by
  simp only [vl,ak,aw,af,NM m]
theorem ST:∀ (m:Nat) (x0:Int) (x1:Nat) (x2:FF),
  am (eB PR (C42 u) u) TG m (R9 n0 n1 n2 x1 f0 f1 f2 x2 i0 i1 i2 i3 x0 b0 w0) k=vl u w0 i0 i1 i2 b0 n0 f0 i3 n1 f1 n2 f2 m x0 x1 x2 (fun x3 x4=>k (.exit 2) (XF n1 n0 n2 x3 f1 f0 f2 x4))
 | 0,_,_,_=>rfl
 | m+1,x0,x1,x2=>by
  simp only [vl,<- ST m]
  kernel_rfl
def G8 (x0:Nat) (x1:FF) (x2:Nat) (x3:FF) (x4:ByteArray) (x5 x6 x7:Int) (x8:Bool):Option (Bool × Nat × FF × Nat × FF) :=
 (bif ((decide (x7<0))==false) then (bif ((decide (x7>3))==false) then (ob (F49 u x5 x6) fun x9=>(bif x9 then (some (true,0,(fun _ _=>.any),0,(fun _ _=>.any))) else (ob (F42 u x0 x1 x2 x3) fun xA=>(sd u xA.1 xA.2 (Int.ofNat xA.1) x0 x1 x2 x3 x4 x5 x6 x7 x8 u 0
  (some (true,0,(fun _ _=>.any),0,(fun _ _=>.any)))
  (ob (F51 u x0 x1 (au [(.s x4),(.i .i64 x5),(.i .i64 x6),(.i .i64 x7),(.b x8)])) fun xB=>(vl u x4 x5 x6 x7 x8 x2 x3 (Int.ofNat x2) x0 x1 xB.1 xB.2 u 0 0 (fun _ _=>.any)
  (fun xC xD=>(some (false,xB.1,xB.2,xC,xD))))))))) else (some (true,0,(fun _ _=>.any),0,(fun _ _=>.any)))) else (some (true,0,(fun _ _=>.any),0,(fun _ _=>.any))))
theorem Yn :
  (aA 0 (aI (C42 u) u (6::(rl 25 11 [])) PQ (aH A45))) (.exit 0) (Sa n0 n1 f0 f1 i0 i1 i2 b0 w0) =
  (ob (F51 u n0 f0 (au [(.s w0),(vi i0),(vi i1),(vi i2),(.b b0)])) fun x0=>(am (eB PR (C42 u) u) TG u (R9 n1 n0 x0.1 0 f1 f0 x0.2 aR i0 i1 i2 (Int.ofNat n1) 0 b0 w0) (aA 2 (aI (C42 u) u (10::(rl 42 16 [])) Uk (aH A45))))):=by kernel_rfl
theorem e25:aD (C42 u) u A45 [.agg [(ro kP n0 f0),(ro kF n1 f1)],.agg [(.s w0),(vi i0),(vi i1),(vi i2),(.b b0)]]=ob (G8 u n0 f0 n1 f1 w0 i0 i1 i2 b0) fun t=>some (bif t.1 then [.agg [(.ro true kP 0 aR),(.ro true kF 0 aR)]] else [.agg [(ro kP t.2.1 t.2.2.1),(ro kF t.2.2.2.1 t.2.2.2.2)]]):=Eq.trans (b:=(bif ((decide (i2<0))==false) then (bif ((decide (i2>3))==false) then (ob (F49 u i0 i1) fun x0=>(bif x0 then (some [.agg [(.ro true kP 0 aR),(.ro true kF 0 aR)]]) else (ob (F42 u n0 f0 n1 f1) fun x1=>(am (eB PS (C42 u) u) TH u (Sb x1.1 n0 n1 x1.2 f0 f1 (Int.ofNat x1.1) 0 i0 i1 i2 b0 w0) (aA 0 (aI (C42 u) u (6::(rl 25 11 [])) PQ (aH A45))))))) else (some [.agg [(.ro true kP 0 aR),(.ro true kF 0 aR)]])) else (some [.agg [(.ro true kP 0 aR),(.ro true kF 0 aR)]]))) (by kernel_rfl) (by
 simp only [G8,ak,aw,af,aa,NN,NM,SU,Yn,ST,cond_true,cond_false]<;>kernel_rfl)
def F25 (x0:Nat) (x1:FF) (x2:Nat) (x3:FF) (x4:ByteArray) (x5 x6 x7:Int) (x8:Bool):Option (Nat × FF × Nat × FF):=ob (G8 u x0 x1 x2 x3 x4 x5 x6 x7 x8) fun t=>some (bif t.1 then (0,(fun _ _=>.any),0,(fun _ _=>.any)) else (t.2.1,t.2.2.1,t.2.2.2.1,t.2.2.2.2))
def O25:Ora:=mkO (qc (ag (tc (cL kP) (t1 (cL kF)))) (q1 (ag (tc cS (tc ci (tc ci (tc ci (t1 cB)))))))) (fun x=>F25 u x.1.1.1 x.1.1.2 x.1.2.1 x.1.2.2 x.2.1 x.2.2.1 x.2.2.2.1 x.2.2.2.2.1 x.2.2.2.2.2) fun t=>[.agg [(ro kP t.1 t.2.1),(ro kF t.2.2.1 t.2.2.2)]]
theorem d25:DO (O25 u) (C42 u) 45 A45:=dW u (fun x=>by exact e25 u x.1.1.1 x.1.2.1 x.1.1.2 x.1.2.2 x.2.2.1 x.2.2.2.1 x.2.2.2.2.1 x.2.2.2.2.2 x.2.1) (fun _=>rfl) fun t=>by
 obtain ⟨b,t⟩:=t
 cases b with
 | true=>exact (.cons (WkA.agg (.cons (Wk.ro (by rfl)) (.cons (Wk.ro (by rfl)) .nil))) .nil)
 | false =>
  exact (.cons (WkA.agg (.cons (Wk.refl _) (.cons (Wk.refl _) .nil))) .nil)
def C43:ao:=(C42 u).add 45 (fun _=>true) (O25 u)
def B25:An tT Tryz.f25 [.g [0,1,3,4],.k (rl 0 6 (rl 8 35 []))]:=by
 apply Subtype.mk;cbv<;>exact rfl
def A25:AF:=B25.1
def Ec (x0:Nat->CV) (x1 x2 x3:Int):Option (ByteArray × Int × Int × Int × Bool × Bool) :=
 (ob (F25 u (x0 6).len (x0 6).el (x0 7).len (x0 7).el ByteArray.empty 0 0 x1 false) fun x4=>(ob (F20 u x4.1 x4.2.1 x4.2.2.1 x4.2.2.2) fun x5=>(ob (d8 u (w64 (x2-x5.1)) (-32768) 32768) fun x6=>(bif (x6==true) then (ob (d8 u (w64 (x3-x5.2.1)) (-32768) 32768) fun x7=>(some ((x0 0).str,(w64 (x2-x5.1)),(w64 (x3-x5.2.1)),x1,false,x7))) else (some ((x0 0).str,(w64 (x2-x5.1)),(w64 (x3-x5.2.1)),x1,false,false))))))
theorem abk:aD (C43 u) u A25 [.agg (pj kR0 g0),.v (vi i0),.agg [(vi i1),(vi i2)]]=ob (Ec u g0 i0 i1 i2) fun t=>some [.agg [(.s t.1),(vi t.2.1),(vi t.2.2.1),(vi t.2.2.2.1),(.b t.2.2.2.2.1)],.v (.b t.2.2.2.2.2)]:=by
 simp only [Ec,ak,aw,af,aa]
 kernel_rfl
def Zd:Ora:=mkO (qc (ar kR0) (qc (av ci) (q1 (ag (tc ci (t1 ci)))))) (fun x=>Ec u x.1 x.2.1 x.2.2.1 x.2.2.2) fun t=>[.agg [(.s t.1),(vi t.2.1),(vi t.2.2.1),(vi t.2.2.2.1),(.b t.2.2.2.2.1)],.v (.b t.2.2.2.2.2)]
theorem abX:DO (Zd u) (C43 u) 25 A25:=dO u (fun x=>by exact abk u x.2.1 x.2.2.1 x.2.2.2 x.1)
def C44:ao:=(C43 u).add 25 (fun _=>true) (Zd u)
def B21:An tT Tryz.f21 [.k (14::(rl 22 35 [])),.g [0],.k (rl 0 14 (rl 15 150 [])),.k (14::16::18::(rl 57 27 [])),.h [],.k (3::7::8::9::(rl 11 46 (rl 60 105 []))),.k [],.k (3::7::8::9::(rl 11 154 [])),.k (14::16::18::(rl 61 22 [])),.g [1],.h [],.k (3::7::8::9::(rl 11 46 (rl 60 15 (rl 77 88 [])))),.k [],.g [1],.k (3::7::8::9::(rl 11 46 (rl 60 105 []))),.k (14::18::(rl 78 4 [])),.g [0,1],.k (rl 0 14 (rl 15 150 [])),.k (14::(rl 84 30 [])),.g [0],.k (rl 0 14 (rl 15 150 [])),.k (14::21::(rl 116 49 [])),.h [],.k (rl 0 4 (rl 6 4 (rl 11 8 (rl 20 96 (rl 119 46 []))))),.k [],.g [0],.k (rl 0 165 []),.k (14::21::(rl 120 44 [])),.g [0,1],.k (rl 0 14 (rl 15 150 [])),.g [0],.k (rl 0 14 (rl 15 150 []))]:=by
 apply Subtype.mk;cbv<;>exact rfl
def A21:AF:=B21.1
def P0:AC:=sA A21.body [1,1]
def Hk:AC:=sA P0 [1]
def P2:AC:=sA Hk [1]
def W5:AC:=sA P2 [1,1]
def UG:AC:=sA P2 [1,0,1,0,0]
def Ce:AC:=sA P0 [0,1,0,0]
def UH:AC:=sA Ce [1,1]
def UI:AC:=sA UH [1]
def UJ:AC:=sA UH [0,0,1,1,0,0,0]
def Pd:St->Option St:=nN 2 (3::7::8::9::(rl 11 46 (rl 60 15 (rl 77 88 []))))
def LZ:St:=⟨(vxi i0::vxi i1::.x (.c (ro kE n0 f0))::.u::vxi i2::vxi i3::vxi i4::(us 3 (.x (.ptr 0 0)::(us 46 (.x (.c (ro kE n0 f0))::vxi i5::vxi i6::(us 15 (.agg [(vci i7),(vci i8),(vci i9),(vci iA)]::vxi iB::(us 88 [])))))))),[.box [(vci iC),(vci iD)],.dead]⟩
def Gi:St:=⟨(us 14 (vxb false::(us 150 []))),[.dead,.dead]⟩
def LY:St:=⟨(vxi i0::vxi i1::.x (.c (ro kE n0 f0))::.u::vxi i2::vxi i3::vxi i4::(us 3 (.x (.ptr 0 0)::(us 46 (.x (.c (ro kE n0 f0))::vxi i5::vxi i6::(us 105 [])))))),[.box [(vci i7),(vci i8)],.dead]⟩
def eE {ρ:Type} (u:Nat) (x0 x1:Int) (x2:Nat) (x3:FF) (x4 x5 x6 x7 x8 x9 xA xB xC xD xE:Int):Nat->Int->(Option ρ)->(Option ρ)->Option ρ
 | 0,_,_,_=>none
 | m+1,xF,k0,k1 =>
  (bif (decide (xF<4)) then (bif (xF==0) then (ob (d8 u x9 (-1099511627776) 1099511627776) fun xG=>(bif (!xG) then k0 else (eE u x0 x1 x2 x3 x4 x5 x6 x7 x8 x9 xA xB xC xD xE m (w64 (xF+1)) k0 k1))) else (bif (xF==1) then (ob (d8 u xA (-1099511627776) 1099511627776) fun xH=>(bif (!xH) then k0 else (eE u x0 x1 x2 x3 x4 x5 x6 x7 x8 x9 xA xB xC xD xE m (w64 (xF+1)) k0 k1))) else (bif (xF==2) then (ob (d8 u xB (-1099511627776) 1099511627776) fun xI=>(bif (!xI) then k0 else (eE u x0 x1 x2 x3 x4 x5 x6 x7 x8 x9 xA xB xC xD xE m (w64 (xF+1)) k0 k1))) else (bif (xF==3) then (ob (d8 u xC (-1099511627776) 1099511627776) fun xJ=>(bif (!xJ) then k0 else (eE u x0 x1 x2 x3 x4 x5 x6 x7 x8 x9 xA xB xC xD xE m (w64 (xF+1)) k0 k1))) else none)))) else k1)
theorem IK:∀ (m:Nat) (x0:Int) (k0:Option ρ) (k1:Option ρ),ob (eE u i0 i1 n0 f0 i2 i3 i4 i5 i6 i7 i8 i9 iA iB iC m x0 k0 k1) ng=eE u i0 i1 n0 f0 i2 i3 i4 i5 i6 i7 i8 i9 iA iB iC m x0 (ob k0 ng) (ob k1 ng)
 | 0,_,_,_=>rfl
 | m+1,x0,k0,k1=>by
  simp only [eE,ak,aw,af,IK m]
theorem MI:∀ (m:Nat) (x0:Int),
  am (eB UJ (C44 u) u) Pd m (LZ n0 f0 i0 i1 i2 i3 i4 i5 i6 i7 i8 i9 iA x0 iB iC) k=eE u i0 i1 n0 f0 i2 i3 i4 i5 i6 i7 i8 i9 iA iB iC m x0 (k .ret Gi) (k (.exit 2) (LY n0 f0 i0 i1 i2 i3 i4 i5 i6 iB iC))
 | 0,_=>rfl
 | m+1,x0=>by
  simp only [eE,<- MI m]
  kernel_rfl
def vR:St->Option St:=nN 1 (3::7::8::9::(rl 11 46 (rl 60 105 [])))
def DB:St:=⟨(vxi i0::vxi i1::.x (.c (ro kE n0 f0))::.u::vxi i2::vxi i3::vxi i4::(us 3 (.x (.ptr 0 0)::(us 46 (.x (.c (ro kE n0 f0))::vxi i5::vxi i6::(us 105 [])))))),[.box [(vci i7),(vci i8)]]⟩
def Gh:St:=⟨(vxi i0::vxi i1::.x (.c (ro kE n0 f0))::.u::vxi i2::vxi i3::vxi i4::(us 3 (.x (.ptr 0 0)::(us 154 [])))),[.box [(vci i5),(vci i6)]]⟩
def mc {ρ:Type} (u:Nat) (x0 x1:Int) (x2:Nat) (x3:FF) (x4 x5 x6 x7 x8 x9:Int):Nat->Int->(Option ρ)->(Option ρ)->Option ρ
 | 0,_,_,_=>none
 | m+1,xA,k0,k1 =>
  (bif (decide (xA<x7)) then (bif (inb xA x2) then (eE u x0 x1 x2 x3 x4 x5 x6 x7 xA (x3 xA.toNat 0).int (x3 xA.toNat 1).int (x3 xA.toNat 2).int (x3 xA.toNat 3).int x8 x9 u 0
  k0
  (mc u x0 x1 x2 x3 x4 x5 x6 x7 x8 x9 m (w64 (xA+1)) k0 k1)) else none) else k1)
theorem II:∀ (m:Nat) (x0:Int) (k0:Option ρ) (k1:Option ρ),ob (mc u i0 i1 n0 f0 i2 i3 i4 i5 i6 i7 m x0 k0 k1) ng=mc u i0 i1 n0 f0 i2 i3 i4 i5 i6 i7 m x0 (ob k0 ng) (ob k1 ng)
 | 0,_,_,_=>rfl
 | m+1,x0,k0,k1=>by
  simp only [mc,ak,aw,af,II m,IK]
theorem VS :
  am (eB Ce (C44 u) u) vR (m+1) (DB n0 f0 i0 i1 i2 i3 i4 i5 i8 i6 i7) k =
  (bif (decide (i8<i5)) then (bif (inb i8 n0) then (am (eB UJ (C44 u) u) Pd u (LZ n0 f0 i0 i1 i2 i3 i4 i5 i8 (f0 i8.toNat 0).int (f0 i8.toNat 1).int (f0 i8.toNat 2).int (f0 i8.toNat 3).int 0 i6 i7) (aA 2 (aA 1 (aI (C44 u) u (14::16::18::(rl 61 22 [])) UI (aN (eB Ce (C44 u) u) vR m k))))) else none) else (k (.exit 0) (Gh n0 f0 i0 i1 i2 i3 i4 i6 i7))):=by kernel_rfl
theorem WG :
  (aA 2 (aA 1 (aI (C44 u) u (14::16::18::(rl 61 22 [])) UI (aN (eB Ce (C44 u) u) vR m k)))) (.exit 2) (LY n0 f0 i0 i1 i2 i3 i4 i5 i6 i7 i8) =
  (am (eB Ce (C44 u) u) vR m (DB n0 f0 i0 i1 i2 i3 i4 i5 (w64 (i6+1)) i7 i8) k):=by kernel_rfl
theorem MH:∀ (m:Nat) (x0:Int),
  am (eB Ce (C44 u) u) vR m (DB n0 f0 i0 i1 i2 i3 i4 i5 x0 i6 i7) k=mc u i0 i1 n0 f0 i2 i3 i4 i5 i6 i7 m x0 (k .ret Gi) (k (.exit 0) (Gh n0 f0 i0 i1 i2 i3 i4 i6 i7))
 | 0,_=>rfl
 | m+1,x0=>by
  rw [VS]
  simp only [mc,MH m,MI,WG]<;>kernel_rfl
def Pc:St->Option St:=nN 1 (rl 0 4 (rl 6 4 (rl 11 8 (rl 20 96 (rl 119 46 [])))))
def LX:St:=⟨(us 4 (vxi i0::vxi i1::(us 4 (.x (.ptr 0 0)::(us 8 (vxi i2::(us 96 (.x (.c (ro kE n0 f0))::vxi i3::vxi i4::(us 46 []))))))))),[.box [(vci i5),(vci i6)]]⟩
def Vv:St:=⟨(us 165 []),[.dead]⟩
def ek {ρ:Type} (u:Nat) (x0 x1 x2:Int) (x3:Nat) (x4:FF) (x5 x6 x7:Int):Nat->Int->(Option ρ)->(Option ρ)->Option ρ
 | 0,_,_,_=>none
 | m+1,x8,k0,k1 =>
  (bif (decide (x8<x5)) then (bif (inb x8 x3) then (bif ((decide (x6<(w64 ((x4 x8.toNat 2).int+x2))))==true) then (bif ((decide ((w64 ((w64 (x6+x0))+x2))>(x4 x8.toNat 0).int))==true) then (bif ((decide (x7<(w64 ((x4 x8.toNat 3).int+x2))))==true) then (bif (decide ((w64 ((w64 (x7+x1))+x2))>(x4 x8.toNat 1).int)) then k0 else (ek u x0 x1 x2 x3 x4 x5 x6 x7 m (w64 (x8+1)) k0 k1)) else (ek u x0 x1 x2 x3 x4 x5 x6 x7 m (w64 (x8+1)) k0 k1)) else (ek u x0 x1 x2 x3 x4 x5 x6 x7 m (w64 (x8+1)) k0 k1)) else (ek u x0 x1 x2 x3 x4 x5 x6 x7 m (w64 (x8+1)) k0 k1)) else none) else k1)
theorem IH:∀ (m:Nat) (x0:Int) (k0:Option ρ) (k1:Option ρ),ob (ek u i0 i1 i2 n0 f0 i3 i4 i5 m x0 k0 k1) ng=ek u i0 i1 i2 n0 f0 i3 i4 i5 m x0 (ob k0 ng) (ob k1 ng)
 | 0,_,_,_=>rfl
 | m+1,x0,k0,k1=>by
  simp only [ek,ak,aw,af,IH m]
theorem MG:∀ (m:Nat) (x0:Int),
  am (eB UG (C44 u) u) Pc m (LX n0 f0 i0 i1 i2 i3 x0 i4 i5) k=ek u i0 i1 i2 n0 f0 i3 i4 i5 m x0 (k .ret Gi) (k (.exit 4) Vv)
 | 0,_=>rfl
 | m+1,x0=>by
  simp only [ek,<- MG m]
  kernel_rfl
def Eb (x0 x1:Int) (x2:Nat) (x3:FF) (x4 x5 x6 x7 x8:Int):Option (Bool) :=
 (ob (d8 u x0 0 32768) fun x9=>(bif ((!x9)==false) then (ob (d8 u x1 0 32768) fun xA=>(bif ((!xA)==false) then (ob (d8 u x8 0 500) fun xB=>(bif ((!xB)==false) then (ob (d8 u x6 1 32768) fun xC=>(bif ((!xC)==false) then (ob (d8 u x7 1 32768) fun xD=>(bif ((!xD)==false) then (ob (d8 u x4 (-32768) 32768) fun xE=>(bif ((!xE)==false) then (ob (d8 u x5 (-32768) 32768) fun xF=>(bif (!xF) then (some false) else (mc u x0 x1 x2 x3 x6 x7 x8 (Int.ofNat x2) x4 x5 u 0
  (some false)
  (bif ((decide (x4<x8))==false) then (bif ((decide (x5<x8))==false) then (bif ((decide ((w64 (x4+x6))>(w64 (x0-x8))))==false) then (bif (decide ((w64 (x5+x7))>(w64 (x1-x8)))) then (some false) else (ek u x6 x7 (if 1>x8 then 1 else x8) x2 x3 (Int.ofNat x2) x4 x5 u 0
  (some false)
  (some true))) else (some false)) else (some false)) else (some false))))) else (some false))) else (some false))) else (some false))) else (some false))) else (some false))) else (some false)))
theorem WF :
  (aA 0 (aI (C44 u) u (14::16::18::(rl 57 27 [])) Hk (aH A21))) (.exit 0) (Gh n0 f0 i0 i1 i2 i3 i4 i5 i6) =
  (bif ((decide (i5<i4))==false) then (bif ((decide (i6<i4))==false) then (bif ((decide ((w64 (i5+i2))>(w64 (i0-i4))))==false) then (bif (decide ((w64 (i6+i3))>(w64 (i1-i4)))) then (some [.v (.b false)]) else (am (eB UG (C44 u) u) Pc u (LX n0 f0 i2 i3 (if 1>i4 then 1 else i4) (Int.ofNat n0) 0 i5 i6) (aA 4 (aI (C44 u) u (14::21::(rl 116 49 [])) W5 (aH A21))))) else (some [.v (.b false)])) else (some [.v (.b false)])) else (some [.v (.b false)])):=by kernel_rfl
theorem abj:aD (C44 u) u A21 [.v (vi i0),.v (vi i1),.v (ro kE n0 f0),.agg [(vi i2),(vi i3)],.v (vi i4),.v (vi i5),.v (vi i6)]=ob (Eb u i0 i1 n0 f0 i2 i3 i4 i5 i6) fun t=>some [.v (.b t)]:=Eq.trans (b:=(ob (d8 u i0 0 32768) fun x0=>(bif ((!x0)==false) then (ob (d8 u i1 0 32768) fun x1=>(bif ((!x1)==false) then (ob (d8 u i6 0 500) fun x2=>(bif ((!x2)==false) then (ob (d8 u i4 1 32768) fun x3=>(bif ((!x3)==false) then (ob (d8 u i5 1 32768) fun x4=>(bif ((!x4)==false) then (ob (d8 u i2 (-32768) 32768) fun x5=>(bif ((!x5)==false) then (ob (d8 u i3 (-32768) 32768) fun x6=>(bif (!x6) then (some [.v (.b false)]) else (am (eB Ce (C44 u) u) vR u (DB n0 f0 i0 i1 i4 i5 i6 (Int.ofNat n0) 0 i2 i3) (aA 0 (aI (C44 u) u (14::16::18::(rl 57 27 [])) Hk (aH A21)))))) else (some [.v (.b false)]))) else (some [.v (.b false)]))) else (some [.v (.b false)]))) else (some [.v (.b false)]))) else (some [.v (.b false)]))) else (some [.v (.b false)])))) (by kernel_rfl) (by
 simp only [Eb,ak,aw,af,aa,II,IH,MH,WF,MG]<;>kernel_rfl)
def Zc:Ora:=mkO (qc (av ci) (qc (av ci) (qc (av (cL kE)) (qc (ag (tc ci (t1 ci))) (qc (av ci) (qc (av ci) (q1 (av ci)))))))) (fun x=>Eb u x.1 x.2.1 x.2.2.1.1 x.2.2.1.2 x.2.2.2.1.1 x.2.2.2.1.2 x.2.2.2.2.1 x.2.2.2.2.2.1 x.2.2.2.2.2.2) fun t=>[.v (.b t)]
theorem abW:DO (Zc u) (C44 u) 21 A21:=dO u (fun x=>by exact abj u x.2.2.1.1 x.2.2.1.2 x.1 x.2.1 x.2.2.2.1.1 x.2.2.2.1.2 x.2.2.2.2.1 x.2.2.2.2.2.1 x.2.2.2.2.2.2)
def C45:ao:=(C44 u).add 21 (fun _=>true) (Zc u)
def B24:An tT Tryz.f24 [.k (15::(rl 29 25 [])),.h [.slot 12 kD,.slot 13 kD],.k (0::2::6::8::9::11::(rl 14 15 (rl 32 71 []))),.k [],.k (0::2::6::8::9::11::(rl 14 89 [])),.k (11::19::(rl 21 4 (rl 64 38 []))),.h [],.k (0::2::6::8::9::11::13::14::15::(rl 18 46 (rl 67 36 []))),.k [],.g [0,1,3,4],.k (rl 0 10 (rl 11 92 [])),.k (11::19::(rl 21 4 (rl 68 33 []))),.h [],.k (0::2::6::8::9::11::13::14::15::18::(rl 20 44 (67::68::69::(rl 73 30 [])))),.k [],.k (0::2::6::8::9::11::13::14::15::(rl 18 46 (rl 67 36 []))),.k (11::(rl 21 4 (rl 74 26 []))),.g (0::1::(rl 3 4 [])),.k (rl 0 10 (rl 12 91 [])),.g [0,1,3,4],.k (rl 0 10 (rl 12 91 []))]:=by
 apply Subtype.mk;cbv<;>exact rfl
def A24:AF:=B24.1
def Ef:AC:=sA A24.body [1,1,1]
def JD:AC:=sA Ef [1,1,1,1]
def ss:AC:=sA Ef [1,1,1,0,1,0,0]
def UB:AC:=sA ss [1,1]
def UC:AC:=sA UB [1]
def UD:AC:=sA UB [0,0,1,1,0,0]
def UE:AC:=sA A24.body [1,1,0,1,0,0]
def Pb:St->Option St:=nN 5 (0::2::6::8::9::11::(rl 14 15 (rl 32 71 [])))
def LW:St:=⟨(.u::.x (.c (ro kE n0 f0))::.u::vxi i0::vxi i1::.x (.ptr 0 0)::.u::.x (.ptr 1 0)::.u::.u::.x (.ptr 2 0)::.u::.x (.own 3 0 n1)::.x (.own 4 0 n1)::(us 15 (.x (.c (ro kE n0 f0))::vxi i2::vxi i3::(us 71 [])))),[.box [(vcs w0),(vcs w1),(vci i4),(vci i5),(vci i6),(vcs w2)],.box (pjc kR0 g0),.box [(vci 0),(vci 0)],.arr kD n1 f1,.arr kD n1 f2]⟩
def LV:St:=⟨(.u::.x (.c (ro kE n0 f0))::.u::vxi i0::vxi i1::.x (.ptr 0 0)::.u::.x (.ptr 1 0)::.u::.u::.x (.ptr 2 0)::.u::.x (.own 3 0 n1)::.x (.own 4 0 n1)::(us 89 [])),[.box [(vcs w0),(vcs w1),(vci i2),(vci i3),(vci i4),(vcs w2)],.box (pjc kR0 g0),.box [(vci 0),(vci 0)],.arr kD n1 f1,.arr kD n1 f2]⟩
def mb {ρ:Type} (u:Nat) (x0:Nat) (x1:FF) (x2 x3 x4:Int) (x5 x6:ByteArray) (x7 x8 x9:Int) (xA:ByteArray) (xB:Nat->CV):Nat->Nat->Int->FF->FF->(Nat->FF->FF->Option ρ)->Option ρ
 | 0,_,_,_,_,_=>none
 | m+1,xC,xD,xE,xF,k0 =>
  (bif (decide (xD<x4)) then (bif (inb xD x0) then (bif (Nat.ble (xC+1) 1073741824) then (bif (Nat.ble (xC+1) 1073741824) then (mb u x0 x1 x2 x3 x4 x5 x6 x7 x8 x9 xA xB m (xC+1) (w64 (xD+1)) (aB xC xE (aG 1 [(.i .i64 (w64 ((x1 xD.toNat 2).int+(if 1>x3 then 1 else x3))))])) (aB xC xF (aG 1 [(.i .i64 (w64 ((x1 xD.toNat 3).int+(if 1>x3 then 1 else x3))))])) k0) else none) else none) else none) else (k0 xC xE xF))
theorem IG:∀ (m:Nat) (x0:Nat) (x1:Int) (x2 x3:FF) (k0:Nat->FF->FF->Option ρ),ob (mb u n0 f0 i0 i1 i2 w0 w1 i3 i4 i5 w2 g0 m x0 x1 x2 x3 k0) ng=mb u n0 f0 i0 i1 i2 w0 w1 i3 i4 i5 w2 g0 m x0 x1 x2 x3 (fun x4 x5 x6=>ob (k0 x4 x5 x6) ng)
 | 0,_,_,_,_,_=>rfl
 | m+1,x0,x1,x2,x3,k0=>by
  simp only [mb,ak,aw,af,IG m]
theorem MF:∀ (m:Nat) (x0:Nat) (x1:Int) (x2 x3:FF),
  am (eB UE (C45 u) u) Pb m (LW n0 x0 f0 x2 x3 i0 i1 i2 x1 i3 i4 i5 w0 w1 w2 g0) k=mb u n0 f0 i0 i1 i2 w0 w1 i3 i4 i5 w2 g0 m x0 x1 x2 x3 (fun x4 x5 x6=>k (.exit 0) (LV n0 x4 f0 x5 x6 i0 i1 i3 i4 i5 w0 w1 w2 g0))
 | 0,_,_,_,_=>rfl
 | m+1,x0,x1,x2,x3=>by
  simp only [mb,<- MF m]
  kernel_rfl
def Pa:St->Option St:=nN 5 (0::2::6::8::9::11::13::14::15::18::(rl 20 44 (67::68::69::(rl 73 30 []))))
def LU:St:=⟨(.u::.x (.c (ro kE n0 f0))::.u::vxi i0::vxi i1::.x (.ptr 0 0)::.u::.x (.ptr 1 0)::.u::.u::.x (.ptr 2 0)::.u::.x (.own 3 0 n1)::(us 3 (vxi i2::vxi i3::.u::vxi i4::(us 44 (.x (.own 4 0 n1)::vxi i5::vxi i6::(us 3 (.x (.own 3 0 n1)::vxi i7::vxi i8::(us 30 [])))))))),[.box [(vcs w0),(vcs w1),(vci i9),(vci iA),(vci iB),(vcs w2)],.box (pjc kR0 g0),.box [(vci 0),(vci 0)],.arr kD n1 f1,.arr kD n1 f2]⟩
def Vu:St:=⟨(us 10 (.x (.ptr 2 0)::vxb true::(us 91 []))),[.dead,.dead,.box [(vci i0),(vci i1)],.dead,.dead,.dead,.dead]⟩
def LT:St:=⟨(.u::.x (.c (ro kE n0 f0))::.u::vxi i0::vxi i1::.x (.ptr 0 0)::.u::.x (.ptr 1 0)::.u::.u::.x (.ptr 2 0)::.u::.x (.own 3 0 n1)::(us 3 (vxi i2::vxi i3::(us 46 (.x (.own 4 0 n1)::vxi i4::vxi i5::(us 36 [])))))),[.box [(vcs w0),(vcs w1),(vci i6),(vci i7),(vci i8),(vcs w2)],.box (pjc kR0 g0),.box [(vci 0),(vci 0)],.arr kD n1 f1,.arr kD n1 f2]⟩
def jC {ρ:Type} (u:Nat) (x0:Nat) (x1:FF) (x2 x3:Int) (x4:Nat) (x5 x6 x7 x8 x9 xA:Int) (xB xC:ByteArray) (xD xE xF:Int) (xG:ByteArray) (xH:Nat->CV) (xI xJ:FF):Nat->Int->(Int->Option ρ)->(Option ρ)->Option ρ
 | 0,_,_,_=>none
 | m+1,xK,k0,k1 =>
  (bif (decide (xK<xA)) then (bif (inb xK x4) then (ob (Ec u (au (pj kR0 xH)) x2 (xI (0+xK.toNat) 0).int x7) fun xL=>(bif (xL.2.2.2.2.2==true) then (ob (Eb u xE xF x0 x1 (xI (0+xK.toNat) 0).int x7 x5 x6 x3) fun xM=>(bif xM then (k0 (xI (0+xK.toNat) 0).int) else (jC u x0 x1 x2 x3 x4 x5 x6 x7 x8 x9 xA xB xC xD xE xF xG xH xI xJ m (w64 (xK+1)) k0 k1))) else (jC u x0 x1 x2 x3 x4 x5 x6 x7 x8 x9 xA xB xC xD xE xF xG xH xI xJ m (w64 (xK+1)) k0 k1))) else none) else k1)
theorem IF:∀ (m:Nat) (x0:Int) (k0:Int->Option ρ) (k1:Option ρ),ob (jC u n0 f0 i0 i1 n1 i2 i3 i4 i5 i6 i7 w0 w1 i8 i9 iA w2 g0 f1 f2 m x0 k0 k1) ng=jC u n0 f0 i0 i1 n1 i2 i3 i4 i5 i6 i7 w0 w1 i8 i9 iA w2 g0 f1 f2 m x0 (fun x1=>ob (k0 x1) ng) (ob k1 ng)
 | 0,_,_,_=>rfl
 | m+1,x0,k0,k1=>by
  simp only [jC,ak,aw,af,IF m]
theorem ME:∀ (m:Nat) (x0:Int),
  am (eB UD (C45 u) u) Pa m (LU n0 n1 f0 f1 f2 i0 i1 i2 i3 i4 i5 i6 i7 x0 i8 i9 iA w0 w1 w2 g0) k=jC u n0 f0 i0 i1 n1 i2 i3 i4 i5 i6 i7 w0 w1 i8 i9 iA w2 g0 f1 f2 m x0 (fun x1=>k .ret (Vu x1 i4)) (k (.exit 4) (LT n0 n1 f0 f1 f2 i0 i1 i2 i3 i5 i6 i8 i9 iA w0 w1 w2 g0))
 | 0,_=>rfl
 | m+1,x0=>by
  simp only [jC,<- ME m]
  kernel_rfl
def mO:St->Option St:=nN 5 (0::2::6::8::9::11::13::14::15::(rl 18 46 (rl 67 36 [])))
def sC:St:=⟨(.u::.x (.c (ro kE n0 f0))::.u::vxi i0::vxi i1::.x (.ptr 0 0)::.u::.x (.ptr 1 0)::.u::.u::.x (.ptr 2 0)::.u::.x (.own 3 0 n1)::(us 3 (vxi i2::vxi i3::(us 46 (.x (.own 4 0 n1)::vxi i4::vxi i5::(us 36 [])))))),[.box [(vcs w0),(vcs w1),(vci i6),(vci i7),(vci i8),(vcs w2)],.box (pjc kR0 g0),.box [(vci 0),(vci 0)],.arr kD n1 f1,.arr kD n1 f2]⟩
def Vt:St:=⟨(us 10 (.x (.ptr 2 0)::vxb true::(us 91 []))),[.dead,.dead,.box [(vci i0),(vci i1)],.dead,.dead,.dead,.dead]⟩
def LS:St:=⟨(us 10 (.x (.ptr 2 0)::(us 92 []))),[.dead,.dead,.box [(vci 0),(vci 0)],.dead,.dead]⟩
def eW {ρ:Type} (u:Nat) (x0:Nat) (x1:FF) (x2 x3:Int) (x4:Nat) (x5 x6 x7:Int) (x8 x9:ByteArray) (xA xB xC:Int) (xD:ByteArray) (xE:Nat->CV) (xF xG:FF):Nat->Int->(Int->Int->Option ρ)->(Option ρ)->Option ρ
 | 0,_,_,_=>none
 | m+1,xH,k0,k1 =>
  (bif (decide (xH<x7)) then (bif (inb xH x4) then (jC u x0 x1 x2 x3 x4 x5 x6 (xG (0+xH.toNat) 0).int x7 xH (Int.ofNat x4) x8 x9 xA xB xC xD xE xF xG u 0
  (fun xI=>(k0 xI (xG (0+xH.toNat) 0).int))
  (eW u x0 x1 x2 x3 x4 x5 x6 x7 x8 x9 xA xB xC xD xE xF xG m (w64 (xH+1)) k0 k1)) else none) else k1)
theorem IE:∀ (m:Nat) (x0:Int) (k0:Int->Int->Option ρ) (k1:Option ρ),ob (eW u n0 f0 i0 i1 n1 i2 i3 i4 w0 w1 i5 i6 i7 w2 g0 f1 f2 m x0 k0 k1) ng=eW u n0 f0 i0 i1 n1 i2 i3 i4 w0 w1 i5 i6 i7 w2 g0 f1 f2 m x0 (fun x1 x2=>ob (k0 x1 x2) ng) (ob k1 ng)
 | 0,_,_,_=>rfl
 | m+1,x0,k0,k1=>by
  simp only [eW,ak,aw,af,IE m,IF]
theorem VQ :
  am (eB ss (C45 u) u) mO (m+1) (sC n0 n1 f0 f1 f2 i0 i1 i2 i3 i4 i8 i5 i6 i7 w0 w1 w2 g0) k =
  (bif (decide (i8<i4)) then (bif (inb i8 n1) then (am (eB UD (C45 u) u) Pa u (LU n0 n1 f0 f1 f2 i0 i1 i2 i3 (f2 (0+i8.toNat) 0).int i4 i8 (Int.ofNat n1) 0 i5 i6 i7 w0 w1 w2 g0) (aA 4 (aA 3 (aI (C45 u) u (11::19::(rl 21 4 (rl 68 33 []))) UC (aN (eB ss (C45 u) u) mO m k))))) else none) else (k (.exit 2) LS)):=by kernel_rfl
theorem WE :
  (aA 4 (aA 3 (aI (C45 u) u (11::19::(rl 21 4 (rl 68 33 []))) UC (aN (eB ss (C45 u) u) mO m k)))) (.exit 4) (LT n0 n1 f0 f1 f2 i0 i1 i2 i3 i4 i5 i6 i7 i8 w0 w1 w2 g0) =
  (am (eB ss (C45 u) u) mO m (sC n0 n1 f0 f1 f2 i0 i1 i2 i3 i4 (w64 (i5+1)) i6 i7 i8 w0 w1 w2 g0) k):=by kernel_rfl
theorem MD:∀ (m:Nat) (x0:Int),
  am (eB ss (C45 u) u) mO m (sC n0 n1 f0 f1 f2 i0 i1 i2 i3 i4 x0 i5 i6 i7 w0 w1 w2 g0) k=eW u n0 f0 i0 i1 n1 i2 i3 i4 w0 w1 i5 i6 i7 w2 g0 f1 f2 m x0 (fun x1 x2=>k .ret (Vt x1 x2)) (k (.exit 2) LS)
 | 0,_=>rfl
 | m+1,x0=>by
  rw [VQ]
  simp only [eW,MD m,ME,WE]<;>kernel_rfl
def Cs (x0 x1:ByteArray) (x2 x3 x4:Int) (x5:ByteArray) (x6:Nat) (x7:FF) (x8:Nat->CV) (x9 xA:Int):Option (Int × Int × Bool) :=
 (mb u x6 x7 x9 xA (Int.ofNat x6) x0 x1 x2 x3 x4 x5 x8 u 1 0 (aG 1 [(.i .i64 xA)]) (aG 1 [(.i .i64 xA)])
  (fun xB xC xD=>(ob (Ct u xB xC) fun xE=>(bif (Nat.beq xB xB) then (bif (Nat.beq xB 0) then (ob (Ct u xB xD) fun xF=>(bif (Nat.beq xB xB) then (bif (Nat.beq xB 0) then (ob (lG u (au (pj kR0 x8)) x9) fun xG=>(eW u x6 x7 x9 xA xB xG.1 xG.2 (Int.ofNat xB) x0 x1 x2 x3 x4 x5 x8 xC xD u 0
  (fun xH xI=>(some (xH,xI,true)))
  (some (0,0,false)))) else (ob (lG u (au (pj kR0 x8)) x9) fun xJ=>(eW u x6 x7 x9 xA xB xJ.1 xJ.2 (Int.ofNat xB) x0 x1 x2 x3 x4 x5 x8 xC xF u 0
  (fun xK xL=>(some (xK,xL,true)))
  (some (0,0,false))))) else none)) else (ob (Ct u xB xD) fun xM=>(bif (Nat.beq xB xB) then (bif (Nat.beq xB 0) then (ob (lG u (au (pj kR0 x8)) x9) fun xN=>(eW u x6 x7 x9 xA xB xN.1 xN.2 (Int.ofNat xB) x0 x1 x2 x3 x4 x5 x8 xE xD u 0
  (fun xO xP=>(some (xO,xP,true)))
  (some (0,0,false)))) else (ob (lG u (au (pj kR0 x8)) x9) fun xQ=>(eW u x6 x7 x9 xA xB xQ.1 xQ.2 (Int.ofNat xB) x0 x1 x2 x3 x4 x5 x8 xE xM u 0
  (fun xR xS=>(some (xR,xS,true)))
  (some (0,0,false))))) else none))) else none))))
theorem WD :
  (aA 0 (aI (C45 u) u (15::(rl 29 25 [])) Ef (aH A24))) (.exit 0) (LV n0 n1 f0 f1 f2 i0 i1 i2 i3 i4 w0 w1 w2 g0) =
  (ob (Ct u n1 f1) fun x0=>(bif (Nat.beq n1 n1) then (bif (Nat.beq n1 0) then (ob (Ct u n1 f2) fun x1=>(bif (Nat.beq n1 n1) then (bif (Nat.beq n1 0) then (ob (lG u (au (pj kR0 g0)) i0) fun x2=>(am (eB ss (C45 u) u) mO u (sC n0 n1 f0 f1 f2 i0 i1 x2.1 x2.2 (Int.ofNat n1) 0 i2 i3 i4 w0 w1 w2 g0) (aA 2 (aI (C45 u) u (11::19::(rl 21 4 (rl 64 38 []))) JD (aH A24))))) else (ob (lG u (au (pj kR0 g0)) i0) fun x3=>(am (eB ss (C45 u) u) mO u (sC n0 n1 f0 f1 x1 i0 i1 x3.1 x3.2 (Int.ofNat n1) 0 i2 i3 i4 w0 w1 w2 g0) (aA 2 (aI (C45 u) u (11::19::(rl 21 4 (rl 64 38 []))) JD (aH A24)))))) else none)) else (ob (Ct u n1 f2) fun x4=>(bif (Nat.beq n1 n1) then (bif (Nat.beq n1 0) then (ob (lG u (au (pj kR0 g0)) i0) fun x5=>(am (eB ss (C45 u) u) mO u (sC n0 n1 f0 x0 f2 i0 i1 x5.1 x5.2 (Int.ofNat n1) 0 i2 i3 i4 w0 w1 w2 g0) (aA 2 (aI (C45 u) u (11::19::(rl 21 4 (rl 64 38 []))) JD (aH A24))))) else (ob (lG u (au (pj kR0 g0)) i0) fun x6=>(am (eB ss (C45 u) u) mO u (sC n0 n1 f0 x0 x4 i0 i1 x6.1 x6.2 (Int.ofNat n1) 0 i2 i3 i4 w0 w1 w2 g0) (aA 2 (aI (C45 u) u (11::19::(rl 21 4 (rl 64 38 []))) JD (aH A24)))))) else none))) else none)):=by kernel_rfl
theorem abi:aD (C45 u) u A24 [.agg [(.s w0),(.s w1),(vi i0),(vi i1),(vi i2),(.s w2)],.v (ro kE n0 f0),.agg (pj kR0 g0),.v (vi i3),.v (vi i4)]=ob (Cs u w0 w1 i0 i1 i2 w2 n0 f0 g0 i3 i4) fun t=>some [.agg [(vi t.1),(vi t.2.1)],.v (.b t.2.2)]:=Eq.trans (b:=(am (eB UE (C45 u) u) Pb u (LW n0 1 f0 (aG 1 [(vi i4)]) (aG 1 [(vi i4)]) i3 i4 (Int.ofNat n0) 0 i0 i1 i2 w0 w1 w2 g0) (aA 0 (aI (C45 u) u (15::(rl 29 25 [])) Ef (aH A24))))) (by kernel_rfl) (by
 simp only [Cs,ak,aw,af,aa,IG,IE,MF,WD,MD]<;>kernel_rfl)
def Zb:Ora:=mkO (qc (ag (tc cS (tc cS (tc ci (tc ci (tc ci (t1 cS))))))) (qc (av (cL kE)) (qc (ar kR0) (qc (av ci) (q1 (av ci)))))) (fun x=>Cs u x.1.1 x.1.2.1 x.1.2.2.1 x.1.2.2.2.1 x.1.2.2.2.2.1 x.1.2.2.2.2.2 x.2.1.1 x.2.1.2 x.2.2.1 x.2.2.2.1 x.2.2.2.2) fun t=>[.agg [(vi t.1),(vi t.2.1)],.v (.b t.2.2)]
theorem abV:DO (Zb u) (C45 u) 24 A24:=dO u (fun x=>by exact abi u x.2.1.1 x.2.1.2 x.1.2.2.1 x.1.2.2.2.1 x.1.2.2.2.2.1 x.2.2.2.1 x.2.2.2.2 x.1.1 x.1.2.1 x.1.2.2.2.2.2 x.2.2.1)
def C46:ao:=(C45 u).add 24 (fun _=>true) (Zb u)
def B26:An tT Tryz.f26 [.g [0,1],.k (rl 0 6 (rl 7 19 []))]:=by
 apply Subtype.mk;cbv<;>exact rfl
def A26:AF:=B26.1
def Ea (x0:Nat->CV) (x1 x2 x3:Int):Option (Int × Int × Int × Int) :=
 (ob (lG u (au (pj kR0 x0)) x1) fun x4=>(some (x2,x3,(w64 (x2+x4.1)),(w64 (x3+x4.2)))))
theorem abh:aD (C46 u) u A26 [.agg (pj kR0 g0),.v (vi i0),.agg [(vi i1),(vi i2)]]=ob (Ea u g0 i0 i1 i2) fun t=>some [.agg [(vi t.1),(vi t.2.1),(vi t.2.2.1),(vi t.2.2.2)]]:=by
 simp only [Ea,ak,aw,af,aa]
 kernel_rfl
def Za:Ora:=mkO (qc (ar kR0) (qc (av ci) (q1 (ag (tc ci (t1 ci)))))) (fun x=>Ea u x.1 x.2.1 x.2.2.1 x.2.2.2) fun t=>[.agg [(vi t.1),(vi t.2.1),(vi t.2.2.1),(vi t.2.2.2)]]
theorem abU:DO (Za u) (C46 u) 26 A26:=dO u (fun x=>by exact abh u x.2.1 x.2.2.1 x.2.2.2 x.1)
def C47:ao:=(C46 u).add 26 (fun _=>true) (Za u)
def B10:An tT Tryz.f10 [.k (rl 23 4 []),.g [0,2],.k (rl 0 6 (rl 7 97 [])),.k (8::(rl 10 9 (rl 27 76 []))),.h [.cell 7 2 kB,.slot 8 kE],.k (0::1::4::5::(rl 9 20 (rl 32 72 []))),.k [],.g [0,4],.k (rl 0 6 (rl 8 96 [])),.k (rl 10 9 (rl 33 69 [])),.k (rl 35 4 []),.g [0,4,5],.k (rl 0 6 (rl 8 96 [])),.k (14::15::16::(rl 40 41 [])),.h [],.k (0::1::4::5::9::(rl 14 15 (rl 32 8 (rl 41 63 [])))),.k [],.k (0::1::4::5::9::(rl 14 15 (rl 32 72 []))),.k (14::15::16::(rl 42 38 [])),.g [0,2,4,5],.k (rl 0 6 (rl 7 97 []))]:=by
 apply Subtype.mk;cbv<;>exact rfl
def A10:AF:=B10.1
def Qf:AC:=sA A10.body [1,1,1]
def aaM:AC:=sA Qf [1,1]
def Ax:AC:=sA Qf [1,0,1,0,0]
def UU:AC:=sA Ax [1,1]
def UV:AC:=sA UU [1]
def UW:AC:=sA UU [0,0,1,1]
def UX:AC:=sA UW [1,1]
def UY:AC:=sA UW [1,0,1,0,0]
def O9:St->Option St:=nN 7 (0::1::4::5::9::(rl 14 15 (rl 32 8 (rl 41 63 []))))
def LR:St:=⟨(.u::.u::vxi i0::.x (.ptr 0 0)::.u::.u::.x (.ptr 1 0)::.x (.ptr 2 0)::.x (.own 4 0 n0)::.u::.x (.ptr 5 0)::vxi i1::.x (.ptr 6 0)::vxb b0::(us 15 (.x (.c (ro kA n1 f0))::vxi i2::vxi i3::(us 8 (vxi i4::(us 63 [])))))),[.box [(vcs w0),(vcs w1),(vci i5),(vci i6),(vci i7),(vcs w2)],.box [(vcs ByteArray.empty),(vci 0),(vcn)],.box [(vcs w0),(vci i0),(.own 3 0 n0)],.arr kB n0 f1,.arr kE n0 f2,.box [(vcs w3),(vci i8),(vci i9),(vcs w4),(vcs w5),(vci iA),(.c (ro kP n2 f3)),(.c (ro kF n3 f4)),(vcs w6),(vci iB),(vci iC),(vci iD),(vci iE),(vci iF),(vci iG),(vci iH),(vci iI),(vci iJ)],.box [(vci iK),(vci iL)]]⟩
def LQ:St:=⟨(.u::.u::vxi i0::.x (.ptr 0 0)::.u::.u::.x (.ptr 1 0)::.x (.ptr 2 0)::.x (.own 4 0 n0)::.u::.x (.ptr 5 0)::vxi i1::.x (.ptr 6 0)::vxb b0::(us 15 (.x (.c (ro kA n1 f0))::vxi i2::vxi i3::(us 72 [])))),[.box [(vcs w0),(vcs w1),(vci i4),(vci i5),(vci i6),(vcs w2)],.box [(vcs ByteArray.empty),(vci 0),(vcn)],.box [(vcs w0),(vci i0),(.own 3 0 n0)],.arr kB n0 f1,.arr kE n0 f2,.box [(vcs w3),(vci i7),(vci i8),(vcs w4),(vcs w5),(vci i9),(.c (ro kP n2 f3)),(.c (ro kF n3 f4)),(vcs w6),(vci iA),(vci iB),(vci iC),(vci iD),(vci iE),(vci iF),(vci iG),(vci iH),(vci iI)],.box [(vci iJ),(vci iK)]]⟩
def jU {ρ:Type} (u:Nat) (x0:Int) (x1 x2:Nat) (x3:FF) (x4 x5:Int) (x6 x7:ByteArray) (x8 x9 xA:Int) (xB:ByteArray) (xC xD:FF) (xE:ByteArray) (xF xG:Int) (xH xI:ByteArray) (xJ:Int) (xK:Nat) (xL:FF) (xM:Nat) (xN:FF) (xO:ByteArray) (xP xQ xR xS xT xU xV xW xX:Int):Nat->Int->Bool->Int->Int->Int->(Int->Bool->Int->Int->Option ρ)->Option ρ
 | 0,_,_,_,_,_,_=>none
 | m+1,xY,xZ,xa,xb,xc,k0 =>
  (bif (decide (xa<2)) then (ob (Cs u x6 x7 x8 x9 xA xB x1 xD (au [(.s xE),(.i .i64 xF),(.i .i64 xG),(.s xH),(.s xI),(.i .i64 xJ),(.ro false (.pr (.int .i64) (.pr (.int .i64) .nil)) xK xL),(.ro false (.pr (.sl (.pr (.int .i64) (.pr (.int .i64) .nil))) .nil) xM xN),(.s xO),(.i .i64 xP),(.i .i64 xQ),(.i .i64 xR),(.i .i64 xS),(.i .i64 xT),(.i .i64 xU),(.i .i64 xV),(.i .i64 xW),(.i .i64 xX)]) xa x0) fun xd=>(bif (xd.2.2==true) then (bif ((!xZ)==false) then (bif ((decide (xd.2.1<xc))==false) then (bif ((xd.2.1==xc)==true) then (bif (decide (xd.1<xb)) then (jU u x0 x1 x2 x3 x4 x5 x6 x7 x8 x9 xA xB xC xD xE xF xG xH xI xJ xK xL xM xN xO xP xQ xR xS xT xU xV xW xX m xa true (w64 (xa+1)) xd.1 xd.2.1 k0) else (jU u x0 x1 x2 x3 x4 x5 x6 x7 x8 x9 xA xB xC xD xE xF xG xH xI xJ xK xL xM xN xO xP xQ xR xS xT xU xV xW xX m xY xZ (w64 (xa+1)) xb xc k0)) else (jU u x0 x1 x2 x3 x4 x5 x6 x7 x8 x9 xA xB xC xD xE xF xG xH xI xJ xK xL xM xN xO xP xQ xR xS xT xU xV xW xX m xY xZ (w64 (xa+1)) xb xc k0)) else (jU u x0 x1 x2 x3 x4 x5 x6 x7 x8 x9 xA xB xC xD xE xF xG xH xI xJ xK xL xM xN xO xP xQ xR xS xT xU xV xW xX m xa true (w64 (xa+1)) xd.1 xd.2.1 k0)) else (jU u x0 x1 x2 x3 x4 x5 x6 x7 x8 x9 xA xB xC xD xE xF xG xH xI xJ xK xL xM xN xO xP xQ xR xS xT xU xV xW xX m xa true (w64 (xa+1)) xd.1 xd.2.1 k0)) else (jU u x0 x1 x2 x3 x4 x5 x6 x7 x8 x9 xA xB xC xD xE xF xG xH xI xJ xK xL xM xN xO xP xQ xR xS xT xU xV xW xX m xY xZ (w64 (xa+1)) xb xc k0))) else (k0 xY xZ xb xc))
theorem ID:∀ (m:Nat) (x0:Int) (x1:Bool) (x2 x3 x4:Int) (k0:Int->Bool->Int->Int->Option ρ),ob (jU u i0 n0 n1 f0 i1 i2 w0 w1 i3 i4 i5 w2 f1 f2 w3 i6 i7 w4 w5 i8 n2 f3 n3 f4 w6 i9 iA iB iC iD iE iF iG iH m x0 x1 x2 x3 x4 k0) ng=jU u i0 n0 n1 f0 i1 i2 w0 w1 i3 i4 i5 w2 f1 f2 w3 i6 i7 w4 w5 i8 n2 f3 n3 f4 w6 i9 iA iB iC iD iE iF iG iH m x0 x1 x2 x3 x4 (fun x5 x6 x7 x8=>ob (k0 x5 x6 x7 x8) ng)
 | 0,_,_,_,_,_,_=>rfl
 | m+1,x0,x1,x2,x3,x4,k0=>by
  simp only [jU,ak,aw,af,ID m]
theorem MC:∀ (m:Nat) (x0:Int) (x1:Bool) (x2 x3 x4:Int),
  am (eB UY (C47 u) u) O9 m (LR n0 n1 n2 n3 f0 f1 f2 f3 f4 i0 x0 i1 i2 x2 i3 i4 i5 i6 i7 i8 i9 iA iB iC iD iE iF iG iH x3 x4 x1 w0 w1 w2 w3 w4 w5 w6) k=jU u i0 n0 n1 f0 i1 i2 w0 w1 i3 i4 i5 w2 f1 f2 w3 i6 i7 w4 w5 i8 n2 f3 n3 f4 w6 i9 iA iB iC iD iE iF iG iH m x0 x1 x2 x3 x4 (fun x5 x6 x7 x8=>k (.exit 2) (LQ n0 n1 n2 n3 f0 f1 f2 f3 f4 i0 x5 i1 i2 i3 i4 i5 i6 i7 i8 i9 iA iB iC iD iE iF iG iH x7 x8 x6 w0 w1 w2 w3 w4 w5 w6))
 | 0,_,_,_,_,_=>rfl
 | m+1,x0,x1,x2,x3,x4=>by
  simp only [jU,<- MC m]
  kernel_rfl
def sW:St->Option St:=nN 5 (0::1::4::5::(rl 9 20 (rl 32 72 [])))
def Bc:St:=⟨(.u::.u::vxi i0::.x (.ptr 0 0)::.u::.u::.x (.ptr 1 0)::.x (.ptr 2 0)::.x (.own 4 0 n0)::(us 20 (.x (.c (ro kA n1 f0))::vxi i1::vxi i2::(us 72 [])))),[.box [(vcs w0),(vcs w1),(vci i3),(vci i4),(vci i5),(vcs w2)],.box [(vcs ByteArray.empty),(vci 0),(vcn)],.box [(vcs w0),(vci i0),(.own 3 0 n0)],.arr kB n0 f1,.arr kE n0 f2]⟩
def LP:St:=⟨(us 6 (.x (.ptr 1 0)::.x (.ptr 2 0)::(us 96 []))),[.dead,.box [(vcs ByteArray.empty),(vci 0),(vcn)],.box [(vcs w0),(vci i0),(.own 3 0 n0)],.arr kB n0 f0,.dead,.dead]⟩
def LO:St:=⟨(us 6 (.x (.ptr 1 0)::.x (.ptr 2 0)::(us 96 []))),[.dead,.box [(vcs ByteArray.empty),(vci 0),(vcn)],.box [(vcs w0),(vci i0),(.own 3 0 n0)],.arr kB n0 f0,.dead]⟩
def oV {ρ:Type} (u:Nat) (x0:Int) (x1:Nat) (x2:FF) (x3:Int) (x4 x5:ByteArray) (x6 x7 x8:Int) (x9:ByteArray):Nat->Nat->Int->FF->FF->(Nat->FF->Option ρ)->(Nat->FF->Option ρ)->Option ρ
 | 0,_,_,_,_,_,_=>none
 | m+1,xA,xB,xC,xD,k0,k1 =>
  (bif (decide (xB<x3)) then (bif (inb xB x1) then (bif ((Int.ofNat xA)==32) then (k0 xA xC) else (jU u x0 xA x1 x2 x3 xB x4 x5 x6 x7 x8 x9 xC xD (x2 xB.toNat 0).str (x2 xB.toNat 1).int (x2 xB.toNat 2).int (x2 xB.toNat 3).str (x2 xB.toNat 4).str (x2 xB.toNat 5).int (x2 xB.toNat 6).len (x2 xB.toNat 6).el (x2 xB.toNat 7).len (x2 xB.toNat 7).el (x2 xB.toNat 8).str (x2 xB.toNat 9).int (x2 xB.toNat 10).int (x2 xB.toNat 11).int (x2 xB.toNat 12).int (x2 xB.toNat 13).int (x2 xB.toNat 14).int (x2 xB.toNat 15).int (x2 xB.toNat 16).int (x2 xB.toNat 17).int u 0 false 0 0 0
  (fun xE xF xG xH=>(bif xF then (ob (Ec u (au (pj kR0 (x2 xB.toNat))) xE xG xH) fun xI=>(bif (Nat.ble (xA+1) 1073741824) then (ob (Ea u (au (pj kR0 (x2 xB.toNat))) xE xG xH) fun xJ=>(bif (Nat.ble (xA+1) 1073741824) then (oV u x0 x1 x2 x3 x4 x5 x6 x7 x8 x9 m (xA+1) (w64 (xB+1)) (aB xA xC (aG 5 [(.s xI.1),(.i .i64 xI.2.1),(.i .i64 xI.2.2.1),(.i .i64 xI.2.2.2.1),(.b xI.2.2.2.2.1)])) (aB xA xD (aG 4 [(.i .i64 xJ.1),(.i .i64 xJ.2.1),(.i .i64 xJ.2.2.1),(.i .i64 xJ.2.2.2)])) k0 k1) else none)) else none)) else (oV u x0 x1 x2 x3 x4 x5 x6 x7 x8 x9 m xA (w64 (xB+1)) xC xD k0 k1))))) else none) else (k1 xA xC))
theorem IC:∀ (m:Nat) (x0:Nat) (x1:Int) (x2 x3:FF) (k0:Nat->FF->Option ρ) (k1:Nat->FF->Option ρ),ob (oV u i0 n0 f0 i1 w0 w1 i2 i3 i4 w2 m x0 x1 x2 x3 k0 k1) ng=oV u i0 n0 f0 i1 w0 w1 i2 i3 i4 w2 m x0 x1 x2 x3 (fun x4 x5=>ob (k0 x4 x5) ng) (fun x6 x7=>ob (k1 x6 x7) ng)
 | 0,_,_,_,_,_,_=>rfl
 | m+1,x0,x1,x2,x3,k0,k1=>by
  simp only [oV,ak,aw,af,IC m,ID]
theorem VP :
  am (eB Ax (C47 u) u) sW (m+1) (Bc n1 n0 f0 f1 f2 i0 i1 i5 i2 i3 i4 w0 w1 w2) k =
  (bif (decide (i5<i1)) then (bif (inb i5 n0) then (bif ((Int.ofNat n1)==32) then (k (.exit 0) (LP n1 f1 i0 w0)) else (am (eB UY (C47 u) u) O9 u (LR n1 n0 (f0 i5.toNat 6).len (f0 i5.toNat 7).len f0 f1 f2 (f0 i5.toNat 6).el (f0 i5.toNat 7).el i0 0 i1 i5 0 i2 i3 i4 (f0 i5.toNat 1).int (f0 i5.toNat 2).int (f0 i5.toNat 5).int (f0 i5.toNat 9).int (f0 i5.toNat 10).int (f0 i5.toNat 11).int (f0 i5.toNat 12).int (f0 i5.toNat 13).int (f0 i5.toNat 14).int (f0 i5.toNat 15).int (f0 i5.toNat 16).int (f0 i5.toNat 17).int 0 0 false w0 w1 w2 (f0 i5.toNat 0).str (f0 i5.toNat 3).str (f0 i5.toNat 4).str (f0 i5.toNat 8).str) (aA 2 (aI (C47 u) u (14::15::16::(rl 40 41 [])) UX (aA 1 (aI (C47 u) u (rl 10 9 (rl 33 69 [])) UV (aN (eB Ax (C47 u) u) sW m k))))))) else none) else (k (.exit 0) (LO n1 f1 i0 w0))):=by kernel_rfl
theorem WC :
  (aA 2 (aI (C47 u) u (14::15::16::(rl 40 41 [])) UX (aA 1 (aI (C47 u) u (rl 10 9 (rl 33 69 [])) UV (aN (eB Ax (C47 u) u) sW m k))))) (.exit 2) (LQ n0 n1 (f0 i3.toNat 6).len (f0 i3.toNat 7).len f0 f1 f2 (f0 i3.toNat 6).el (f0 i3.toNat 7).el i0 i1 i2 i3 i4 i5 i6 (f0 i3.toNat 1).int (f0 i3.toNat 2).int (f0 i3.toNat 5).int (f0 i3.toNat 9).int (f0 i3.toNat 10).int (f0 i3.toNat 11).int (f0 i3.toNat 12).int (f0 i3.toNat 13).int (f0 i3.toNat 14).int (f0 i3.toNat 15).int (f0 i3.toNat 16).int (f0 i3.toNat 17).int i7 i8 b0 w0 w1 w2 (f0 i3.toNat 0).str (f0 i3.toNat 3).str (f0 i3.toNat 4).str (f0 i3.toNat 8).str) =
  (bif b0 then (ob (Ec u (au (pj kR0 (f0 i3.toNat))) i1 i7 i8) fun x0=>(bif (Nat.ble (n0+1) 1073741824) then (ob (Ea u (au (pj kR0 (f0 i3.toNat))) i1 i7 i8) fun x1=>(bif (Nat.ble (n0+1) 1073741824) then (am (eB Ax (C47 u) u) sW m (Bc (n0+1) n1 f0 (aB n0 f1 (aG 5 [(.s x0.1),(vi x0.2.1),(vi x0.2.2.1),(vi x0.2.2.2.1),(.b x0.2.2.2.2.1)])) (aB n0 f2 (aG 4 [(vi x1.1),(vi x1.2.1),(vi x1.2.2.1),(vi x1.2.2.2)])) i0 i2 (w64 (i3+1)) i4 i5 i6 w0 w1 w2) k) else none)) else none)) else (am (eB Ax (C47 u) u) sW m (Bc n0 n1 f0 f1 f2 i0 i2 (w64 (i3+1)) i4 i5 i6 w0 w1 w2) k)):=by kernel_rfl
theorem MB:∀ (m:Nat) (x0:Nat) (x1:Int) (x2 x3:FF),
  am (eB Ax (C47 u) u) sW m (Bc x0 n0 f0 x2 x3 i0 i1 x1 i2 i3 i4 w0 w1 w2) k=oV u i0 n0 f0 i1 w0 w1 i2 i3 i4 w2 m x0 x1 x2 x3 (fun x4 x5=>k (.exit 0) (LP x4 x5 i0 w0)) (fun x6 x7=>k (.exit 0) (LO x6 x7 i0 w0))
 | 0,_,_,_,_=>rfl
 | m+1,x0,x1,x2,x3=>by
  rw [VP]
  simp only [oV,MB m,MC,WC]
def Pv (x0 x1:ByteArray) (x2 x3 x4:Int) (x5:ByteArray) (x6:Nat) (x7:FF) (x8:Int):Option (Bool × ByteArray × Int × Nat × FF) :=
 (ob (d8 u x8 0 500) fun x9=>(bif (!x9) then (some (true,x0,x8,0,(fun _ _=>.any))) else (ob (te u x0 x1 x2 x3 x4 x5 x6 x7) fun xA=>(oV u x8 xA.1 xA.2 (Int.ofNat xA.1) x0 x1 x2 x3 x4 x5 u 0 0 (fun _ _=>.any) (fun _ _=>.any)
  (fun xB xC=>(some (false,x0,x8,xB,xC)))
  (fun xD xE=>(some (false,x0,x8,xD,xE)))))))
theorem abg:aD (C47 u) u A10 [.agg [(.s w0),(.s w1),(vi i0),(vi i1),(vi i2),(.s w2)],.v (ro kA n0 f0),.v (vi i3)]=ob (Pv u w0 w1 i0 i1 i2 w2 n0 f0 i3) fun t=>some (bif t.1 then [.agg [(.s t.2.1),(vi t.2.2.1),(.ro true kB 0 aR)]] else [.agg [(.s t.2.1),(vi t.2.2.1),(ro kB t.2.2.2.1 t.2.2.2.2)]]):=Eq.trans (b:=(ob (d8 u i3 0 500) fun x0=>(bif (!x0) then (some [.agg [(.s w0),(vi i3),(.ro true kB 0 aR)]]) else (ob (te u w0 w1 i0 i1 i2 w2 n0 f0) fun x1=>(am (eB Ax (C47 u) u) sW u (Bc 0 x1.1 x1.2 aR aR i3 (Int.ofNat x1.1) 0 i0 i1 i2 w0 w1 w2) (aA 0 (aI (C47 u) u (8::(rl 10 9 (rl 27 76 []))) aaM (aH A10)))))))) (by kernel_rfl) (by
 simp only [Pv,ak,aw,af,aa,IC,MB,cond_true,cond_false]<;>kernel_rfl)
def WX (x0 x1:ByteArray) (x2 x3 x4:Int) (x5:ByteArray) (x6:Nat) (x7:FF) (x8:Int):Option (ByteArray × Int × Nat × FF):=ob (Pv u x0 x1 x2 x3 x4 x5 x6 x7 x8) fun t=>some (bif t.1 then (t.2.1,t.2.2.1,0,(fun _ _=>.any)) else (t.2.1,t.2.2.1,t.2.2.2.1,t.2.2.2.2))
def Y9:Ora:=mkO (qc (ag (tc cS (tc cS (tc ci (tc ci (tc ci (t1 cS))))))) (qc (av (cL kA)) (q1 (av ci)))) (fun x=>WX u x.1.1 x.1.2.1 x.1.2.2.1 x.1.2.2.2.1 x.1.2.2.2.2.1 x.1.2.2.2.2.2 x.2.1.1 x.2.1.2 x.2.2) fun t=>[.agg [(.s t.1),(vi t.2.1),(ro kB t.2.2.1 t.2.2.2)]]
theorem abT:DO (Y9 u) (C47 u) 10 A10:=dW u (fun x=>by exact abg u x.2.1.1 x.2.1.2 x.1.2.2.1 x.1.2.2.2.1 x.1.2.2.2.2.1 x.2.2 x.1.1 x.1.2.1 x.1.2.2.2.2.2) (fun _=>rfl) fun t=>by
 obtain ⟨b,t⟩:=t
 cases b with
 | true=>exact (.cons (WkA.agg (.cons (Wk.refl _) (.cons (Wk.refl _) (.cons (Wk.ro (by rfl)) .nil)))) .nil)
 | false =>
  exact (.cons (WkA.agg (.cons (Wk.refl _) (.cons (Wk.refl _) (.cons (Wk.refl _) .nil)))) .nil)
def C48:ao:=(C47 u).add 10 (fun _=>true) (Y9 u)
def B58:An tT Tryz.f58 [.k (rl 4 15 []),.h [],.k (rl 2 5 (rl 9 10 [])),.k [],.k (rl 0 19 []),.k (4::5::(rl 10 8 [])),.k (rl 0 4 (rl 5 14 [])),.k (rl 0 4 (rl 5 14 []))]:=by
 apply Subtype.mk;cbv<;>exact rfl
def A58:AF:=B58.1
def ZU:AC:=sA A58.body [1,1]
def Ud:AC:=sA A58.body [1,0,1,0,0]
def Pi:St->Option St:=nN 0 (rl 2 5 (rl 9 10 []))
def L9:St:=⟨(.x (.c (ro kD n0 f0))::vxi i0::(us 5 (vxi i1::vxi i2::(us 10 [])))),[]⟩
def VC:St:=⟨(us 4 (vxi i0::(us 14 []))),[]⟩
def VB:St:=⟨(us 19 []),[]⟩
def m7 {ρ:Type} (u:Nat) (x0:Nat) (x1:FF) (x2 x3:Int):Nat->Int->(Int->Option ρ)->(Option ρ)->Option ρ
 | 0,_,_,_=>none
 | m+1,x4,k0,k1 =>
  (bif (decide (x4<x3)) then (bif (inb x4 x0) then (bif (x2==(x1 x4.toNat 0).int) then (k0 x4) else (m7 u x0 x1 x2 x3 m (w64 (x4+1)) k0 k1)) else none) else k1)
theorem IU:∀ (m:Nat) (x0:Int) (k0:Int->Option ρ) (k1:Option ρ),ob (m7 u n0 f0 i0 i1 m x0 k0 k1) ng=m7 u n0 f0 i0 i1 m x0 (fun x1=>ob (k0 x1) ng) (ob k1 ng)
 | 0,_,_,_=>rfl
 | m+1,x0,k0,k1=>by
  simp only [m7,ak,aw,af,IU m]
theorem MO:∀ (m:Nat) (x0:Int),
  am (eB Ud (C48 u) u) Pi m (L9 n0 f0 i0 i1 x0) k=m7 u n0 f0 i0 i1 m x0 (fun x1=>k .ret (VC x1)) (k (.exit 0) VB)
 | 0,_=>rfl
 | m+1,x0=>by
  simp only [m7,<- MO m]
  kernel_rfl
def KO (x0:Nat) (x1:FF) (x2:Int):Option (Int) :=
 (m7 u x0 x1 x2 (Int.ofNat x0) u 0
  (fun x3=>(some x3))
  (some (-1)))
theorem abs:aD (C48 u) u A58 [.v (ro kD n0 f0),.v (vi i0)]=ob (KO u n0 f0 i0) fun t=>some [.v (vi t)]:=Eq.trans (b:=(am (eB Ud (C48 u) u) Pi u (L9 n0 f0 i0 (Int.ofNat n0) 0) (aA 0 (aI (C48 u) u (rl 4 15 []) ZU (aH A58))))) (by kernel_rfl) (by
 simp only [KO,ak,aw,af,aa,IU,MO]<;>kernel_rfl)
def Zl:Ora:=mkO (qc (av (cL kD)) (q1 (av ci))) (fun x=>KO u x.1.1 x.1.2 x.2) fun t=>[.v (vi t)]
theorem ab5:DO (Zl u) (C48 u) 58 A58:=dO u (fun x=>by exact abs u x.1.1 x.1.2 x.2)
def C49:ao:=(C48 u).add 58 (fun _=>true) (Zl u)
def aah:AC:=(.region 13 [o1 72 (bk .add 3 37 1),mv 37 72] 0 none)
def aag:AC:=(.seq (.block 3
 (.seq (.region 9 [o1 39 (.indexAddr 79 3 1 (tm 35) (tm 37)),o1 40 (lo 3 39),o1 17 (sg 40)] 0 none) []
  (.seq (.region 10 [mv 41 2,mv 42 17,o1 43 (cs 58 [41,42] [79,3]),mv 44 2,mv 45 14,o1 46 (cs 58 [44,45] [79,3]),o1 47 (bt .lss 3 43 46)] 0 none) []
  (.cond (tm 47)
  (.region 11 [o1 48 (fa 42 15 0 0),o1 49 (lo 3 48),mv 50 11,mv 51 17,o1 52 (.indexAddr 65 72 4 (tm 50) (tm 51)),o1 53 (fa 72 52 1 2),o1 54 (fa 42 53 0 0),o1 55 (lo 3 54),mv 56 12,o1 57 (bt .add 3 55 56),o1 58 (.mm true [(tm 49),(tm 57)] [3,3]),o1 59 (fa 42 15 0 0),o0 (.store 3 1 (tm 59) (tm 58))] 0 (some [[],[0],[],[],[2,3],[2,3,4],(rl 2 4 []),(rl 2 5 []),[],(rl 2 7 []),(rl 0 10 []),(rl 0 11 []),(rl 0 12 [])]))
  (.region 12 [o1 60 (fa 42 15 1 1),o1 61 (lo 3 60),mv 62 11,mv 63 17,o1 64 (.indexAddr 65 72 4 (tm 62) (tm 63)),o1 65 (fa 72 64 1 2),o1 66 (fa 42 65 1 1),o1 67 (lo 3 66),mv 68 12,o1 69 (bt .add 3 67 68),o1 70 (.mm true [(tm 61),(tm 69)] [3,3]),o1 71 (fa 42 15 1 1),o0 (.store 3 1 (tm 71) (tm 70))] 0 (some [[],[0],[],[],[2,3],[2,3,4],(rl 2 4 []),(rl 2 5 []),[],(rl 2 7 []),(rl 0 10 []),(rl 0 11 []),(rl 0 12 [])])))))) (17::(rl 39 33 []))
 aah)
def PY:AC:=(.seq (.region 8 [o1 38 (bt .lss 3 37 36)] 0 none) []
 (.seq (.cond (tm 38)
 .skip
 (.exit 2 (rl 5 6 (13::(rl 16 7 (rl 26 62 [])))))) []
 aag))
def PX:AC:=(.region 14 [mv 73 11,mv 74 14,mv 75 0,mv 76 14,o1 77 (.indexAddr 24 58 18 (tm 75) (tm 76)),o1 78 (ln 58 18 77),mv 79 1,mv 80 14,o1 81 (.indexAddr 79 3 1 (tm 79) (tm 80)),o1 82 (lo 3 81),o1 83 (ln 42 2 15),o1 84 (cs 26 [78,82,83] [58,3,42]),o1 85 (.indexAddr 65 72 4 (tm 73) (tm 74)),o0 (.store 72 4 (tm 85) (tm 84))] 0 (some [[],[],[],[],[2,3],[2,3,4],[],[],[6,7],[6,7,8],[],(rl 2 9 []),(rl 0 12 []),(rl 0 13 [])]))
def PW:AC:=(.region 15 [o1 86 (bk .add 3 25 1),mv 25 86] 0 none)
def aaf:AC:=(.seq (.block 1
 (.seq (.region 5 [mv 27 25,o1 28 (.indexAddr 79 3 1 (tm 23) (tm 25)),o1 29 (lo 3 28),o1 13 (sg 27),o1 14 (sg 29)] 0 none) []
  (.seq (.region 6 [mv 30 4,mv 31 4,o1 32 (.build 42 [vci 0,vci 0] [(0,1),(1,1)] 0 [(0,(tm 30)),(1,(tm 31))]),o1 15 (.alloc 0 42 [vci 0,vci 0]),o0 (.store 42 2 (tm 15) (tm 32))] 1 none) []
  (.seq (.seq (.region 7 [mv 33 3,mv 34 13,o1 35 (.slice 79 3 1 (tm 33) none (some (tm 34)) none),o1 36 (.len 79 false (tm 35)),o1 37 (.move (ic 0))] 0 none) []
  (.block 2
  (.loop [] (rl 5 6 (13::(rl 16 7 (rl 26 9 (rl 38 50 [])))))
   PY))) (17::(rl 33 40 []))
  PX)))) (13::14::15::17::(rl 27 59 []))
 PW)
def Cd:AC:=(.seq (.region 4 [o1 26 (bt .lss 3 25 24)] 0 none) []
 (.seq (.cond (tm 26)
 .skip
 (.exit 0 (rl 0 11 (rl 12 76 [])))) []
 aaf))
def Uy:AC:=(.seq (.region 16 [mv 87 11,o1 10 (sg 87)] 0 none) []
 (.ret (rl 0 10 (rl 11 77 []))))
def A34:AF:=⟨88,[.tmp 10],
 (.seq (.region 0 [o1 10 (.assign (.const (.slice none 0 0)))] 0 none) []
 (.seq (.region 1 [mv 18 0,o1 19 (.len 24 false (tm 18)),o1 20 (.makeSlice 0 65 72 kE 32 [(vi 0),(vi 0),(vi 0),(vi 0)] (tm 19) (tm 19)),o1 11 (sg 20)] 1 none) []
 (.seq (.region 2 [mv 21 4,o1 22 (.mm true [(tm 21),(ic 1)] [3,3]),o1 12 (sg 22)] 0 none) []
 (.seq (.seq (.region 3 [mv 23 3,o1 24 (.len 79 false (tm 23)),o1 25 (.move (ic 0))] 0 none) []
 (.block 0
 (.loop [] (rl 5 6 (rl 13 10 (rl 26 62 [])))
  Cd))) (13::14::15::17::(rl 23 64 []))
 Uy))))⟩
def O8:St->Option St:=nN 2 (rl 5 6 (13::(rl 16 7 (rl 26 9 (rl 38 50 [])))))
def LN:St:=⟨(.x (.c (ro kA n0 f0))::.x (.c (ro kD n1 f1))::.x (.c (ro kD n2 f2))::.x (.c (ro kD n3 f3))::vxi i0::(us 6 (.x (.own 0 0 n4)::vxi i1::.u::vxi i2::.x (.ptr 1 0)::(us 7 (.x (.c (ro kD n3 f3))::vxi i3::vxi i4::(us 9 (.x (.c (ro kD n5 f3))::vxi i5::vxi i6::(us 50 [])))))))),[.arr kE n4 f4,.box [(vci i7),(vci i8)]]⟩
def LM:St:=⟨(.x (.c (ro kA n0 f0))::.x (.c (ro kD n1 f1))::.x (.c (ro kD n2 f2))::.x (.c (ro kD n3 f3))::vxi i0::(us 6 (.x (.own 0 0 n4)::vxi i1::.u::vxi i2::.x (.ptr 1 0)::(us 7 (.x (.c (ro kD n3 f3))::vxi i3::vxi i4::(us 62 [])))))),[.arr kE n4 f4,.box [(vci i5),(vci i6)]]⟩
def jT {ρ:Type} (u:Nat) (x0:Nat) (x1:FF) (x2:Nat) (x3:FF) (x4:Nat) (x5:FF) (x6:Nat) (x7:FF) (x8:Int) (x9:Nat) (xA xB xC xD:Int) (xE:Nat) (xF:Int) (xG:FF):Nat->Int->Int->Int->(Int->Int->Option ρ)->Option ρ
 | 0,_,_,_,_=>none
 | m+1,xH,xI,xJ,k0 =>
  (bif (decide (xH<xF)) then (bif (inb xH xE) then (ob (KO u x4 x5 (x7 xH.toNat 0).int) fun xK=>(ob (KO u x4 x5 xB) fun xL=>(bif (decide (xK<xL)) then (bif (inb (x7 xH.toNat 0).int x9) then (jT u x0 x1 x2 x3 x4 x5 x6 x7 x8 x9 xA xB xC xD xE xF xG m (w64 (xH+1)) (if (w64 (((xG (0+(Int.toNat (x7 xH.toNat 0).int)) 2).int)+xA))>xI then (w64 (((xG (0+(Int.toNat (x7 xH.toNat 0).int)) 2).int)+xA)) else xI) xJ k0) else none) else (bif (inb (x7 xH.toNat 0).int x9) then (jT u x0 x1 x2 x3 x4 x5 x6 x7 x8 x9 xA xB xC xD xE xF xG m (w64 (xH+1)) xI (if (w64 (((xG (0+(Int.toNat (x7 xH.toNat 0).int)) 3).int)+xA))>xJ then (w64 (((xG (0+(Int.toNat (x7 xH.toNat 0).int)) 3).int)+xA)) else xJ) k0) else none)))) else none) else (k0 xI xJ))
theorem IB:∀ (m:Nat) (x0 x1 x2:Int) (k0:Int->Int->Option ρ),ob (jT u n0 f0 n1 f1 n2 f2 n3 f3 i0 n4 i1 i2 i3 i4 n5 i5 f4 m x0 x1 x2 k0) ng=jT u n0 f0 n1 f1 n2 f2 n3 f3 i0 n4 i1 i2 i3 i4 n5 i5 f4 m x0 x1 x2 (fun x3 x4=>ob (k0 x3 x4) ng)
 | 0,_,_,_,_=>rfl
 | m+1,x0,x1,x2,k0=>by
  simp only [jT,ak,aw,af,IB m]
theorem MA:∀ (m:Nat) (x0 x1 x2:Int),
  am (eB PY (C49 u) u) O8 m (LN n0 n1 n2 n3 n4 n5 f0 f1 f2 f3 f4 i0 i1 i2 i3 i4 i5 x0 x1 x2) k=jT u n0 f0 n1 f1 n2 f2 n3 f3 i0 n4 i1 i2 i3 i4 n5 i5 f4 m x0 x1 x2 (fun x3 x4=>k (.exit 2) (LM n0 n1 n2 n3 n4 f0 f1 f2 f3 f4 i0 i1 i2 i3 i4 x3 x4))
 | 0,_,_,_=>rfl
 | m+1,x0,x1,x2=>by
  simp only [jT,<- MA m]
  kernel_rfl
def vQ:St->Option St:=nN 1 (rl 5 6 (rl 13 10 (rl 26 62 [])))
def DA:St:=⟨(.x (.c (ro kA n0 f0))::.x (.c (ro kD n1 f1))::.x (.c (ro kD n2 f2))::.x (.c (ro kD n3 f3))::vxi i0::(us 6 (.x (.own 0 0 n4)::vxi i1::(us 10 (.x (.c (ro kD n3 f3))::vxi i2::vxi i3::(us 62 [])))))),[.arr kE n4 f4]⟩
def LL:St:=⟨(us 11 (.x (.own 0 0 n0)::(us 76 []))),[.arr kE n0 f0]⟩
def m6 {ρ:Type} (u:Nat) (x0:Nat) (x1:FF) (x2:Nat) (x3:FF) (x4:Nat) (x5:FF) (x6:Nat) (x7:FF) (x8:Int) (x9:Nat) (xA xB:Int):Nat->Int->FF->(FF->Option ρ)->Option ρ
 | 0,_,_,_=>none
 | m+1,xC,xD,k0 =>
  (bif (decide (xC<xB)) then (bif (inb xC x6) then (bif (oH xC x6) then (jT u x0 x1 x2 x3 x4 x5 x6 x7 x8 x9 xA (x7 xC.toNat 0).int xB xC (xC.toNat-0) (Int.ofNat (xC.toNat-0)) xD u 0 x8 x8
  (fun xE xF=>(bif (inb (x7 xC.toNat 0).int x0) then (bif (inb (x7 xC.toNat 0).int x2) then (ob (Ea u (au [(.s ((x1 (Int.toNat (x7 xC.toNat 0).int) 0).str)),(.i .i64 ((x1 (Int.toNat (x7 xC.toNat 0).int) 1).int)),(.i .i64 ((x1 (Int.toNat (x7 xC.toNat 0).int) 2).int)),(.s ((x1 (Int.toNat (x7 xC.toNat 0).int) 3).str)),(.s ((x1 (Int.toNat (x7 xC.toNat 0).int) 4).str)),(.i .i64 ((x1 (Int.toNat (x7 xC.toNat 0).int) 5).int)),(.ro false (.pr (.int .i64) (.pr (.int .i64) .nil)) ((x1 (Int.toNat (x7 xC.toNat 0).int) 6).len) ((x1 (Int.toNat (x7 xC.toNat 0).int) 6).el)),(.ro false (.pr (.sl (.pr (.int .i64) (.pr (.int .i64) .nil))) .nil) ((x1 (Int.toNat (x7 xC.toNat 0).int) 7).len) ((x1 (Int.toNat (x7 xC.toNat 0).int) 7).el)),(.s ((x1 (Int.toNat (x7 xC.toNat 0).int) 8).str)),(.i .i64 ((x1 (Int.toNat (x7 xC.toNat 0).int) 9).int)),(.i .i64 ((x1 (Int.toNat (x7 xC.toNat 0).int) 10).int)),(.i .i64 ((x1 (Int.toNat (x7 xC.toNat 0).int) 11).int)),(.i .i64 ((x1 (Int.toNat (x7 xC.toNat 0).int) 12).int)),(.i .i64 ((x1 (Int.toNat (x7 xC.toNat 0).int) 13).int)),(.i .i64 ((x1 (Int.toNat (x7 xC.toNat 0).int) 14).int)),(.i .i64 ((x1 (Int.toNat (x7 xC.toNat 0).int) 15).int)),(.i .i64 ((x1 (Int.toNat (x7 xC.toNat 0).int) 16).int)),(.i .i64 ((x1 (Int.toNat (x7 xC.toNat 0).int) 17).int))]) ((x3 (Int.toNat (x7 xC.toNat 0).int) 0).int) xE xF) fun xG=>(bif (inb (x7 xC.toNat 0).int x9) then (m6 u x0 x1 x2 x3 x4 x5 x6 x7 x8 x9 xA xB m (w64 (xC+1)) (cm xD (0+(Int.toNat (x7 xC.toNat 0).int)) 0 4 (au [(.i .i64 xG.1),(.i .i64 xG.2.1),(.i .i64 xG.2.2.1),(.i .i64 xG.2.2.2)])) k0) else none)) else none) else none))) else none) else none) else (k0 xD))
theorem IA:∀ (m:Nat) (x0:Int) (x1:FF) (k0:FF->Option ρ),ob (m6 u n0 f0 n1 f1 n2 f2 n3 f3 i0 n4 i1 i2 m x0 x1 k0) ng=m6 u n0 f0 n1 f1 n2 f2 n3 f3 i0 n4 i1 i2 m x0 x1 (fun x2=>ob (k0 x2) ng)
 | 0,_,_,_=>rfl
 | m+1,x0,x1,k0=>by
  simp only [m6,ak,aw,af,IA m,IB]
theorem VO :
  am (eB Cd (C49 u) u) vQ (m+1) (DA n0 n1 n2 n3 n4 f0 f1 f2 f3 f4 i0 i1 i2 i3) k =
  (bif (decide (i3<i2)) then (bif (inb i3 n3) then (bif (oH i3 n3) then (am (eB PY (C49 u) u) O8 u (LN n0 n1 n2 n3 n4 (i3.toNat-0) f0 f1 f2 f3 f4 i0 i1 (f3 i3.toNat 0).int i2 i3 (Int.ofNat (i3.toNat-0)) 0 i0 i0) (aA 2 (aI (C49 u) u (17::(rl 33 40 [])) PX (aA 1 (aI (C49 u) u (13::14::15::17::(rl 27 59 [])) PW (aN (eB Cd (C49 u) u) vQ m k)))))) else none) else none) else (k (.exit 0) (LL n4 f4))):=by kernel_rfl
theorem WB :
  (aA 2 (aI (C49 u) u (17::(rl 33 40 [])) PX (aA 1 (aI (C49 u) u (13::14::15::17::(rl 27 59 [])) PW (aN (eB Cd (C49 u) u) vQ m k))))) (.exit 2) (LM n0 n1 n2 n3 n4 f0 f1 f2 f3 f4 i0 i1 (f3 i2.toNat 0).int i3 i2 i4 i5) =
  (bif (inb (f3 i2.toNat 0).int n0) then (bif (inb (f3 i2.toNat 0).int n1) then (ob (Ea u (au [(.s ((f0 (Int.toNat (f3 i2.toNat 0).int) 0).str)),(vi ((f0 (Int.toNat (f3 i2.toNat 0).int) 1).int)),(vi ((f0 (Int.toNat (f3 i2.toNat 0).int) 2).int)),(.s ((f0 (Int.toNat (f3 i2.toNat 0).int) 3).str)),(.s ((f0 (Int.toNat (f3 i2.toNat 0).int) 4).str)),(vi ((f0 (Int.toNat (f3 i2.toNat 0).int) 5).int)),(ro kP ((f0 (Int.toNat (f3 i2.toNat 0).int) 6).len) ((f0 (Int.toNat (f3 i2.toNat 0).int) 6).el)),(ro kF ((f0 (Int.toNat (f3 i2.toNat 0).int) 7).len) ((f0 (Int.toNat (f3 i2.toNat 0).int) 7).el)),(.s ((f0 (Int.toNat (f3 i2.toNat 0).int) 8).str)),(vi ((f0 (Int.toNat (f3 i2.toNat 0).int) 9).int)),(vi ((f0 (Int.toNat (f3 i2.toNat 0).int) 10).int)),(vi ((f0 (Int.toNat (f3 i2.toNat 0).int) 11).int)),(vi ((f0 (Int.toNat (f3 i2.toNat 0).int) 12).int)),(vi ((f0 (Int.toNat (f3 i2.toNat 0).int) 13).int)),(vi ((f0 (Int.toNat (f3 i2.toNat 0).int) 14).int)),(vi ((f0 (Int.toNat (f3 i2.toNat 0).int) 15).int)),(vi ((f0 (Int.toNat (f3 i2.toNat 0).int) 16).int)),(vi ((f0 (Int.toNat (f3 i2.toNat 0).int) 17).int))]) ((f1 (Int.toNat (f3 i2.toNat 0).int) 0).int) i4 i5) fun x0=>(bif (inb (f3 i2.toNat 0).int n4) then (am (eB Cd (C49 u) u) vQ m (DA n0 n1 n2 n3 n4 f0 f1 f2 f3 (cm f4 (0+(Int.toNat (f3 i2.toNat 0).int)) 0 4 (au [(vi x0.1),(vi x0.2.1),(vi x0.2.2.1),(vi x0.2.2.2)])) i0 i1 i3 (w64 (i2+1))) k) else none)) else none) else none):=by kernel_rfl
theorem Mz:∀ (m:Nat) (x0:Int) (x1:FF),
  am (eB Cd (C49 u) u) vQ m (DA n0 n1 n2 n3 n4 f0 f1 f2 f3 x1 i0 i1 i2 x0) k=m6 u n0 f0 n1 f1 n2 f2 n3 f3 i0 n4 i1 i2 m x0 x1 (fun x2=>k (.exit 0) (LL n4 x2))
 | 0,_,_=>rfl
 | m+1,x0,x1=>by
  rw [VO]
  simp only [m6,Mz m,MA,WB]
def FW (x0:Nat) (x1:FF) (x2:Nat) (x3:FF) (x4:Nat) (x5:FF) (x6:Nat) (x7:FF) (x8:Int):Option (Nat × FF) :=
 (bif (decide (0<=(Int.ofNat x0))&&decide ((Int.ofNat x0)<=(Int.ofNat x0))&&decide ((Int.ofNat x0)<=1073741824)&&true) then (m6 u x0 x1 x2 x3 x4 x5 x6 x7 x8 (Int.toNat (Int.ofNat x0)) (if 1>x8 then 1 else x8) (Int.ofNat x6) u 0 (fun _ j=>au [(.i .i64 0),(.i .i64 0),(.i .i64 0),(.i .i64 0)] j)
  (fun x9=>(some ((Int.toNat (Int.ofNat x0)),x9)))) else none)
theorem abf:aD (C49 u) u A34 [.v (ro kA n0 f0),.v (ro kD n1 f1),.v (ro kD n2 f2),.v (ro kD n3 f3),.v (vi i0)]=ob (FW u n0 f0 n1 f1 n2 f2 n3 f3 i0) fun t=>some [.v (ro kE t.1 t.2)]:=Eq.trans (b:=(bif (decide (0<=(Int.ofNat n0))&&decide ((Int.ofNat n0)<=(Int.ofNat n0))&&decide ((Int.ofNat n0)<=1073741824)&&true) then (am (eB Cd (C49 u) u) vQ u (DA n0 n1 n2 n3 (Int.toNat (Int.ofNat n0)) f0 f1 f2 f3 (fun _ j=>au [(vi 0),(vi 0),(vi 0),(vi 0)] j) i0 (if 1>i0 then 1 else i0) (Int.ofNat n3) 0) (aA 0 (aI (C49 u) u (13::14::15::17::(rl 23 64 [])) Uy (aH A34)))) else none)) (by kernel_rfl) (by
 simp only [FW,ak,aw,af,aa,IA,Mz]<;>kernel_rfl)
def Y8:Ora:=mkO (qc (av (cL kA)) (qc (av (cL kD)) (qc (av (cL kD)) (qc (av (cL kD)) (q1 (av ci)))))) (fun x=>FW u x.1.1 x.1.2 x.2.1.1 x.2.1.2 x.2.2.1.1 x.2.2.1.2 x.2.2.2.1.1 x.2.2.2.1.2 x.2.2.2.2) fun t=>[.v (ro kE t.1 t.2)]
theorem abS:DO (Y8 u) (C49 u) 34 A34:=dO u (fun x=>by exact abf u x.1.1 x.2.1.1 x.2.2.1.1 x.2.2.2.1.1 x.1.2 x.2.1.2 x.2.2.1.2 x.2.2.2.1.2 x.2.2.2.2)
def C50:ao:=(C49 u).add 34 (fun _=>true) (Y8 u)
def B33:An tT Tryz.f33 [.k (13::15::17::18::19::(rl 24 81 [])),.h [.cell 14 2 kB,.slot 15 kE],.k (0::3::(rl 7 5 (13::(rl 16 8 (rl 27 79 []))))),.k [],.g [0,4],.k (rl 0 12 (13::(rl 15 91 []))),.k (13::17::18::19::(rl 28 76 [])),.k (13::(rl 47 44 [])),.g (0::(rl 2 4 [])),.k (rl 0 12 (rl 14 92 [])),.g [0,2,4],.k (rl 0 12 (rl 14 92 []))]:=by
 apply Subtype.mk;cbv<;>exact rfl
def A33:AF:=B33.1
def aai:AC:=sA A33.body [1,1,1,1]
def Uz:AC:=sA A33.body [1,1,1,0,1,0,0]
def O7:St->Option St:=nN 5 (0::3::(rl 7 5 (13::(rl 16 8 (rl 27 79 [])))))
def LK:St:=⟨(.u::.x (.c (ro kA n0 f0))::.x (.c (ro kD n1 f1))::.u::.x (.c (ro kE n2 f2))::vxi i0::.x (.ptr 0 0)::(us 5 (.x (.ptr 1 0)::.u::.x (.ptr 2 0)::.x (.own 4 0 n3)::(us 8 (.x (.c (ro kD n4 f3))::vxi i1::vxi i2::(us 79 [])))))),[.box [(vcs w0),(vcs w1),(vci i3),(vci i4),(vci i5),(vcs w2)],.box [(vcs ByteArray.empty),(vci 0),(vcn)],.box [(vcs w0),(vci i0),(.own 3 0 n3)],.arr kB n3 f4,.arr kE n3 f5]⟩
def Vs:St:=⟨(us 12 (.x (.ptr 1 0)::vxb false::(us 92 []))),[.dead,.box [(vcs ByteArray.empty),(vci 0),(.c (.ro true kB 0 aR))],.dead,.dead,.dead,.dead]⟩
def Vr:St:=⟨(us 12 (.x (.ptr 1 0)::.u::.x (.ptr 2 0)::(us 91 []))),[.dead,.box [(vcs ByteArray.empty),(vci 0),(vcn)],.box [(vcs w0),(vci i0),(.own 3 0 n0)],.arr kB n0 f0,.dead]⟩
def ma {ρ:Type} (u:Nat) (x0:Nat) (x1:FF) (x2:Nat) (x3:FF) (x4:Nat) (x5:FF) (x6:Int) (x7:Nat) (x8:FF) (x9:Int) (xA xB:ByteArray) (xC xD xE:Int) (xF:ByteArray):Nat->Nat->Int->FF->FF->(Option ρ)->(Nat->FF->Option ρ)->Option ρ
 | 0,_,_,_,_,_,_=>none
 | m+1,xG,xH,xI,xJ,k0,k1 =>
  (bif (decide (xH<x9)) then (bif (inb xH x7) then (bif (inb (x8 xH.toNat 0).int x0) then (bif (inb (x8 xH.toNat 0).int x2) then (bif (inb (x8 xH.toNat 0).int x4) then (ob (Ec u (au [(.s ((x1 (Int.toNat (x8 xH.toNat 0).int) 0).str)),(.i .i64 ((x1 (Int.toNat (x8 xH.toNat 0).int) 1).int)),(.i .i64 ((x1 (Int.toNat (x8 xH.toNat 0).int) 2).int)),(.s ((x1 (Int.toNat (x8 xH.toNat 0).int) 3).str)),(.s ((x1 (Int.toNat (x8 xH.toNat 0).int) 4).str)),(.i .i64 ((x1 (Int.toNat (x8 xH.toNat 0).int) 5).int)),(.ro false (.pr (.int .i64) (.pr (.int .i64) .nil)) ((x1 (Int.toNat (x8 xH.toNat 0).int) 6).len) ((x1 (Int.toNat (x8 xH.toNat 0).int) 6).el)),(.ro false (.pr (.sl (.pr (.int .i64) (.pr (.int .i64) .nil))) .nil) ((x1 (Int.toNat (x8 xH.toNat 0).int) 7).len) ((x1 (Int.toNat (x8 xH.toNat 0).int) 7).el)),(.s ((x1 (Int.toNat (x8 xH.toNat 0).int) 8).str)),(.i .i64 ((x1 (Int.toNat (x8 xH.toNat 0).int) 9).int)),(.i .i64 ((x1 (Int.toNat (x8 xH.toNat 0).int) 10).int)),(.i .i64 ((x1 (Int.toNat (x8 xH.toNat 0).int) 11).int)),(.i .i64 ((x1 (Int.toNat (x8 xH.toNat 0).int) 12).int)),(.i .i64 ((x1 (Int.toNat (x8 xH.toNat 0).int) 13).int)),(.i .i64 ((x1 (Int.toNat (x8 xH.toNat 0).int) 14).int)),(.i .i64 ((x1 (Int.toNat (x8 xH.toNat 0).int) 15).int)),(.i .i64 ((x1 (Int.toNat (x8 xH.toNat 0).int) 16).int)),(.i .i64 ((x1 (Int.toNat (x8 xH.toNat 0).int) 17).int))]) ((x3 (Int.toNat (x8 xH.toNat 0).int) 0).int) ((x5 (Int.toNat (x8 xH.toNat 0).int) 0).int) ((x5 (Int.toNat (x8 xH.toNat 0).int) 1).int)) fun xK=>(bif ((!xK.2.2.2.2.2)==false) then (bif (inb (x8 xH.toNat 0).int x4) then (bif (inb (x8 xH.toNat 0).int x4) then (bif (inb (x8 xH.toNat 0).int x4) then (bif (inb (x8 xH.toNat 0).int x4) then (bif (inb (x8 xH.toNat 0).int x4) then (ob (Eb u xD xE xG xJ ((x5 (Int.toNat (x8 xH.toNat 0).int) 0).int) ((x5 (Int.toNat (x8 xH.toNat 0).int) 1).int) (w64 (((x5 (Int.toNat (x8 xH.toNat 0).int) 2).int)-((x5 (Int.toNat (x8 xH.toNat 0).int) 0).int))) (w64 (((x5 (Int.toNat (x8 xH.toNat 0).int) 3).int)-((x5 (Int.toNat (x8 xH.toNat 0).int) 1).int))) x6) fun xL=>(bif (!xL) then k0 else (bif (Nat.ble (xG+1) 1073741824) then (bif (inb (x8 xH.toNat 0).int x4) then (bif (Nat.ble (xG+1) 1073741824) then (ma u x0 x1 x2 x3 x4 x5 x6 x7 x8 x9 xA xB xC xD xE xF m (xG+1) (w64 (xH+1)) (aB xG xI (aG 5 [(.s xK.1),(.i .i64 xK.2.1),(.i .i64 xK.2.2.1),(.i .i64 xK.2.2.2.1),(.b xK.2.2.2.2.1)])) (aB xG xJ (aG 4 [(.i .i64 ((x5 (Int.toNat (x8 xH.toNat 0).int) 0).int)),(.i .i64 ((x5 (Int.toNat (x8 xH.toNat 0).int) 1).int)),(.i .i64 ((x5 (Int.toNat (x8 xH.toNat 0).int) 2).int)),(.i .i64 ((x5 (Int.toNat (x8 xH.toNat 0).int) 3).int))])) k0 k1) else none) else none) else none))) else none) else none) else none) else none) else none) else k0)) else none) else none) else none) else none) else (k1 xG xI))
theorem Iz:∀ (m:Nat) (x0:Nat) (x1:Int) (x2 x3:FF) (k0:Option ρ) (k1:Nat->FF->Option ρ),ob (ma u n0 f0 n1 f1 n2 f2 i0 n3 f3 i1 w0 w1 i2 i3 i4 w2 m x0 x1 x2 x3 k0 k1) ng=ma u n0 f0 n1 f1 n2 f2 i0 n3 f3 i1 w0 w1 i2 i3 i4 w2 m x0 x1 x2 x3 (ob k0 ng) (fun x4 x5=>ob (k1 x4 x5) ng)
 | 0,_,_,_,_,_,_=>rfl
 | m+1,x0,x1,x2,x3,k0,k1=>by
  simp only [ma,ak,aw,af,Iz m]
theorem My:∀ (m:Nat) (x0:Nat) (x1:Int) (x2 x3:FF),
  am (eB Uz (C50 u) u) O7 m (LK n0 n1 n2 x0 n3 f0 f1 f2 f3 x2 x3 i0 i1 x1 i2 i3 i4 w0 w1 w2) k=ma u n0 f0 n1 f1 n2 f2 i0 n3 f3 i1 w0 w1 i2 i3 i4 w2 m x0 x1 x2 x3 (k .ret Vs) (fun x4 x5=>k (.exit 0) (Vr x4 x5 i0 w0))
 | 0,_,_,_,_=>rfl
 | m+1,x0,x1,x2,x3=>by
  simp only [ma,<- My m]
  kernel_rfl
def Jt (x0 x1:ByteArray) (x2 x3 x4:Int) (x5:ByteArray) (x6:Nat) (x7:FF) (x8:Nat) (x9:FF) (xA:Nat) (xB:FF) (xC:Nat) (xD:FF) (xE:Int):Option (Bool × ByteArray × Int × Nat × FF × Bool) :=
 (ma u x6 x7 x8 x9 xC xD xE xA xB (Int.ofNat xA) x0 x1 x2 x3 x4 x5 u 0 0 (fun _ _=>.any) (fun _ _=>.any)
  (some (true,ByteArray.empty,0,0,(fun _ _=>.any),false))
  (fun xF xG=>(some (false,x0,xE,xF,xG,true))))
theorem abe:aD (C50 u) u A33 [.agg [(.s w0),(.s w1),(vi i0),(vi i1),(vi i2),(.s w2)],.v (ro kA n0 f0),.v (ro kD n1 f1),.v (ro kD n2 f2),.v (ro kE n3 f3),.v (vi i3)]=ob (Jt u w0 w1 i0 i1 i2 w2 n0 f0 n1 f1 n2 f2 n3 f3 i3) fun t=>some (bif t.1 then [.agg [(.s ByteArray.empty),(vi 0),(.ro true kB 0 aR)],.v (.b false)] else [.agg [(.s t.2.1),(vi t.2.2.1),(ro kB t.2.2.2.1 t.2.2.2.2.1)],.v (.b true)]):=Eq.trans (b:=(am (eB Uz (C50 u) u) O7 u (LK n0 n1 n3 0 n2 f0 f1 f3 f2 aR aR i3 (Int.ofNat n2) 0 i0 i1 i2 w0 w1 w2) (aA 0 (aI (C50 u) u (13::15::17::18::19::(rl 24 81 [])) aai (aH A33))))) (by kernel_rfl) (by
 simp only [Jt,ak,aw,af,aa,Iz,My,cond_true,cond_false]<;>kernel_rfl)
def Hd (x0 x1:ByteArray) (x2 x3 x4:Int) (x5:ByteArray) (x6:Nat) (x7:FF) (x8:Nat) (x9:FF) (xA:Nat) (xB:FF) (xC:Nat) (xD:FF) (xE:Int):Option (ByteArray × Int × Nat × FF × Bool):=ob (Jt u x0 x1 x2 x3 x4 x5 x6 x7 x8 x9 xA xB xC xD xE) fun t=>some (bif t.1 then (ByteArray.empty,0,0,(fun _ _=>.any),false) else (t.2.1,t.2.2.1,t.2.2.2.1,t.2.2.2.2.1,true))
def Y7:Ora:=mkO (qc (ag (tc cS (tc cS (tc ci (tc ci (tc ci (t1 cS))))))) (qc (av (cL kA)) (qc (av (cL kD)) (qc (av (cL kD)) (qc (av (cL kE)) (q1 (av ci))))))) (fun x=>Hd u x.1.1 x.1.2.1 x.1.2.2.1 x.1.2.2.2.1 x.1.2.2.2.2.1 x.1.2.2.2.2.2 x.2.1.1 x.2.1.2 x.2.2.1.1 x.2.2.1.2 x.2.2.2.1.1 x.2.2.2.1.2 x.2.2.2.2.1.1 x.2.2.2.2.1.2 x.2.2.2.2.2) fun t=>[.agg [(.s t.1),(vi t.2.1),(ro kB t.2.2.1 t.2.2.2.1)],.v (.b t.2.2.2.2)]
theorem abR:DO (Y7 u) (C50 u) 33 A33:=dW u (fun x=>by exact abe u x.2.1.1 x.2.2.1.1 x.2.2.2.1.1 x.2.2.2.2.1.1 x.2.1.2 x.2.2.1.2 x.2.2.2.1.2 x.2.2.2.2.1.2 x.1.2.2.1 x.1.2.2.2.1 x.1.2.2.2.2.1 x.2.2.2.2.2 x.1.1 x.1.2.1 x.1.2.2.2.2.2) (fun _=>rfl) fun t=>by
 obtain ⟨b,t⟩:=t
 cases b with
 | true=>exact (.cons (WkA.agg (.cons (Wk.refl _) (.cons (Wk.refl _) (.cons (Wk.ro (by rfl)) .nil)))) (.cons (WkA.v (Wk.refl _)) .nil))
 | false =>
  exact (.cons (WkA.agg (.cons (Wk.refl _) (.cons (Wk.refl _) (.cons (Wk.refl _) .nil)))) (.cons (WkA.v (Wk.refl _)) .nil))
def C51:ao:=(C50 u).add 33 (fun _=>true) (Y7 u)
def B65:An tT Tryz.f65 [.k (0::1::2::(rl 4 4 []))]:=by
 apply Subtype.mk;cbv<;>exact rfl
def A65:AF:=B65.1
def PD (u:Nat) (x0 x1:Nat->CV):Option (Bool) :=
 (some (ByteArray.toList (x0 0).str==ByteArray.toList (x1 0).str))
theorem aby:aD (C51 u) u A65 [.agg (pj kR0 g0),.v (.rp kG g1)]=ob (PD u g0 g1) fun t=>some [.v (.b t)]:=by
 simp only [PD,ak,aw,af,aa]
 kernel_rfl
def Zr:Ora:=mkO (qc (ar kR0) (q1 (av (cP kG)))) (fun x=>PD u x.1 x.2) fun t=>[.v (.b t)]
theorem acb:DO (Zr u) (C51 u) 65 A65:=dO u (fun x=>by exact aby u x.1 x.2)
def C52:ao:=(C51 u).add 65 (fun _=>true) (Zr u)
def ZQ:AC:=(.region 6 [o1 18 (bk .add 3 8 1),mv 8 18] 0 none)
def ZP:AC:=(.seq (.block 1
 (.seq (.region 3 [mv 10 8,o1 5 (sg 10)] 0 none) []
  (.seq (.region 4 [mv 11 1,mv 12 0,mv 13 5,o1 14 (.indexAddr 24 58 18 (tm 12) (tm 13)),o1 15 (ln 58 18 14),o1 16 (.callv (tm 11) [(tm 15)] [58] .snap)] 0 none) []
  (.cond (tm 16)
  (.seq (.region 5 [mv 17 5,o1 4 (sg 17)] 0 none) []
   (.ret (rl 0 4 (rl 5 14 []))))
  .skip)))) (4::5::(rl 10 8 []))
 ZQ)
def PM:AC:=(.seq (.region 2 [o1 9 (bt .lss 3 8 7)] 0 none) []
 (.seq (.cond (tm 9)
 .skip
 (.exit 0 (rl 0 19 []))) []
 ZP))
def T8:AC:=(.seq (.region 7 [o1 4 (sk (-1))] 0 none) []
 (.ret (rl 0 4 (rl 5 14 []))))
def A64:AF:=⟨19,[.tmp 4],
 (.seq (.region 0 [o1 4 (sk 0)] 0 none) []
 (.seq (.seq (.region 1 [mv 6 0,o1 7 (.len 24 false (tm 6)),o1 8 (.move (ic 0))] 0 none) []
 (.block 0
 (.loop [] (rl 2 5 (rl 9 10 []))
  PM))) (rl 4 15 [])
 T8))⟩
def Pp:St->Option St:=nN 0 (rl 2 5 (rl 9 10 []))
def Mf:St:=⟨(.x (.c (ro kA n0 f0))::.x (.c (.fn 65 1 (au [(.rp kG g0)])))::(us 5 (vxi i0::vxi i1::(us 10 [])))),[]⟩
def VI:St:=⟨(us 4 (vxi i0::(us 14 []))),[]⟩
def VH:St:=⟨(us 19 []),[]⟩
def m9 {ρ:Type} (u:Nat) (x0:Nat) (x1:FF) (x2:Nat->CV) (x3:Int):Nat->Int->(Int->Option ρ)->(Option ρ)->Option ρ
 | 0,_,_,_=>none
 | m+1,x4,k0,k1 =>
  (bif (decide (x4<x3)) then (bif (inb x4 x0) then (ob (PD u (au (pj kR0 (x1 x4.toNat))) x2) fun x5=>(bif x5 then (k0 x4) else (m9 u x0 x1 x2 x3 m (w64 (x4+1)) k0 k1))) else none) else k1)
theorem IY:∀ (m:Nat) (x0:Int) (k0:Int->Option ρ) (k1:Option ρ),ob (m9 u n0 f0 g0 i0 m x0 k0 k1) ng=m9 u n0 f0 g0 i0 m x0 (fun x1=>ob (k0 x1) ng) (ob k1 ng)
 | 0,_,_,_=>rfl
 | m+1,x0,k0,k1=>by
  simp only [m9,ak,aw,af,IY m]
theorem MT:∀ (m:Nat) (x0:Int),
  am (eB PM (C52 u) u) Pp m (Mf n0 f0 i0 x0 g0) k=m9 u n0 f0 g0 i0 m x0 (fun x1=>k .ret (VI x1)) (k (.exit 0) VH)
 | 0,_=>rfl
 | m+1,x0=>by
  simp only [m9,<- MT m]
  kernel_rfl
def PA (x0:Nat) (x1:FF) (x2:Nat->CV):Option (Int) :=
 (m9 u x0 x1 x2 (Int.ofNat x0) u 0
  (fun x3=>(some x3))
  (some (-1)))
theorem abx:aD (C52 u) u A64 [.v (ro kA n0 f0),.v (.fn 65 1 (au [(.rp kG g0)]))]=ob (PA u n0 f0 g0) fun t=>some [.v (vi t)]:=Eq.trans (b:=(am (eB PM (C52 u) u) Pp u (Mf n0 f0 (Int.ofNat n0) 0 g0) (aA 0 (aI (C52 u) u (rl 4 15 []) T8 (aH A64))))) (by kernel_rfl) (by
 simp only [PA,ak,aw,af,aa,IY,MT]<;>kernel_rfl)
def Zq:Ora:=mkO (qc (av (cL kA)) (q1 (av (cF 65 1 (t1 (cP kG)))))) (fun x=>PA u x.1.1 x.1.2 x.2) fun t=>[.v (vi t)]
theorem aca:DO (Zq u) (C52 u) 64 A64:=dO u (fun x=>by exact abx u x.1.1 x.1.2 x.2)
def C53:ao:=(C52 u).add 64 (fun l=>Fm 65 l 1) (Zq u)
def B43:An tT Tryz.f43 [.k [5,10,11,12],.k (rl 0 4 (rl 6 11 [])),.k (rl 0 4 (rl 6 11 []))]:=by
 apply Subtype.mk;cbv<;>exact rfl
def A43:AF:=B43.1
def FR (x0:Nat) (x1:FF) (x2:ByteArray):Option (Bool × ByteArray × Int × Int × ByteArray × ByteArray × Int × Nat × FF × Nat × FF × ByteArray × Int × Int × Int × Int × Int × Int × Int × Int × Int × Bool) :=
 (ob (PA u x0 x1 (au [(.s x2)])) fun x3=>(bif (decide (x3<0)) then (some (true,ByteArray.empty,0,0,ByteArray.empty,ByteArray.empty,0,0,(fun _ _=>.any),0,(fun _ _=>.any),ByteArray.empty,0,0,0,0,0,0,0,0,0,false)) else (bif (inb x3 x0) then (some (false,(x1 x3.toNat 0).str,(x1 x3.toNat 1).int,(x1 x3.toNat 2).int,(x1 x3.toNat 3).str,(x1 x3.toNat 4).str,(x1 x3.toNat 5).int,(x1 x3.toNat 6).len,(x1 x3.toNat 6).el,(x1 x3.toNat 7).len,(x1 x3.toNat 7).el,(x1 x3.toNat 8).str,(x1 x3.toNat 9).int,(x1 x3.toNat 10).int,(x1 x3.toNat 11).int,(x1 x3.toNat 12).int,(x1 x3.toNat 13).int,(x1 x3.toNat 14).int,(x1 x3.toNat 15).int,(x1 x3.toNat 16).int,(x1 x3.toNat 17).int,true)) else none)))
theorem abw:aD (C53 u) u A43 [.v (ro kA n0 f0),.v (.s w0)]=ob (FR u n0 f0 w0) fun t=>some (bif t.1 then [.agg [(.s ByteArray.empty),(vi 0),(vi 0),(.s ByteArray.empty),(.s ByteArray.empty),(vi 0),(.ro true kP 0 aR),(.ro true kF 0 aR),(.s ByteArray.empty),(vi 0),(vi 0),(vi 0),(vi 0),(vi 0),(vi 0),(vi 0),(vi 0),(vi 0)],.v (.b false)] else [.agg [(.s t.2.1),(vi t.2.2.1),(vi t.2.2.2.1),(.s t.2.2.2.2.1),(.s t.2.2.2.2.2.1),(vi t.2.2.2.2.2.2.1),(ro kP t.2.2.2.2.2.2.2.1 (p8 t).1),(ro kF (p8 t).2.1 (p8 t).2.2.1),(.s (p8 t).2.2.2.1),(vi (p8 t).2.2.2.2.1),(vi (p8 t).2.2.2.2.2.1),(vi (p8 t).2.2.2.2.2.2.1),(vi (p8 t).2.2.2.2.2.2.2.1),(vi (pG t).1),(vi (pG t).2.1),(vi (pG t).2.2.1),(vi (pG t).2.2.2.1),(vi (pG t).2.2.2.2.1)],.v (.b true)]):=by
 simp only [FR,ak,aw,af,aa,cond_true,cond_false]
 kernel_rfl
def KP (x0:Nat) (x1:FF) (x2:ByteArray):Option (ByteArray × Int × Int × ByteArray × ByteArray × Int × Nat × FF × Nat × FF × ByteArray × Int × Int × Int × Int × Int × Int × Int × Int × Int × Bool):=ob (FR u x0 x1 x2) fun t=>some (bif t.1 then (ByteArray.empty,0,0,ByteArray.empty,ByteArray.empty,0,0,(fun _ _=>.any),0,(fun _ _=>.any),ByteArray.empty,0,0,0,0,0,0,0,0,0,false) else (t.2.1,t.2.2.1,t.2.2.2.1,t.2.2.2.2.1,t.2.2.2.2.2.1,t.2.2.2.2.2.2.1,t.2.2.2.2.2.2.2.1,(p8 t).1,(p8 t).2.1,(p8 t).2.2.1,(p8 t).2.2.2.1,(p8 t).2.2.2.2.1,(p8 t).2.2.2.2.2.1,(p8 t).2.2.2.2.2.2.1,(p8 t).2.2.2.2.2.2.2.1,(pG t).1,(pG t).2.1,(pG t).2.2.1,(pG t).2.2.2.1,(pG t).2.2.2.2.1,true))
def Zp:Ora:=mkO (qc (av (cL kA)) (q1 (av cS))) (fun x=>KP u x.1.1 x.1.2 x.2) fun t=>[.agg [(.s t.1),(vi t.2.1),(vi t.2.2.1),(.s t.2.2.2.1),(.s t.2.2.2.2.1),(vi t.2.2.2.2.2.1),(ro kP t.2.2.2.2.2.2.1 t.2.2.2.2.2.2.2.1),(ro kF (p8 t).1 (p8 t).2.1),(.s (p8 t).2.2.1),(vi (p8 t).2.2.2.1),(vi (p8 t).2.2.2.2.1),(vi (p8 t).2.2.2.2.2.1),(vi (p8 t).2.2.2.2.2.2.1),(vi (p8 t).2.2.2.2.2.2.2.1),(vi (pG t).1),(vi (pG t).2.1),(vi (pG t).2.2.1),(vi (pG t).2.2.2.1)],.v (.b (pG t).2.2.2.2)]
theorem ab9:DO (Zp u) (C53 u) 43 A43:=dW u (fun x=>by exact abw u x.1.1 x.1.2 x.2) (fun _=>rfl) fun t=>by
 obtain ⟨b,t⟩:=t
 cases b with
 | true=>exact (.cons (WkA.agg (.cons (Wk.refl _) (.cons (Wk.refl _) (.cons (Wk.refl _) (.cons (Wk.refl _) (.cons (Wk.refl _) (.cons (Wk.refl _) (.cons (Wk.ro (by rfl)) (.cons (Wk.ro (by rfl)) (.cons (Wk.refl _) (.cons (Wk.refl _) (.cons (Wk.refl _) (.cons (Wk.refl _) (.cons (Wk.refl _) (.cons (Wk.refl _) (.cons (Wk.refl _) (.cons (Wk.refl _) (.cons (Wk.refl _) (.cons (Wk.refl _) .nil))))))))))))))))))) (.cons (WkA.v (Wk.refl _)) .nil))
 | false =>
  exact (.cons (WkA.agg (.cons (Wk.refl _) (.cons (Wk.refl _) (.cons (Wk.refl _) (.cons (Wk.refl _) (.cons (Wk.refl _) (.cons (Wk.refl _) (.cons (Wk.refl _) (.cons (Wk.refl _) (.cons (Wk.refl _) (.cons (Wk.refl _) (.cons (Wk.refl _) (.cons (Wk.refl _) (.cons (Wk.refl _) (.cons (Wk.refl _) (.cons (Wk.refl _) (.cons (Wk.refl _) (.cons (Wk.refl _) (.cons (Wk.refl _) .nil))))))))))))))))))) (.cons (WkA.v (Wk.refl _)) .nil))
def C54:ao:=(C53 u).add 43 (fun _=>true) (Zp u)
end Go.Eng.R13
