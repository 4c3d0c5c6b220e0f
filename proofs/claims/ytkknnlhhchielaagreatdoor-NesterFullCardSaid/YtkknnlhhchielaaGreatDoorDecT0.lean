/-
 The functions of the program,run on symbols;printed by decomp.py.
-/
import Derived.Test.YtkknnlhhchielaaGreatDoorEngS
import Derived.Test.YtkknnlhhchielaaGreatDoorEngX0
import Derived.Test.YtkknnlhhchielaaGreatDoorEngY
import Derived.Test.YtkknnlhhchielaaGreatDoorEngIt1
import Derived.Test.YtkknnlhhchielaaGreatDoorNsTurns
import Derived.Test.YtkknnlhhchielaaGreatDoorEngAn
import Derived.Test.YtkknnlhhchielaaGreatDoorProg
set_option linter.all false
set_option maxRecDepth 1000000
set_option maxHeartbeats 4000000
namespace Go.Eng.R13
open Go Go.RowKit Go.Eng
abbrev kA:Kd:=(.pr .str (.pr (.int .i64) (.pr (.int .i64) (.pr .str (.pr .str (.pr (.int .i64) (.pr (.sl kP) (.pr (.sl (.pr (.sl kP) .nil)) (.pr .str (.pr (.int .i64) (.pr (.int .i64) (.pr (.int .i64) (.pr (.int .i64) (.pr (.int .i64) (.pr (.int .i64) kV)))))))))))))))
abbrev kB:Kd:=(.pr .str (.pr (.int .i64) (.pr (.int .i64) (.pr (.int .i64) (.pr .bool .nil)))))
abbrev kC:Kd:=(.pr (.int .i64) (.pr (.int .i64) .bool))
abbrev kD:Kd:=(.pr (.int .i64) .nil)
abbrev kE:Kd:=(.pr (.int .i64) kV)
abbrev kF:Kd:=(.pr (.sl kP) .nil)
abbrev kG:Kd:=(.pr .str .nil)
abbrev uu:V:=.undef
abbrev ro:Kd→Nat→FF→CV:=CV.ro false
open Go.Proofs
variable {ρ σ : Type} (u m : Nat) (k : Ex → St → Option ρ) (ng : ρ → Option σ) (n0 n1 n2 n3 n4 n5 n6 n7 : Nat) (f0 f1 f2 f3 f4 f5 f6 f7 : FF) (i0 i1 i2 i3 i4 i5 i6 i7 i8 i9 iA iB iC iD iE iF iG iH iI iJ iK iL iM : Int) (b0 b1 : Bool) (w0 w1 w2 w3 w4 w5 w6 w7 w8 w9 : ByteArray) (g0 g1 : Nat → CV)
abbrev kR0:Kd:=(.pr .str (.pr (.int .i64) (.pr (.int .i64) (.pr .str (.pr .str (.pr (.int .i64) (.pr (.sl (.pr (.int .i64) (.pr (.int .i64) .nil))) (.pr (.sl (.pr (.sl (.pr (.int .i64) (.pr (.int .i64) .nil))) .nil)) (.pr .str (.pr (.int .i64) (.pr (.int .i64) (.pr (.int .i64) (.pr (.int .i64) (.pr (.int .i64) (.pr (.int .i64) (.pr (.int .i64) (.pr (.int .i64) (.pr (.int .i64) .nil))))))))))))))))))
abbrev kR1:Kd:=(.pr .str (.pr .str (.pr (.int .i64) (.pr (.int .i64) (.pr (.int .i64) (.pr .str (.pr (.sl (.pr .str (.pr (.int .i64) (.pr (.int .i64) (.pr .str (.pr .str (.pr (.int .i64) (.pr (.sl (.pr (.int .i64) (.pr (.int .i64) .nil))) (.pr (.sl (.pr (.sl (.pr (.int .i64) (.pr (.int .i64) .nil))) .nil)) (.pr .str (.pr (.int .i64) (.pr (.int .i64) (.pr (.int .i64) (.pr (.int .i64) (.pr (.int .i64) (.pr (.int .i64) (.pr (.int .i64) (.pr (.int .i64) (.pr (.int .i64) .nil))))))))))))))))))) (.pr (.int .i64) .nil))))))))
def C0 (u:Nat):Oracle:=⟨fun _ _ {_} _=>none,fun _ _ {_} _=>rfl,fun f r n g rest=>bif ((Nat.beq f 71&&r.beq kP))&&rest.isEmpty then some (revF n g) else none,fun f r args=>match args with | [.v (.ro _ r1 n g)]=>bif ((Nat.beq f 54&&r.beq kD))&&r.beq r1 then some (n,g) else none | _=>none,fun f r n g rest=>bif (false)&&rest.isEmpty then some (cutN n g,cutF n g) else none,fun _ _ _ _ {_} _=>none,fun _ _ _ _ {_} _=>rfl⟩
def CE (u:Nat):Oracle:=⟨fun _ _ {_} _=>none,fun _ _ {_} _=>rfl,fun _ _ _ _ _=>none,fun _ _ _=>none,fun _ _ _ _ _=>none,fun _ _ _ _ {_} _=>none,fun _ _ _ _ {_} _=>rfl⟩
theorem soundE {P:Program}:Sound P (CE u):=⟨fun _ _ _ h=>(by cases h),fun _ _ _ _ _ _ h=>(by cases h),fun _ _ _ _ _ h=>(by cases h),fun _ _ _ _ _ _ _ h=>(by cases h),fun _ _ _ _ _ _ h=>(by cases h)⟩
def A71v1:AC:=(.seq (.block 1
 (.region 3 [mv 14 0,mv 15 2,mv 16 0,mv 17 3,mv 18 0,mv 19 3,o1 20 (.indexAddr 49 42 2 (tm 18) (tm 19)),o1 21 (ln 42 2 20),mv 22 0,mv 23 2,o1 24 (.indexAddr 49 42 2 (tm 22) (tm 23)),o1 25 (ln 42 2 24),o1 26 (.indexAddr 49 42 2 (tm 14) (tm 15)),o0 (.store 42 2 (tm 26) (tm 21)),o1 27 (.indexAddr 49 42 2 (tm 16) (tm 17)),o0 (.store 42 2 (tm 27) (tm 25))] 0 (some [[],[],[],[],[],[],[4,5],[4,5,6],[],[],[8,9],[8,9,10],(0 :: 1 :: (rl 4 8 [])),(0 :: 1 :: (rl 4 9 [])),(rl 0 14 []),(rl 0 15 [])]))) []
 (.region 2 [mv 10 2,o1 11 (bk .add 3 10 1),mv 12 3,o1 13 (bk .sub 3 12 1),o1 2 (sg 11),o1 3 (sg 13)] 0 none))
def A71v2:AC:=(.seq (.seq (.region 1 [mv 7 2,mv 8 3,o1 9 (bt .lss 3 7 8)] 0 none) []
 (.cond (tm 9)
 .skip
 (.exit 0 (rl 0 28 [])))) [7,8,9]
 A71v1)
def A71:AF:=⟨28,[],
 (.seq (.region 0 [mv 4 0,o1 5 (.len 49 false (tm 4)),o1 6 (bk .sub 3 5 1),o1 2 (sk 0),o1 3 (sg 6)] 0 none) []
 (.block 0
 (.loop [] (1 :: (rl 4 24 []))
  A71v2)))⟩
def N52v1:St→Option St:=nN 1 (1 :: (rl 4 24 []))
def s52v0:St:=⟨(.x (.own 0 0 n0) :: .u :: vxi i0 :: vxi i1 :: (us 24 [])),[.arr kC n0 f0]⟩
def s52v1:St:=⟨(us 28 []),[.arr kC n0 f0]⟩
def L52v1 {ρ:Type} (u:Nat) (x0:Nat):Nat→Int→Int→FF→(FF→Option ρ)→Option ρ
 | 0,_,_,_,_=>none
 | m+1,x1,x2,x3,k0 =>
  (bif (decide (x1<x2)) then (bif (inb x2 x0) then (bif (inb x1 x0) then (bif (inb x1 x0) then (bif (inb x2 x0) then (L52v1 u x0 m (w64 (x1+1)) (w64 (x2-1)) (setF (setF x3 (0+x1.toNat) 0 2 (listF [(.i .i64 (x3 (0+x2.toNat) 0).int),(.i .i64 (x3 (0+x2.toNat) 1).int)])) (0+x2.toNat) 0 2 (listF [(.i .i64 (x3 (0+x1.toNat) 0).int),(.i .i64 (x3 (0+x1.toNat) 1).int)])) k0) else none) else none) else none) else none) else (k0 x3))
theorem nl52v1:∀ (m:Nat) (x0 x1:Int) (x2:FF) (k0:FF→Option ρ),ob (L52v1 u n0 m x0 x1 x2 k0) ng=L52v1 u n0 m x0 x1 x2 (fun x3=>ob (k0 x3) ng)
 | 0,_,_,_,_=>rfl
 | m+1,x0,x1,x2,k0=>by
  simp only [L52v1,ob_bif,ob_ob,ob_none,nl52v1 m]
theorem q52v1:∀ (m:Nat) (x0 x1:Int) (x2:FF),
  loopH (eB A71v2 (CE u) u) N52v1 m (s52v0 n0 x2 x0 x1) k=L52v1 u n0 m x0 x1 x2 (fun x3=>k (.exit 0) (s52v1 n0 x3))
 | 0,_,_,_=>rfl
 | m+1,x0,x1,x2=>by
  simp only [L52v1,← q52v1 m]
  kernel_rfl
def D52 (x0:Nat) (x1:FF) (k:(Nat × FF)→Option ρ):Option ρ :=
 (L52v1 u x0 u 0 (w64 ((Int.ofNat x0)-1)) x1
  (fun x2=>(k (x0,x2))))
def F52 (x0:Nat) (x1:FF):Option (Nat × FF):=D52 u x0 x1 some
theorem n52 {ρ σ:Type} (x0:Nat) (x1:FF) (k:(Nat × FF)→Option ρ) (g:ρ→Option σ):ob (D52 u x0 x1 k) g=D52 u x0 x1 fun t=>ob (k t) g:=by
 simp only [D52,ob_bif,ob_ob,ob_none,nl52v1]
theorem f52 (x0:Nat) (x1:FF) (k:(Nat × FF)→Option ρ):D52 u x0 x1 k=ob (F52 u x0 x1) k:=by
 unfold F52
 rw [n52]
 simp only [ob_some]
def s52v2:St:=⟨[.x (.own 0 0 n0),uu,vxi 0,vxi (w64 ((Int.ofNat n0)-1)),.x (.own 0 0 n0),vxi (Int.ofNat n0),vxi (w64 ((Int.ofNat n0)-1)),uu,uu,uu,uu,uu,uu,uu,uu,uu,uu,uu,uu,uu,uu,uu,uu,uu,uu,uu,uu,uu],[.arr kC n0 f0]⟩
theorem walk52 (x0:Nat) (x1:FF) :
  evalT (CE u) u A71 kP x0 x1 [] =
  (loopN (eB A71v2 (CE u) u) N52v1 u (s52v2 x0 x1) (kBlk 0 (finishT (Kd.mark kP)))):=by kernel_rfl
theorem t52v1 :
  loopN (eB A71v2 (CE u) u) N52v1 u (s52v2 n0 f0) k =
  L52v1 u n0 u 0 (w64 ((Int.ofNat n0)-1)) f0 (fun x0=>k (.exit 0) (s52v1 n0 x0)) :=
 Eq.trans (loopN_at (by kernel_rfl)) (q52v1 ..)
theorem g52v2 :
  (kBlk 0 (finishT (Kd.mark kP))) (.exit 0) (s52v1 n0 f0) =
  (some (n0,f0)):=by kernel_rfl
theorem e52:evalT (CE u) u A71 kP n0 f0 []=F52 u n0 f0:=by
 rw [walk52]
 simp only [F52,D52,t52v1,g52v2]
def tyT:Nat→TI
 | 3=>.i .i64
 | 4=>.b
 | 9=>.s
 | 22=>.r [9,9,3,3,3,9]
 | 23=>.n 22
 | 24=>.l 58
 | 28=>.l 44
 | 29=>.r [9,3,28]
 | 30=>.n 29
 | 33=>.r [23,24,3]
 | 34=>.n 33
 | 35=>.n 3
 | 41=>.r [3,3]
 | 42=>.n 41
 | 43=>.r [9,42,3,4]
 | 44=>.n 43
 | 49=>.l 42
 | 50=>.l 49
 | 51=>.r [49,50]
 | 52=>.n 51
 | 53=>.r [3,3,3]
 | 54=>.n 53
 | 55=>.r [54,3]
 | 56=>.n 55
 | 57=>.r [9,3,3,9,9,3,52,9,3,3,54,56]
 | 58=>.n 57
 | 65=>.l 72
 | 71=>.r [42,42]
 | 72=>.n 71
 | 79=>.l 3
 | 100=>.a 4 3
 | _=>.o 1
def byT:Nat→Nat
 | 3=>8
 | 42=>16
 | 44=>48
 | 49=>24
 | 58=>208
 | 72=>32
 | _=>8
def fcT:Nat→Fc
 | 10=>.freeze
 | 12=>.freeze
 | 19=>.freeze
 | 23=>.freeze
 | 27=>.freeze
 | 41=>.freeze
 | 43=>.freeze
 | 45=>.freeze
 | 51=>.turn
 | 61=>.freeze
 | 63=>.freeze
 | 66=>.freeze
 | 71=>.turn
 | _=>.snap
def tT:Tab:=⟨tyT,byT,fcT,false⟩
def B17:An tT Tryz.f17 [.k (2 :: (rl 4 36 [])),.k (0 :: 1 :: (rl 3 53 [])),.k (2 :: 3 :: (rl 40 16 [])),.h [],.k (0 :: 2 :: (rl 4 52 [])),.k (rl 40 6 []),.k (rl 0 56 []),.k (2 :: (rl 48 8 [])),.k (0 :: 1 :: (rl 3 53 [])),.k (0 :: 1 :: (rl 3 53 []))]:=by
 apply Subtype.mk;cbv<;>exact rfl
def A17:AF:=B17.1
def A17v5:AC:=sA A17.body [1,1]
def A17v4:AC:=sA A17v5 [1]
def A17v3:AC:=sA A17v5 [0,1,0,0]
def N386v1:St→Option St:=nN 1 (0 :: 2 :: (rl 4 52 []))
def s386v0:St:=⟨(.u :: .x (.ptr 0 0) :: .u :: vxi i0 :: (us 52 [])),[.box (pjc kR0 g0)]⟩
def s386v1:St:=⟨(.u :: .u :: vxb false :: (us 53 [])),[.box (pjc kR0 g0)]⟩
def s386v2:St:=⟨(us 56 []),[.box (pjc kR0 g0)]⟩
def L386v1 {ρ:Type} (u:Nat) (x0:Nat→CV):Nat→Int→(Option ρ)→(Option ρ)→Option ρ
 | 0,_,_,_=>none
 | m+1,x1,k0,k1 =>
  (bif (decide (x1<(Int.ofNat (x0 7).len))) then (bif (inb x1 (x0 7).len) then (bif (decide ((Int.ofNat ((x0 7).el x1.toNat 0).len)>40)) then k0 else (L386v1 u x0 m (w64 (x1+1)) k0 k1)) else none) else k1)
theorem nl386v1:∀ (m:Nat) (x0:Int) (k0:Option ρ) (k1:Option ρ),ob (L386v1 u g0 m x0 k0 k1) ng=L386v1 u g0 m x0 (ob k0 ng) (ob k1 ng)
 | 0,_,_,_=>rfl
 | m+1,x0,k0,k1=>by
  simp only [L386v1,ob_bif,ob_ob,ob_none,nl386v1 m]
theorem q386v1:∀ (m:Nat) (x0:Int),
  loopH (eB A17v3 (C0 u) u) N386v1 m (s386v0 x0 g0) k=L386v1 u g0 m x0 (k .ret (s386v1 g0)) (k (.exit 0) (s386v2 g0))
 | 0,_=>rfl
 | m+1,x0=>by
  simp only [L386v1,← q386v1 m]
  kernel_rfl
def F386 (x0:Nat→CV):Option (Bool) :=
 (bif ((decide ((Int.ofNat (ByteArray.size (x0 0).str))>200))==false) then (bif ((decide ((Int.ofNat (ByteArray.size (x0 3).str))>200))==false) then (bif ((decide ((Int.ofNat (ByteArray.size (x0 4).str))>200))==false) then (bif ((decide ((Int.ofNat (ByteArray.size (x0 8).str))>200))==false) then (bif ((decide ((Int.ofNat (x0 6).len)>40))==false) then (bif (decide ((Int.ofNat (x0 7).len)>12)) then (some false) else (L386v1 u x0 u 0
  (some false)
  (some true))) else (some false)) else (some false)) else (some false)) else (some false)) else (some false))
def s386v3:St:=⟨(.agg (pjc kR0 g0) :: .x (.ptr 0 0) :: .u :: vxi 0 :: (us 36 [uu,uu,uu,uu,uu,uu,uu,uu,uu,uu,uu,uu,uu,uu,uu,uu])),[.box (pjc kR0 g0)]⟩
theorem t386v1 :
  loopN (eB A17v3 (C0 u) u) N386v1 u (s386v3 g0) k =
  L386v1 u g0 u 0 (k .ret (s386v1 g0)) (k (.exit 0) (s386v2 g0)) :=
 Eq.trans (loopN_at (by kernel_rfl)) (q386v1 ..)
theorem g386v2 :
  (kBlk 0 (kSeq (C0 u) u (2 :: 3 :: (rl 40 16 [])) A17v4 (finish A17))) .ret (s386v1 g0) =
  (some [.v (.b false)]):=by kernel_rfl
theorem g386v3 :
  (kBlk 0 (kSeq (C0 u) u (2 :: 3 :: (rl 40 16 [])) A17v4 (finish A17))) (.exit 0) (s386v2 g0) =
  (some [.v (.b true)]):=by kernel_rfl
theorem e386:evalF (C0 u) u A17 [.agg (pj kR0 g0)]=ob (F386 u g0) fun t=>some [.v (.b t)]:=Eq.trans (b:=(bif ((decide ((Int.ofNat (ByteArray.size (g0 0).str))>200))==false) then (bif ((decide ((Int.ofNat (ByteArray.size (g0 3).str))>200))==false) then (bif ((decide ((Int.ofNat (ByteArray.size (g0 4).str))>200))==false) then (bif ((decide ((Int.ofNat (ByteArray.size (g0 8).str))>200))==false) then (bif ((decide ((Int.ofNat (g0 6).len)>40))==false) then (bif (decide ((Int.ofNat (g0 7).len)>12)) then (some [.v (.b false)]) else (loopN (eB A17v3 (C0 u) u) N386v1 u (s386v3 g0) (kBlk 0 (kSeq (C0 u) u (2 :: 3 :: (rl 40 16 [])) A17v4 (finish A17))))) else (some [.v (.b false)])) else (some [.v (.b false)])) else (some [.v (.b false)])) else (some [.v (.b false)])) else (some [.v (.b false)]))) (by kernel_rfl) (by
 simp only [F386,ob_bif,ob_ob,ob_none,ob_some,nl386v1,t386v1,g386v2,g386v3])
def O386:Ora:=mkO (q1 (ar kR0)) (fun x=>F386 u x) fun t=>[.v (.b t)]
theorem d386:DO (O386 u) (C0 u) 17 A17:=dO u (fun x=>by exact e386 u x)
def C1:Oracle:=(C0 u).add 17 (fun _=>true) (O386 u)
def B7:An tT Tryz.f7 [.k (4 :: (rl 7 4 [])),.k (rl 0 4 (rl 5 60 [])),.k (4 :: 5 :: 6 :: (rl 11 54 [])),.h [],.k (rl 1 4 (rl 6 59 [])),.k (rl 11 4 []),.k (rl 0 65 []),.k (4 :: 6 :: (rl 17 48 [])),.k (4 :: (rl 17 26 [])),.k (rl 0 4 (rl 5 60 [])),.h [],.k (rl 1 4 (rl 7 58 [])),.k (rl 43 9 []),.k (rl 1 4 (rl 6 59 [])),.k (4 :: (rl 54 11 [])),.k (rl 0 4 (rl 5 60 [])),.k (rl 0 4 (rl 5 60 []))]:=by
 apply Subtype.mk;cbv<;>exact rfl
def A7:AF:=B7.1
def A7v9:AC:=sA A7.body [1,1]
def A7v8:AC:=sA A7v9 [1]
def A7v7:AC:=sA A7v9 [0,1,0,0]
def A7v6:AC:=sA A7v7 [1]
def A7v5:AC:=sA A7v6 [1]
def A7v4:AC:=sA A7v6 [0,0,1]
def A7v3:AC:=sA A7v4 [1,0,0]
def N390v2:St→Option St:=nN 0 (rl 1 4 (rl 7 58 []))
def s390v0:St:=⟨(.x (.c (ro kA n0 f0)) :: (us 4 (vxi i0 :: vxi i1 :: (us 58 [])))),[]⟩
def s390v1:St:=⟨(us 4 (vxb false :: (us 60 []))),[]⟩
def s390v2:St:=⟨(.x (.c (ro kA n0 f0)) :: (us 4 (vxi i0 :: (us 59 [])))),[]⟩
def L390v2 {ρ:Type} (u:Nat) (x0:Nat) (x1:FF) (x2:Int):Nat→Int→(Option ρ)→(Option ρ)→Option ρ
 | 0,_,_,_=>none
 | m+1,x3,k0,k1 =>
  (bif (inb x2 x0) then (bif (decide (x3<(Int.ofNat (x1 x2.toNat 7).len))) then (bif (inb x2 x0) then (bif (inb x3 (x1 x2.toNat 7).len) then (bif (decide ((Int.ofNat ((x1 x2.toNat 7).el x3.toNat 0).len)>12)) then k0 else (L390v2 u x0 x1 x2 m (w64 (x3+1)) k0 k1)) else none) else none) else k1) else none)
theorem nl390v2:∀ (m:Nat) (x0:Int) (k0:Option ρ) (k1:Option ρ),ob (L390v2 u n0 f0 i0 m x0 k0 k1) ng=L390v2 u n0 f0 i0 m x0 (ob k0 ng) (ob k1 ng)
 | 0,_,_,_=>rfl
 | m+1,x0,k0,k1=>by
  simp only [L390v2,ob_bif,ob_ob,ob_none,nl390v2 m]
theorem q390v2:∀ (m:Nat) (x0:Int),
  loopH (eB A7v3 (C1 u) u) N390v2 m (s390v0 n0 f0 i0 x0) k=L390v2 u n0 f0 i0 m x0 (k .ret s390v1) (k (.exit 2) (s390v2 n0 f0 i0))
 | 0,_=>rfl
 | m+1,x0=>by
  simp only [L390v2,← q390v2 m]
  kernel_rfl
def N390v3:St→Option St:=nN 0 (rl 1 4 (rl 6 59 []))
def s390v3:St:=⟨(.x (.c (ro kA n0 f0)) :: (us 4 (vxi i0 :: (us 59 [])))),[]⟩
def s390v4:St:=⟨(us 65 []),[]⟩
def L390v3 {ρ:Type} (u:Nat) (x0:Nat) (x1:FF):Nat→Int→(Option ρ)→(Option ρ)→Option ρ
 | 0,_,_,_=>none
 | m+1,x2,k0,k1 =>
  (bif (decide (x2<(Int.ofNat x0))) then (bif (inb x2 x0) then (ob (F386 u (listF (pj kR0 (x1 x2.toNat)))) fun x3=>(bif ((!x3)==false) then (bif (inb x2 x0) then (bif ((decide ((Int.ofNat (x1 x2.toNat 6).len)>12))==false) then (bif (inb x2 x0) then (bif (decide ((Int.ofNat (x1 x2.toNat 7).len)>4)) then k0 else (L390v2 u x0 x1 x2 u 0
  k0
  (L390v3 u x0 x1 m (w64 (x2+1)) k0 k1))) else none) else k0) else none) else k0)) else none) else k1)
theorem nl390v3:∀ (m:Nat) (x0:Int) (k0:Option ρ) (k1:Option ρ),ob (L390v3 u n0 f0 m x0 k0 k1) ng=L390v3 u n0 f0 m x0 (ob k0 ng) (ob k1 ng)
 | 0,_,_,_=>rfl
 | m+1,x0,k0,k1=>by
  simp only [L390v3,ob_bif,ob_ob,ob_none,nl390v3 m,nl390v2]
def s390v5:St:=⟨(.x (.c (ro kA n0 f0)) :: (us 4 (vxi i0 :: vxi 0 :: (us 58 [])))),[]⟩
theorem r390v3 :
  loopH (eB A7v7 (C1 u) u) N390v3 (m+1) (s390v3 n0 f0 i0) k =
  (bif (decide (i0<(Int.ofNat n0))) then (bif (inb i0 n0) then (ob (F386 u (listF (pj kR0 (f0 i0.toNat)))) fun x0=>(bif ((!x0)==false) then (bif (inb i0 n0) then (bif ((decide ((Int.ofNat (f0 i0.toNat 6).len)>12))==false) then (bif (inb i0 n0) then (bif (decide ((Int.ofNat (f0 i0.toNat 7).len)>4)) then (k .ret s390v1) else (loopN (eB A7v3 (C1 u) u) N390v2 u (s390v5 n0 f0 i0) (kBlk 2 (kBlk 1 (kSeq (C1 u) u (4 :: 6 :: (rl 17 48 [])) A7v5 (kLoop (eB A7v7 (C1 u) u) N390v3 m k)))))) else none) else (k .ret s390v1)) else none) else (k .ret s390v1))) else none) else (k (.exit 0) s390v4)):=by kernel_rfl
theorem t390v1 :
  loopN (eB A7v3 (C1 u) u) N390v2 u (s390v5 n0 f0 i0) k =
  L390v2 u n0 f0 i0 u 0 (k .ret s390v1) (k (.exit 2) (s390v2 n0 f0 i0)) :=
 Eq.trans (loopN_at (by kernel_rfl)) (q390v2 ..)
theorem g390v2 :
  (kBlk 2 (kBlk 1 (kSeq (C1 u) u (4 :: 6 :: (rl 17 48 [])) A7v5 (kLoop (eB A7v7 (C1 u) u) N390v3 m k)))) .ret s390v1 =
  (k .ret s390v1):=by kernel_rfl
theorem g390v3 :
  (kBlk 2 (kBlk 1 (kSeq (C1 u) u (4 :: 6 :: (rl 17 48 [])) A7v5 (kLoop (eB A7v7 (C1 u) u) N390v3 m k)))) (.exit 2) (s390v2 n0 f0 i0) =
  (loopH (eB A7v7 (C1 u) u) N390v3 m (s390v3 n0 f0 (w64 (i0+1))) k):=by kernel_rfl
theorem q390v3:∀ (m:Nat) (x0:Int),
  loopH (eB A7v7 (C1 u) u) N390v3 m (s390v3 n0 f0 x0) k=L390v3 u n0 f0 m x0 (k .ret s390v1) (k (.exit 0) s390v4)
 | 0,_=>rfl
 | m+1,x0=>by
  rw [r390v3]
  simp only [L390v3,q390v3 m,t390v1,g390v2,g390v3]
def F390 (x0:Nat) (x1:FF) (x2:Int):Option (Bool) :=
 (bif (decide ((Int.ofNat x0)>x2)) then (some false) else (L390v3 u x0 x1 u 0
  (some false)
  (some true)))
def s390v6:St:=⟨(.x (.c (ro kA n0 f0)) :: vxi i0 :: uu :: uu :: .u :: vxi 0 :: uu :: (us 4 [uu,uu,uu,uu,uu,uu,uu,uu,uu,uu,uu,uu,uu,uu,uu,uu,uu,uu,uu,uu,uu,uu,uu,uu,uu,uu,uu,uu,uu,uu,uu,uu,uu,uu,uu,uu,uu,uu,uu,uu,uu,uu,uu,uu,uu,uu,uu,uu,uu,uu,uu,uu,uu,uu])),[]⟩
theorem t390v4 :
  loopN (eB A7v7 (C1 u) u) N390v3 u (s390v6 n0 f0 i0) k =
  L390v3 u n0 f0 u 0 (k .ret s390v1) (k (.exit 0) s390v4) :=
 Eq.trans (loopN_at (by kernel_rfl)) (q390v3 ..)
theorem g390v5 :
  (kBlk 0 (kSeq (C1 u) u (4 :: 5 :: 6 :: (rl 11 54 [])) A7v8 (finish A7))) .ret s390v1 =
  (some [.v (.b false)]):=by kernel_rfl
theorem g390v6 :
  (kBlk 0 (kSeq (C1 u) u (4 :: 5 :: 6 :: (rl 11 54 [])) A7v8 (finish A7))) (.exit 0) s390v4 =
  (some [.v (.b true)]):=by kernel_rfl
theorem e390:evalF (C1 u) u A7 [.v (ro kA n0 f0),.v (vi i0)]=ob (F390 u n0 f0 i0) fun t=>some [.v (.b t)]:=Eq.trans (b:=(bif (decide ((Int.ofNat n0)>i0)) then (some [.v (.b false)]) else (loopN (eB A7v7 (C1 u) u) N390v3 u (s390v6 n0 f0 i0) (kBlk 0 (kSeq (C1 u) u (4 :: 5 :: 6 :: (rl 11 54 [])) A7v8 (finish A7)))))) (by kernel_rfl) (by
 simp only [F390,ob_bif,ob_ob,ob_none,ob_some,nl390v3,t390v4,g390v5,g390v6])
def O390:Ora:=mkO (qc (av (cL kA)) (q1 (av ci))) (fun x=>F390 u x.1.1 x.1.2 x.2) fun t=>[.v (.b t)]
theorem d390:DO (O390 u) (C1 u) 7 A7:=dO u (fun x=>by exact e390 u x.1.1 x.1.2 x.2)
def C2:Oracle:=(C1 u).add 7 (fun _=>true) (O390 u)
def B18:An tT Tryz.f18 [.k (rl 0 4 [5,6,7])]:=by
 apply Subtype.mk;cbv<;>exact rfl
def A18:AF:=B18.1
def F387 (u:Nat) (x0 x1:Int):Option (ByteArray × ByteArray × Int × Int × Int × ByteArray) :=
 (some ((ByteArray.mk #[83,49]),(ByteArray.mk #[65]),10,x0,x1,ByteArray.empty))
theorem e387:evalF (C2 u) u A18 [.v (vi i0),.v (vi i1)]=ob (F387 u i0 i1) fun t=>some [.agg [(.s t.1),(.s t.2.1),(vi t.2.2.1),(vi t.2.2.2.1),(vi t.2.2.2.2.1),(.s t.2.2.2.2.2)]]:=by
 simp only [F387,ob_bif,ob_ob,ob_none,ob_some]
 kernel_rfl
def O387:Ora:=mkO (qc (av ci) (q1 (av ci))) (fun x=>F387 u x.1 x.2) fun t=>[.agg [(.s t.1),(.s t.2.1),(vi t.2.2.1),(vi t.2.2.2.1),(vi t.2.2.2.2.1),(.s t.2.2.2.2.2)]]
theorem d387:DO (O387 u) (C2 u) 18 A18:=dO u (fun x=>by exact e387 u x.1 x.2)
def C3:Oracle:=(C2 u).add 18 (fun _=>true) (O387 u)
def B19:An tT Tryz.f19 [.k (rl 0 6 (rl 7 12 []))]:=by
 apply Subtype.mk;cbv<;>exact rfl
def A19:AF:=B19.1
def F388 (u:Nat) (x0:ByteArray) (x1 x2:Int):Option (ByteArray × Int × Int × ByteArray × ByteArray × Int × Nat × FF × Nat × FF × ByteArray × Int × Int × Int × Int × Int × Int × Int × Int × Int) :=
 (some (x0,1,1,(ByteArray.mk #[66,49]),(ByteArray.mk #[65]),10,4,(rowsF 2 [(.i .i64 0),(.i .i64 0),(.i .i64 x1),(.i .i64 0),(.i .i64 x1),(.i .i64 x2),(.i .i64 0),(.i .i64 x2)]),0,(fun _ _=>.any),ByteArray.empty,0,0,0,0,0,0,0,0,0))
theorem e388:evalF (C3 u) u A19 [.v (.s w0),.v (vi i0),.v (vi i1)]=ob (F388 u w0 i0 i1) fun t=>some [.agg [(.s t.1),(vi t.2.1),(vi t.2.2.1),(.s t.2.2.2.1),(.s t.2.2.2.2.1),(vi t.2.2.2.2.2.1),(ro kP t.2.2.2.2.2.2.1 t.2.2.2.2.2.2.2.1),(.ro true kF (p8 t).1 (p8 t).2.1),(.s (p8 t).2.2.1),(vi (p8 t).2.2.2.1),(vi (p8 t).2.2.2.2.1),(vi (p8 t).2.2.2.2.2.1),(vi (p8 t).2.2.2.2.2.2.1),(vi (p8 t).2.2.2.2.2.2.2.1),(vi (pG t).1),(vi (pG t).2.1),(vi (pG t).2.2.1),(vi (pG t).2.2.2)]]:=by
 simp only [F388,ob_bif,ob_ob,ob_none,ob_some]
 kernel_rfl
def O388:Ora:=mkO (qc (av cS) (qc (av ci) (q1 (av ci)))) (fun x=>F388 u x.1 x.2.1 x.2.2) fun t=>[.agg [(.s t.1),(vi t.2.1),(vi t.2.2.1),(.s t.2.2.2.1),(.s t.2.2.2.2.1),(vi t.2.2.2.2.2.1),(ro kP t.2.2.2.2.2.2.1 t.2.2.2.2.2.2.2.1),(ro kF (p8 t).1 (p8 t).2.1),(.s (p8 t).2.2.1),(vi (p8 t).2.2.2.1),(vi (p8 t).2.2.2.2.1),(vi (p8 t).2.2.2.2.2.1),(vi (p8 t).2.2.2.2.2.2.1),(vi (p8 t).2.2.2.2.2.2.2.1),(vi (pG t).1),(vi (pG t).2.1),(vi (pG t).2.2.1),(vi (pG t).2.2.2)]]
theorem d388:DO (O388 u) (C3 u) 19 A19:=dN u (fun x=>by exact e388 u x.2.1 x.2.2 x.1) fun t=>(.cons (WkA.agg (.cons (Wk.refl _) (.cons (Wk.refl _) (.cons (Wk.refl _) (.cons (Wk.refl _) (.cons (Wk.refl _) (.cons (Wk.refl _) (.cons (Wk.refl _) (.cons (Wk.ro (by rfl)) (.cons (Wk.refl _) (.cons (Wk.refl _) (.cons (Wk.refl _) (.cons (Wk.refl _) (.cons (Wk.refl _) (.cons (Wk.refl _) (.cons (Wk.refl _) (.cons (Wk.refl _) (.cons (Wk.refl _) (.cons (Wk.refl _) .nil))))))))))))))))))) .nil)
def C4:Oracle:=(C3 u).add 19 (fun _=>true) (O388 u)
def B22:An tT Tryz.f22 [.k (rl 0 6 (rl 7 8 []))]:=by
 apply Subtype.mk;cbv<;>exact rfl
def A22:AF:=B22.1
def F389 (u:Nat) (x0 x1 x2:Int):Option (Bool) :=
 (bif ((decide (x0≥x1))==true) then (some (decide (x0≤x2))) else (some false))
theorem e389:evalF (C4 u) u A22 [.v (vi i0),.v (vi i1),.v (vi i2)]=ob (F389 u i0 i1 i2) fun t=>some [.v (.b t)]:=by
 simp only [F389,ob_bif,ob_ob,ob_none,ob_some]
 kernel_rfl
def O389:Ora:=mkO (qc (av ci) (qc (av ci) (q1 (av ci)))) (fun x=>F389 u x.1 x.2.1 x.2.2) fun t=>[.v (.b t)]
theorem d389:DO (O389 u) (C4 u) 22 A22:=dO u (fun x=>by exact e389 u x.1 x.2.1 x.2.2)
def C5:Oracle:=(C4 u).add 22 (fun _=>true) (O389 u)
def B93:An tT Tryz.f93 [.k (0 :: 1 :: (rl 3 18 []))]:=by
 apply Subtype.mk;cbv<;>exact rfl
def A93:AF:=B93.1
def F61 (u:Nat) (x0 x1:Int):Option (Bool) :=
 (bif ((decide (x0<(-32768)))==false) then (bif ((decide (x0>32768))==false) then (bif ((decide (x1<(-32768)))==false) then (some (decide (x1>32768))) else (some true)) else (some true)) else (some true))
theorem e61:evalF (C5 u) u A93 [.agg [(vi i0),(vi i1)]]=ob (F61 u i0 i1) fun t=>some [.v (.b t)]:=by
 simp only [F61,ob_bif,ob_ob,ob_none,ob_some]
 kernel_rfl
def O61:Ora:=mkO (q1 (ag (tc ci (t1 ci)))) (fun x=>F61 u x.1 x.2) fun t=>[.v (.b t)]
theorem d61:DO (O61 u) (C5 u) 93 A93:=dO u (fun x=>by exact e61 u x.1 x.2)
def C6:Oracle:=(C5 u).add 93 (fun _=>true) (O61 u)
def A92v1:AC:=(.region 6 [o1 18 (bk .add 3 8 1),mv 8 18] 0 none)
def A92v2:AC:=(.seq (.block 1
 (.seq (.region 3 [mv 10 8,o1 5 (sg 10)] 0 none) []
  (.seq (.region 4 [mv 11 1,mv 12 0,mv 13 5,o1 14 (.indexAddr 49 42 2 (tm 12) (tm 13)),o1 15 (ln 42 2 14),o1 16 (.callv (tm 11) [(tm 15)] [42] .snap)] 0 none) []
  (.cond (tm 16)
  (.seq (.region 5 [mv 17 5,o1 4 (sg 17)] 0 none) []
   (.ret (rl 0 4 (rl 5 14 []))))
  .skip)))) (4 :: 5 :: (rl 10 8 []))
 A92v1)
def A92v3:AC:=(.seq (.region 2 [o1 9 (bt .lss 3 8 7)] 0 none) []
 (.seq (.cond (tm 9)
 .skip
 (.exit 0 (rl 0 19 []))) []
 A92v2))
def A92v4:AC:=(.seq (.region 7 [o1 4 (sk (-1))] 0 none) []
 (.ret (rl 0 4 (rl 5 14 []))))
def A92:AF:=⟨19,[.tmp 4],
 (.seq (.region 0 [o1 4 (sk 0)] 0 none) []
 (.seq (.seq (.region 1 [mv 6 0,o1 7 (.len 49 false (tm 6)),o1 8 (.move (ic 0))] 0 none) []
 (.block 0
 (.loop [] (rl 2 5 (rl 9 10 []))
  A92v3))) (rl 4 15 [])
 A92v4))⟩
def N73v1:St→Option St:=nN 0 (rl 2 5 (rl 9 10 []))
def s73v0:St:=⟨(.x (.c (ro kP n0 f0)) :: .x (.c (.fn 93 0 (listF []))) :: (us 5 (vxi i0 :: vxi i1 :: (us 10 [])))),[]⟩
def s73v1:St:=⟨(us 4 (vxi i0 :: (us 14 []))),[]⟩
def s73v2:St:=⟨(us 19 []),[]⟩
def L73v1 {ρ:Type} (u:Nat) (x0:Nat) (x1:FF) (x2:Int):Nat→Int→(Int→Option ρ)→(Option ρ)→Option ρ
 | 0,_,_,_=>none
 | m+1,x3,k0,k1 =>
  (bif (decide (x3<x2)) then (bif (inb x3 x0) then (ob (F61 u (x1 x3.toNat 0).int (x1 x3.toNat 1).int) fun x4=>(bif x4 then (k0 x3) else (L73v1 u x0 x1 x2 m (w64 (x3+1)) k0 k1))) else none) else k1)
theorem nl73v1:∀ (m:Nat) (x0:Int) (k0:Int→Option ρ) (k1:Option ρ),ob (L73v1 u n0 f0 i0 m x0 k0 k1) ng=L73v1 u n0 f0 i0 m x0 (fun x1=>ob (k0 x1) ng) (ob k1 ng)
 | 0,_,_,_=>rfl
 | m+1,x0,k0,k1=>by
  simp only [L73v1,ob_bif,ob_ob,ob_none,nl73v1 m]
theorem q73v1:∀ (m:Nat) (x0:Int),
  loopH (eB A92v3 (C6 u) u) N73v1 m (s73v0 n0 f0 i0 x0) k=L73v1 u n0 f0 i0 m x0 (fun x1=>k .ret (s73v1 x1)) (k (.exit 0) s73v2)
 | 0,_=>rfl
 | m+1,x0=>by
  simp only [L73v1,← q73v1 m]
  kernel_rfl
def F73 (x0:Nat) (x1:FF):Option (Int) :=
 (L73v1 u x0 x1 (Int.ofNat x0) u 0
  (fun x2=>(some x2))
  (some (-1)))
def s73v3:St:=⟨[.x (.c (ro kP n0 f0)),.x (.c (.fn 93 0 (listF []))),uu,uu,vxi 0,uu,.x (.c (ro kP n0 f0)),vxi (Int.ofNat n0),vxi 0,uu,uu,uu,uu,uu,uu,uu,uu,uu,uu],[]⟩
theorem t73v1 :
  loopN (eB A92v3 (C6 u) u) N73v1 u (s73v3 n0 f0) k =
  L73v1 u n0 f0 (Int.ofNat n0) u 0 (fun x0=>k .ret (s73v1 x0)) (k (.exit 0) s73v2) :=
 Eq.trans (loopN_at (by kernel_rfl)) (q73v1 ..)
theorem g73v2 :
  (kBlk 0 (kSeq (C6 u) u (rl 4 15 []) A92v4 (finish A92))) .ret (s73v1 i0) =
  (some [.v (vi i0)]):=by kernel_rfl
theorem g73v3 :
  (kBlk 0 (kSeq (C6 u) u (rl 4 15 []) A92v4 (finish A92))) (.exit 0) s73v2 =
  (some [.v (vi (-1))]):=by kernel_rfl
theorem e73:evalF (C6 u) u A92 [.v (ro kP n0 f0),.v (.fn 93 0 (listF []))]=ob (F73 u n0 f0) fun t=>some [.v (vi t)]:=Eq.trans (b:=(loopN (eB A92v3 (C6 u) u) N73v1 u (s73v3 n0 f0) (kBlk 0 (kSeq (C6 u) u (rl 4 15 []) A92v4 (finish A92))))) (by kernel_rfl) (by
 simp only [F73,ob_bif,ob_ob,ob_none,ob_some,nl73v1,t73v1,g73v2,g73v3])
def O73:Ora:=mkO (qc (av (cL kP)) (q1 (av (cF 93 0 t0)))) (fun x=>F73 u x.1.1 x.1.2) fun t=>[.v (vi t)]
theorem d73:DO (O73 u) (C6 u) 92 A92:=dO u (fun x=>by exact e73 u x.1.1 x.1.2)
def C7:Oracle:=(C6 u).add 92 (fun l=>isFn 93 l 1) (O73 u)
def B69:An tT Tryz.f69 [.k (rl 0 4 (rl 5 4 []))]:=by
 apply Subtype.mk;cbv<;>exact rfl
def A69:AF:=B69.1
def F50 (x0:Nat) (x1:FF):Option (Bool) :=
 (ob (F73 u x0 x1) fun x2=>(some (decide (x2≥0))))
theorem e50:evalF (C7 u) u A69 [.v (ro kP n0 f0),.v (.fn 93 0 (listF []))]=ob (F50 u n0 f0) fun t=>some [.v (.b t)]:=by
 simp only [F50,ob_bif,ob_ob,ob_none,ob_some]
 kernel_rfl
def O50:Ora:=mkO (qc (av (cL kP)) (q1 (av (cF 93 0 t0)))) (fun x=>F50 u x.1.1 x.1.2) fun t=>[.v (.b t)]
theorem d50:DO (O50 u) (C7 u) 69 A69:=dO u (fun x=>by exact e50 u x.1.1 x.1.2)
def C8:Oracle:=(C7 u).add 69 (fun l=>isFn 93 l 1) (O50 u)
def B119:An tT Tryz.f119 [.k (rl 0 6 (rl 7 23 []))]:=by
 apply Subtype.mk;cbv<;>exact rfl
def A119:AF:=B119.1
def F79 (u:Nat) (x0 x1 x2 x3 x4 x5:Int):Option (Int) :=
 (some (w64 ((w64 ((w64 (x2-x0))*(w64 (x5-x1))))-(w64 ((w64 (x3-x1))*(w64 (x4-x0)))))))
theorem e79:evalF (C8 u) u A119 [.agg [(vi i0),(vi i1)],.agg [(vi i2),(vi i3)],.agg [(vi i4),(vi i5)]]=ob (F79 u i0 i1 i2 i3 i4 i5) fun t=>some [.v (vi t)]:=by
 simp only [F79,ob_bif,ob_ob,ob_none,ob_some]
 kernel_rfl
def O79:Ora:=mkO (qc (ag (tc ci (t1 ci))) (qc (ag (tc ci (t1 ci))) (q1 (ag (tc ci (t1 ci)))))) (fun x=>F79 u x.1.1 x.1.2 x.2.1.1 x.2.1.2 x.2.2.1 x.2.2.2) fun t=>[.v (vi t)]
theorem d79:DO (O79 u) (C8 u) 119 A119:=dO u (fun x=>by exact e79 u x.1.1 x.1.2 x.2.1.1 x.2.1.2 x.2.2.1 x.2.2.2)
def C9:Oracle:=(C8 u).add 119 (fun _=>true) (O79 u)
def B133:An tT Tryz.f133 [.k (rl 0 6 (rl 7 38 []))]:=by
 apply Subtype.mk;cbv<;>exact rfl
def A133:AF:=B133.1
def F87 (u:Nat) (x0 x1 x2 x3 x4 x5:Int):Option (Bool) :=
 (bif ((decide ((if x2<x0 then x2 else x0)≤x4))==true) then (bif ((decide (x4≤(if x2>x0 then x2 else x0)))==true) then (bif ((decide ((if x3<x1 then x3 else x1)≤x5))==true) then (some (decide (x5≤(if x3>x1 then x3 else x1)))) else (some false)) else (some false)) else (some false))
theorem e87:evalF (C9 u) u A133 [.agg [(vi i0),(vi i1)],.agg [(vi i2),(vi i3)],.agg [(vi i4),(vi i5)]]=ob (F87 u i0 i1 i2 i3 i4 i5) fun t=>some [.v (.b t)]:=by
 simp only [F87,ob_bif,ob_ob,ob_none,ob_some]
 kernel_rfl
def O87:Ora:=mkO (qc (ag (tc ci (t1 ci))) (qc (ag (tc ci (t1 ci))) (q1 (ag (tc ci (t1 ci)))))) (fun x=>F87 u x.1.1 x.1.2 x.2.1.1 x.2.1.2 x.2.2.1 x.2.2.2) fun t=>[.v (.b t)]
theorem d87:DO (O87 u) (C9 u) 133 A133:=dO u (fun x=>by exact e87 u x.1.1 x.1.2 x.2.1.1 x.2.1.2 x.2.2.1 x.2.2.2)
def C10:Oracle:=(C9 u).add 133 (fun _=>true) (O87 u)
def B121:An tT Tryz.f121 [.k (rl 0 6 (rl 7 11 []))]:=by
 apply Subtype.mk;cbv<;>exact rfl
def A121:AF:=B121.1
def F81 (x0 x1 x2 x3 x4 x5:Int):Option (Bool) :=
 (ob (F79 u x0 x1 x2 x3 x4 x5) fun x6=>(bif ((x6==0)==true) then (ob (F87 u x0 x1 x2 x3 x4 x5) fun x7=>(some x7)) else (some false)))
theorem e81:evalF (C10 u) u A121 [.agg [(vi i0),(vi i1)],.agg [(vi i2),(vi i3)],.agg [(vi i4),(vi i5)]]=ob (F81 u i0 i1 i2 i3 i4 i5) fun t=>some [.v (.b t)]:=by
 simp only [F81,ob_bif,ob_ob,ob_none,ob_some]
 kernel_rfl
def O81:Ora:=mkO (qc (ag (tc ci (t1 ci))) (qc (ag (tc ci (t1 ci))) (q1 (ag (tc ci (t1 ci)))))) (fun x=>F81 u x.1.1 x.1.2 x.2.1.1 x.2.1.2 x.2.2.1 x.2.2.2) fun t=>[.v (.b t)]
theorem d81:DO (O81 u) (C10 u) 121 A121:=dO u (fun x=>by exact e81 u x.1.1 x.1.2 x.2.1.1 x.2.1.2 x.2.2.1 x.2.2.2)
def C11:Oracle:=(C10 u).add 121 (fun _=>true) (O81 u)
def B128:An tT Tryz.f128 [.k [0,1,3,4,5]]:=by
 apply Subtype.mk;cbv<;>exact rfl
def A128:AF:=B128.1
def F90 (u:Nat) (x0:Int):Option (Bool) :=
 (some (x0 != x0))
theorem e90:evalF (C11 u) u A128 [.v (vi i0)]=ob (F90 u i0) fun t=>some [.v (.b t)]:=by
 simp only [F90,ob_bif,ob_ob,ob_none,ob_some]
 kernel_rfl
def O90:Ora:=mkO (q1 (av ci)) (fun x=>F90 u x) fun t=>[.v (.b t)]
theorem d90:DO (O90 u) (C11 u) 128 A128:=dO u (fun x=>by exact e90 u x)
def C12:Oracle:=(C11 u).add 128 (fun _=>true) (O90 u)
def B136:An tT Tryz.f136 [.k [4,11,12],.k [4,12],.k (rl 0 4 (rl 5 15 [])),.k (rl 0 4 (rl 5 15 [])),.k [4,13],.k (rl 0 4 (rl 5 15 [])),.k [4,14,15,16],.k (rl 0 4 (rl 5 15 [])),.k [4,17,18,19],.k (rl 0 4 (rl 5 15 [])),.k (rl 0 4 (rl 5 15 []))]:=by
 apply Subtype.mk;cbv<;>exact rfl
def A136:AF:=B136.1
def F89 (x0 x1:Int):Option (Int) :=
 (ob (F90 u x0) fun x2=>(ob (F90 u x1) fun x3=>(bif x2 then (bif x3 then (some 0) else (some (-1))) else (bif x3 then (some 1) else (bif (decide (x0<x1)) then (some (-1)) else (bif (decide (x0>x1)) then (some 1) else (some 0)))))))
theorem e89:evalF (C12 u) u A136 [.v (vi i0),.v (vi i1)]=ob (F89 u i0 i1) fun t=>some [.v (vi t)]:=by
 simp only [F89,ob_bif,ob_ob,ob_none,ob_some]
 kernel_rfl
def O89:Ora:=mkO (qc (av ci) (q1 (av ci))) (fun x=>F89 u x.1 x.2) fun t=>[.v (vi t)]
theorem d89:DO (O89 u) (C12 u) 136 A136:=dO u (fun x=>by exact e89 u x.1 x.2)
def C13:Oracle:=(C12 u).add 136 (fun _=>true) (O89 u)
def B132:An tT Tryz.f132 [.k [0,1,3,4]]:=by
 apply Subtype.mk;cbv<;>exact rfl
def A132:AF:=B132.1
def F86 (x0:Int):Option (Int) :=
 (ob (F89 u x0 0) fun x1=>(some x1))
theorem e86:evalF (C13 u) u A132 [.v (vi i0)]=ob (F86 u i0) fun t=>some [.v (vi t)]:=by
 simp only [F86,ob_bif,ob_ob,ob_none,ob_some]
 kernel_rfl
def O86:Ora:=mkO (q1 (av ci)) (fun x=>F86 u x) fun t=>[.v (vi t)]
theorem d86:DO (O86 u) (C13 u) 132 A132:=dO u (fun x=>by exact e86 u x)
def C14:Oracle:=(C13 u).add 132 (fun _=>true) (O86 u)
def B120:An tT Tryz.f120 [.k (rl 8 23 []),.k (rl 0 8 (rl 9 48 [])),.k (rl 0 8 (rl 9 48 []))]:=by
 apply Subtype.mk;cbv<;>exact rfl
def A120:AF:=B120.1
def F80 (x0 x1 x2 x3 x4 x5 x6 x7:Int):Option (Bool) :=
 (ob (F81 u x0 x1 x2 x3 x4 x5) fun x8=>(bif (x8==false) then (ob (F81 u x0 x1 x2 x3 x6 x7) fun x9=>(bif (x9==false) then (ob (F81 u x4 x5 x6 x7 x0 x1) fun xA=>(bif (xA==false) then (ob (F81 u x4 x5 x6 x7 x2 x3) fun xB=>(bif xB then (some true) else (ob (F79 u x0 x1 x2 x3 x4 x5) fun xC=>(ob (F86 u xC) fun xD=>(ob (F79 u x0 x1 x2 x3 x6 x7) fun xE=>(ob (F86 u xE) fun xF=>(bif ((decide ((w64 (xD*xF))<0))==true) then (ob (F79 u x4 x5 x6 x7 x0 x1) fun xG=>(ob (F86 u xG) fun xH=>(ob (F79 u x4 x5 x6 x7 x2 x3) fun xI=>(ob (F86 u xI) fun xJ=>(some (decide ((w64 (xH*xJ))<0))))))) else (some false)))))))) else (some true))) else (some true))) else (some true)))
theorem e80:evalF (C14 u) u A120 [.agg [(vi i0),(vi i1)],.agg [(vi i2),(vi i3)],.agg [(vi i4),(vi i5)],.agg [(vi i6),(vi i7)]]=ob (F80 u i0 i1 i2 i3 i4 i5 i6 i7) fun t=>some [.v (.b t)]:=by
 simp only [F80,ob_bif,ob_ob,ob_none,ob_some]
 kernel_rfl
def O80:Ora:=mkO (qc (ag (tc ci (t1 ci))) (qc (ag (tc ci (t1 ci))) (qc (ag (tc ci (t1 ci))) (q1 (ag (tc ci (t1 ci))))))) (fun x=>F80 u x.1.1 x.1.2 x.2.1.1 x.2.1.2 x.2.2.1.1 x.2.2.1.2 x.2.2.2.1 x.2.2.2.2) fun t=>[.v (.b t)]
theorem d80:DO (O80 u) (C14 u) 120 A120:=dO u (fun x=>by exact e80 u x.1.1 x.1.2 x.2.1.1 x.2.1.2 x.2.2.1.1 x.2.2.1.2 x.2.2.2.1 x.2.2.2.2)
def C15:Oracle:=(C14 u).add 120 (fun _=>true) (O80 u)
def B94:An tT Tryz.f94 [.k (2 :: (rl 4 5 (rl 11 87 []))),.h [],.k (1 :: 2 :: (rl 4 8 (rl 14 84 []))),.k [],.k (rl 0 98 []),.k (2 :: (rl 4 5 (rl 15 82 []))),.k [2,27,28,29],.k (0 :: 1 :: (rl 3 95 [])),.k (2 :: (rl 37 31 [])),.k (0 :: 1 :: (rl 3 95 [])),.h [],.k (1 :: 2 :: 7 :: 9 :: 10 :: 11 :: (rl 14 84 [])),.k [70,71,72],.k (1 :: 2 :: (rl 4 8 (rl 14 84 []))),.k (2 :: (rl 75 22 [])),.k (0 :: 1 :: (rl 3 95 [])),.k (0 :: 1 :: (rl 3 95 []))]:=by
 apply Subtype.mk;cbv<;>exact rfl
def A94:AF:=B94.1
def A94v9:AC:=sA A94.body [1,1,1]
def A94v8:AC:=sA A94.body [1,1,0,1,0,0]
def A94v7:AC:=sA A94v8 [1,1]
def A94v6:AC:=sA A94v7 [1]
def A94v5:AC:=sA A94v7 [0,0,1,1,1]
def A94v4:AC:=sA A94v5 [1,1]
def A94v3:AC:=sA A94v4 [1,0,0]
def N62v2:St→Option St:=nN 3 (1 :: 2 :: 7 :: 9 :: 10 :: 11 :: (rl 14 84 []))
def s62v0:St:=⟨(.x (.c (ro kP n0 f0)) :: .u :: .u :: vxi i0 :: vxi i1 :: .x (.ptr 0 0) :: .x (.ptr 1 0) :: .u :: vxi i2 :: (us 3 (vxi i0 :: vxi i1 :: (us 84 [])))),[.box [(vci i3),(vci i4)],.box [(vci i5),(vci i6)],.box [(vci i7),(vci i8)]]⟩
def s62v1:St:=⟨(.u :: .u :: vxb false :: (us 95 [])),[.box [(vci i0),(vci i1)],.box [(vci i2),(vci i3)],.box [(vci i4),(vci i5)]]⟩
def s62v2:St:=⟨(.x (.c (ro kP n0 f0)) :: .u :: .u :: vxi i0 :: (us 8 (vxi i0 :: vxi i1 :: (us 84 [])))),[.box [(vci i2),(vci i3)],.box [(vci i4),(vci i5)],.box [(vci i6),(vci i7)]]⟩
def L62v2 {ρ:Type} (u:Nat) (x0:Nat) (x1:FF) (x2 x3 x4 x5 x6 x7 x8 x9:Int):Nat→Int→(Option ρ)→(Option ρ)→Option ρ
 | 0,_,_,_=>none
 | m+1,xA,k0,k1 =>
  (bif (decide (xA<x2)) then (bif (x2==0) then none else (bif (((Int.tmod (w64 (xA+1)) x2) != x3)==true) then (bif (inb xA x0) then (bif (x2==0) then none else (bif (inb (Int.tmod (w64 (xA+1)) x2) x0) then (ob (F80 u x4 x5 x6 x7 (x1 xA.toNat 0).int (x1 xA.toNat 1).int (CV.int (x1 (Int.toNat (Int.tmod (w64 (xA+1)) x2)) 0)) (CV.int (x1 (Int.toNat (Int.tmod (w64 (xA+1)) x2)) 1))) fun xB=>(bif xB then k0 else (L62v2 u x0 x1 x2 x3 x4 x5 x6 x7 x8 x9 m (w64 (xA+1)) k0 k1))) else none)) else none) else (L62v2 u x0 x1 x2 x3 x4 x5 x6 x7 x8 x9 m (w64 (xA+1)) k0 k1))) else k1)
theorem nl62v2:∀ (m:Nat) (x0:Int) (k0:Option ρ) (k1:Option ρ),ob (L62v2 u n0 f0 i0 i1 i2 i3 i4 i5 i6 i7 m x0 k0 k1) ng=L62v2 u n0 f0 i0 i1 i2 i3 i4 i5 i6 i7 m x0 (ob k0 ng) (ob k1 ng)
 | 0,_,_,_=>rfl
 | m+1,x0,k0,k1=>by
  simp only [L62v2,ob_bif,ob_ob,ob_none,nl62v2 m]
theorem q62v2:∀ (m:Nat) (x0:Int),
  loopH (eB A94v3 (C15 u) u) N62v2 m (s62v0 n0 f0 i0 i1 x0 i2 i3 i4 i5 i6 i7) k=L62v2 u n0 f0 i0 i1 i2 i3 i4 i5 i6 i7 m x0 (k .ret (s62v1 i2 i3 i4 i5 i6 i7)) (k (.exit 2) (s62v2 n0 f0 i0 i1 i2 i3 i4 i5 i6 i7))
 | 0,_=>rfl
 | m+1,x0=>by
  simp only [L62v2,← q62v2 m]
  kernel_rfl
def N62v3:St→Option St:=nN 0 (1 :: 2 :: (rl 4 8 (rl 14 84 [])))
def s62v3:St:=⟨(.x (.c (ro kP n0 f0)) :: .u :: .u :: vxi i0 :: (us 8 (vxi i0 :: vxi i1 :: (us 84 [])))),[]⟩
def s62v4:St:=⟨(.u :: .u :: vxb false :: (us 95 [])),[.box [(vci i0),(vci i1)],.box [(vci i2),(vci i3)]]⟩
def s62v5:St:=⟨(.u :: .u :: vxb false :: (us 95 [])),[.box [(vci i0),(vci i1)],.box [(vci i2),(vci i3)],.box [(vci i4),(vci i5)]]⟩
def s62v6:St:=⟨(us 98 []),[]⟩
def L62v3 {ρ:Type} (u:Nat) (x0:Nat) (x1:FF) (x2:Int):Nat→Int→(Int→Int→Int→Int→Option ρ)→(Int→Int→Int→Int→Int→Int→Option ρ)→(Option ρ)→Option ρ
 | 0,_,_,_,_=>none
 | m+1,x3,k0,k1,k2 =>
  (bif (decide (x3<x2)) then (bif (inb x3 x0) then (bif (x2==0) then none else (bif (inb (Int.tmod (w64 (x3+1)) x2) x0) then (bif (((x1 x3.toNat 0).int==(CV.int (x1 (Int.toNat (Int.tmod (w64 (x3+1)) x2)) 0)))&&(((x1 x3.toNat 1).int==(CV.int (x1 (Int.toNat (Int.tmod (w64 (x3+1)) x2)) 1)))&&true)) then (k0 (x1 x3.toNat 0).int (x1 x3.toNat 1).int (CV.int (x1 (Int.toNat (Int.tmod (w64 (x3+1)) x2)) 0)) (CV.int (x1 (Int.toNat (Int.tmod (w64 (x3+1)) x2)) 1))) else (bif (x2==0) then none else (bif (inb (Int.tmod (w64 (x3+2)) x2) x0) then (ob (F79 u (x1 x3.toNat 0).int (x1 x3.toNat 1).int (CV.int (x1 (Int.toNat (Int.tmod (w64 (x3+1)) x2)) 0)) (CV.int (x1 (Int.toNat (Int.tmod (w64 (x3+1)) x2)) 1)) (CV.int (x1 (Int.toNat (Int.tmod (w64 (x3+2)) x2)) 0)) (CV.int (x1 (Int.toNat (Int.tmod (w64 (x3+2)) x2)) 1))) fun x4=>(bif ((x4==0)==true) then (bif (decide ((w64 ((w64 ((w64 ((x1 x3.toNat 0).int-(CV.int (x1 (Int.toNat (Int.tmod (w64 (x3+1)) x2)) 0))))*(w64 ((CV.int (x1 (Int.toNat (Int.tmod (w64 (x3+2)) x2)) 0))-(CV.int (x1 (Int.toNat (Int.tmod (w64 (x3+1)) x2)) 0))))))+(w64 ((w64 ((x1 x3.toNat 1).int-(CV.int (x1 (Int.toNat (Int.tmod (w64 (x3+1)) x2)) 1))))*(w64 ((CV.int (x1 (Int.toNat (Int.tmod (w64 (x3+2)) x2)) 1))-(CV.int (x1 (Int.toNat (Int.tmod (w64 (x3+1)) x2)) 1))))))))>0)) then (k1 (x1 x3.toNat 0).int (x1 x3.toNat 1).int (CV.int (x1 (Int.toNat (Int.tmod (w64 (x3+1)) x2)) 0)) (CV.int (x1 (Int.toNat (Int.tmod (w64 (x3+1)) x2)) 1)) (CV.int (x1 (Int.toNat (Int.tmod (w64 (x3+2)) x2)) 0)) (CV.int (x1 (Int.toNat (Int.tmod (w64 (x3+2)) x2)) 1))) else (L62v2 u x0 x1 x2 x3 (x1 x3.toNat 0).int (x1 x3.toNat 1).int (CV.int (x1 (Int.toNat (Int.tmod (w64 (x3+1)) x2)) 0)) (CV.int (x1 (Int.toNat (Int.tmod (w64 (x3+1)) x2)) 1)) (CV.int (x1 (Int.toNat (Int.tmod (w64 (x3+2)) x2)) 0)) (CV.int (x1 (Int.toNat (Int.tmod (w64 (x3+2)) x2)) 1)) u (w64 (x3+2))
  (k1 (x1 x3.toNat 0).int (x1 x3.toNat 1).int (CV.int (x1 (Int.toNat (Int.tmod (w64 (x3+1)) x2)) 0)) (CV.int (x1 (Int.toNat (Int.tmod (w64 (x3+1)) x2)) 1)) (CV.int (x1 (Int.toNat (Int.tmod (w64 (x3+2)) x2)) 0)) (CV.int (x1 (Int.toNat (Int.tmod (w64 (x3+2)) x2)) 1)))
  (L62v3 u x0 x1 x2 m (w64 (x3+1)) k0 k1 k2))) else (L62v2 u x0 x1 x2 x3 (x1 x3.toNat 0).int (x1 x3.toNat 1).int (CV.int (x1 (Int.toNat (Int.tmod (w64 (x3+1)) x2)) 0)) (CV.int (x1 (Int.toNat (Int.tmod (w64 (x3+1)) x2)) 1)) (CV.int (x1 (Int.toNat (Int.tmod (w64 (x3+2)) x2)) 0)) (CV.int (x1 (Int.toNat (Int.tmod (w64 (x3+2)) x2)) 1)) u (w64 (x3+2))
  (k1 (x1 x3.toNat 0).int (x1 x3.toNat 1).int (CV.int (x1 (Int.toNat (Int.tmod (w64 (x3+1)) x2)) 0)) (CV.int (x1 (Int.toNat (Int.tmod (w64 (x3+1)) x2)) 1)) (CV.int (x1 (Int.toNat (Int.tmod (w64 (x3+2)) x2)) 0)) (CV.int (x1 (Int.toNat (Int.tmod (w64 (x3+2)) x2)) 1)))
  (L62v3 u x0 x1 x2 m (w64 (x3+1)) k0 k1 k2)))) else none))) else none)) else none) else k2)
theorem nl62v3:∀ (m:Nat) (x0:Int) (k0:Int→Int→Int→Int→Option ρ) (k1:Int→Int→Int→Int→Int→Int→Option ρ) (k2:Option ρ),ob (L62v3 u n0 f0 i0 m x0 k0 k1 k2) ng=L62v3 u n0 f0 i0 m x0 (fun x1 x2 x3 x4=>ob (k0 x1 x2 x3 x4) ng) (fun x5 x6 x7 x8 x9 xA=>ob (k1 x5 x6 x7 x8 x9 xA) ng) (ob k2 ng)
 | 0,_,_,_,_=>rfl
 | m+1,x0,k0,k1,k2=>by
  simp only [L62v3,ob_bif,ob_ob,ob_none,nl62v3 m,nl62v2]
def s62v7:St:=⟨(.x (.c (ro kP n0 f0)) :: .u :: .u :: vxi i0 :: vxi i1 :: .x (.ptr 0 0) :: .x (.ptr 1 0) :: .x (.ptr 2 0) :: vxi (w64 (i1+2)) :: (us 3 (vxi i0 :: vxi i1 :: vxb true :: vxi i1 :: .x (.c (ro kP n0 f0)) :: vxi i1 :: .x (.c (.rp kP (f0 i1.toNat))) :: .agg [(vci (f0 i1.toNat 0).int),(vci (f0 i1.toNat 1).int)] :: .x (.c (ro kP n0 f0)) :: vxi i1 :: vxi (w64 (i1+1)) :: vxi i0 :: vxi (Int.tmod (w64 (i1+1)) i0) :: .x (.c (.rp kP (f0 (Int.toNat (Int.tmod (w64 (i1+1)) i0))))) :: .agg [(vci (CV.int (f0 (Int.toNat (Int.tmod (w64 (i1+1)) i0)) 0))),(vci (CV.int (f0 (Int.toNat (Int.tmod (w64 (i1+1)) i0)) 1)))] :: (us 3 (.x (.c (ro kP n0 f0)) :: vxi i1 :: vxi (w64 (i1+2)) :: vxi i0 :: vxi (Int.tmod (w64 (i1+2)) i0) :: .x (.c (.rp kP (f0 (Int.toNat (Int.tmod (w64 (i1+2)) i0))))) :: .agg [(vci (CV.int (f0 (Int.toNat (Int.tmod (w64 (i1+2)) i0)) 0))),(vci (CV.int (f0 (Int.toNat (Int.tmod (w64 (i1+2)) i0)) 1)))] :: (us 31 (vxi i1 :: vxi (w64 (i1+2)) :: (us 28 [])))))))),[.box [(vci (f0 i1.toNat 0).int),(vci (f0 i1.toNat 1).int)],.box [(vci (CV.int (f0 (Int.toNat (Int.tmod (w64 (i1+1)) i0)) 0))),(vci (CV.int (f0 (Int.toNat (Int.tmod (w64 (i1+1)) i0)) 1)))],.box [(vci (CV.int (f0 (Int.toNat (Int.tmod (w64 (i1+2)) i0)) 0))),(vci (CV.int (f0 (Int.toNat (Int.tmod (w64 (i1+2)) i0)) 1)))]]⟩
theorem r62v3 :
  loopH (eB A94v8 (C15 u) u) N62v3 (m+1) (s62v3 n0 f0 i0 i1) k =
  (bif (decide (i1<i0)) then (bif (inb i1 n0) then (bif (i0==0) then none else (bif (inb (Int.tmod (w64 (i1+1)) i0) n0) then (bif (((f0 i1.toNat 0).int==(CV.int (f0 (Int.toNat (Int.tmod (w64 (i1+1)) i0)) 0)))&&(((f0 i1.toNat 1).int==(CV.int (f0 (Int.toNat (Int.tmod (w64 (i1+1)) i0)) 1)))&&true)) then (k .ret (s62v4 (f0 i1.toNat 0).int (f0 i1.toNat 1).int (CV.int (f0 (Int.toNat (Int.tmod (w64 (i1+1)) i0)) 0)) (CV.int (f0 (Int.toNat (Int.tmod (w64 (i1+1)) i0)) 1)))) else (bif (i0==0) then none else (bif (inb (Int.tmod (w64 (i1+2)) i0) n0) then (ob (F79 u (f0 i1.toNat 0).int (f0 i1.toNat 1).int (CV.int (f0 (Int.toNat (Int.tmod (w64 (i1+1)) i0)) 0)) (CV.int (f0 (Int.toNat (Int.tmod (w64 (i1+1)) i0)) 1)) (CV.int (f0 (Int.toNat (Int.tmod (w64 (i1+2)) i0)) 0)) (CV.int (f0 (Int.toNat (Int.tmod (w64 (i1+2)) i0)) 1))) fun x0=>(bif ((x0==0)==true) then (bif (decide ((w64 ((w64 ((w64 ((f0 i1.toNat 0).int-(CV.int (f0 (Int.toNat (Int.tmod (w64 (i1+1)) i0)) 0))))*(w64 ((CV.int (f0 (Int.toNat (Int.tmod (w64 (i1+2)) i0)) 0))-(CV.int (f0 (Int.toNat (Int.tmod (w64 (i1+1)) i0)) 0))))))+(w64 ((w64 ((f0 i1.toNat 1).int-(CV.int (f0 (Int.toNat (Int.tmod (w64 (i1+1)) i0)) 1))))*(w64 ((CV.int (f0 (Int.toNat (Int.tmod (w64 (i1+2)) i0)) 1))-(CV.int (f0 (Int.toNat (Int.tmod (w64 (i1+1)) i0)) 1))))))))>0)) then (k .ret (s62v5 (f0 i1.toNat 0).int (f0 i1.toNat 1).int (CV.int (f0 (Int.toNat (Int.tmod (w64 (i1+1)) i0)) 0)) (CV.int (f0 (Int.toNat (Int.tmod (w64 (i1+1)) i0)) 1)) (CV.int (f0 (Int.toNat (Int.tmod (w64 (i1+2)) i0)) 0)) (CV.int (f0 (Int.toNat (Int.tmod (w64 (i1+2)) i0)) 1)))) else (loopN (eB A94v3 (C15 u) u) N62v2 u (s62v7 n0 f0 i0 i1) (kBlk 2 (kBlk 1 (kSeq (C15 u) u (2 :: (rl 4 5 (rl 15 82 []))) A94v6 (kLoop (eB A94v8 (C15 u) u) N62v3 m k)))))) else (loopN (eB A94v3 (C15 u) u) N62v2 u (s62v7 n0 f0 i0 i1) (kBlk 2 (kBlk 1 (kSeq (C15 u) u (2 :: (rl 4 5 (rl 15 82 []))) A94v6 (kLoop (eB A94v8 (C15 u) u) N62v3 m k))))))) else none))) else none)) else none) else (k (.exit 0) s62v6)):=by kernel_rfl
theorem t62v1 :
  loopN (eB A94v3 (C15 u) u) N62v2 u (s62v7 n0 f0 i0 i1) k =
  L62v2 u n0 f0 i0 i1 (f0 i1.toNat 0).int (f0 i1.toNat 1).int (CV.int (f0 (Int.toNat (Int.tmod (w64 (i1+1)) i0)) 0)) (CV.int (f0 (Int.toNat (Int.tmod (w64 (i1+1)) i0)) 1)) (CV.int (f0 (Int.toNat (Int.tmod (w64 (i1+2)) i0)) 0)) (CV.int (f0 (Int.toNat (Int.tmod (w64 (i1+2)) i0)) 1)) u (w64 (i1+2)) (k .ret (s62v1 (f0 i1.toNat 0).int (f0 i1.toNat 1).int (CV.int (f0 (Int.toNat (Int.tmod (w64 (i1+1)) i0)) 0)) (CV.int (f0 (Int.toNat (Int.tmod (w64 (i1+1)) i0)) 1)) (CV.int (f0 (Int.toNat (Int.tmod (w64 (i1+2)) i0)) 0)) (CV.int (f0 (Int.toNat (Int.tmod (w64 (i1+2)) i0)) 1)))) (k (.exit 2) (s62v2 n0 f0 i0 i1 (f0 i1.toNat 0).int (f0 i1.toNat 1).int (CV.int (f0 (Int.toNat (Int.tmod (w64 (i1+1)) i0)) 0)) (CV.int (f0 (Int.toNat (Int.tmod (w64 (i1+1)) i0)) 1)) (CV.int (f0 (Int.toNat (Int.tmod (w64 (i1+2)) i0)) 0)) (CV.int (f0 (Int.toNat (Int.tmod (w64 (i1+2)) i0)) 1)))) :=
 Eq.trans (loopN_at (by kernel_rfl)) (q62v2 ..)
theorem g62v2 :
  (kBlk 2 (kBlk 1 (kSeq (C15 u) u (2 :: (rl 4 5 (rl 15 82 []))) A94v6 (kLoop (eB A94v8 (C15 u) u) N62v3 m k)))) .ret (s62v1 (f0 i0.toNat 0).int (f0 i0.toNat 1).int (CV.int (f0 (Int.toNat (Int.tmod (w64 (i0+1)) i1)) 0)) (CV.int (f0 (Int.toNat (Int.tmod (w64 (i0+1)) i1)) 1)) (CV.int (f0 (Int.toNat (Int.tmod (w64 (i0+2)) i1)) 0)) (CV.int (f0 (Int.toNat (Int.tmod (w64 (i0+2)) i1)) 1))) =
  (k .ret (s62v5 (f0 i0.toNat 0).int (f0 i0.toNat 1).int (CV.int (f0 (Int.toNat (Int.tmod (w64 (i0+1)) i1)) 0)) (CV.int (f0 (Int.toNat (Int.tmod (w64 (i0+1)) i1)) 1)) (CV.int (f0 (Int.toNat (Int.tmod (w64 (i0+2)) i1)) 0)) (CV.int (f0 (Int.toNat (Int.tmod (w64 (i0+2)) i1)) 1)))):=by kernel_rfl
theorem g62v3 :
  (kBlk 2 (kBlk 1 (kSeq (C15 u) u (2 :: (rl 4 5 (rl 15 82 []))) A94v6 (kLoop (eB A94v8 (C15 u) u) N62v3 m k)))) (.exit 2) (s62v2 n0 f0 i0 i1 (f0 i1.toNat 0).int (f0 i1.toNat 1).int (CV.int (f0 (Int.toNat (Int.tmod (w64 (i1+1)) i0)) 0)) (CV.int (f0 (Int.toNat (Int.tmod (w64 (i1+1)) i0)) 1)) (CV.int (f0 (Int.toNat (Int.tmod (w64 (i1+2)) i0)) 0)) (CV.int (f0 (Int.toNat (Int.tmod (w64 (i1+2)) i0)) 1))) =
  (loopH (eB A94v8 (C15 u) u) N62v3 m (s62v3 n0 f0 i0 (w64 (i1+1))) k):=by kernel_rfl
theorem t62v4 :
  loopN (eB A94v3 (C15 u) u) N62v2 u (s62v7 n0 f0 i0 i1) k =
  L62v2 u n0 f0 i0 i1 (f0 i1.toNat 0).int (f0 i1.toNat 1).int (CV.int (f0 (Int.toNat (Int.tmod (w64 (i1+1)) i0)) 0)) (CV.int (f0 (Int.toNat (Int.tmod (w64 (i1+1)) i0)) 1)) (CV.int (f0 (Int.toNat (Int.tmod (w64 (i1+2)) i0)) 0)) (CV.int (f0 (Int.toNat (Int.tmod (w64 (i1+2)) i0)) 1)) u (w64 (i1+2)) (k .ret (s62v1 (f0 i1.toNat 0).int (f0 i1.toNat 1).int (CV.int (f0 (Int.toNat (Int.tmod (w64 (i1+1)) i0)) 0)) (CV.int (f0 (Int.toNat (Int.tmod (w64 (i1+1)) i0)) 1)) (CV.int (f0 (Int.toNat (Int.tmod (w64 (i1+2)) i0)) 0)) (CV.int (f0 (Int.toNat (Int.tmod (w64 (i1+2)) i0)) 1)))) (k (.exit 2) (s62v2 n0 f0 i0 i1 (f0 i1.toNat 0).int (f0 i1.toNat 1).int (CV.int (f0 (Int.toNat (Int.tmod (w64 (i1+1)) i0)) 0)) (CV.int (f0 (Int.toNat (Int.tmod (w64 (i1+1)) i0)) 1)) (CV.int (f0 (Int.toNat (Int.tmod (w64 (i1+2)) i0)) 0)) (CV.int (f0 (Int.toNat (Int.tmod (w64 (i1+2)) i0)) 1)))) :=
 Eq.trans (loopN_at (by kernel_rfl)) (q62v2 ..)
theorem g62v5 :
  (kBlk 2 (kBlk 1 (kSeq (C15 u) u (2 :: (rl 4 5 (rl 15 82 []))) A94v6 (kLoop (eB A94v8 (C15 u) u) N62v3 m k)))) .ret (s62v1 (f0 i0.toNat 0).int (f0 i0.toNat 1).int (CV.int (f0 (Int.toNat (Int.tmod (w64 (i0+1)) i1)) 0)) (CV.int (f0 (Int.toNat (Int.tmod (w64 (i0+1)) i1)) 1)) (CV.int (f0 (Int.toNat (Int.tmod (w64 (i0+2)) i1)) 0)) (CV.int (f0 (Int.toNat (Int.tmod (w64 (i0+2)) i1)) 1))) =
  (k .ret (s62v5 (f0 i0.toNat 0).int (f0 i0.toNat 1).int (CV.int (f0 (Int.toNat (Int.tmod (w64 (i0+1)) i1)) 0)) (CV.int (f0 (Int.toNat (Int.tmod (w64 (i0+1)) i1)) 1)) (CV.int (f0 (Int.toNat (Int.tmod (w64 (i0+2)) i1)) 0)) (CV.int (f0 (Int.toNat (Int.tmod (w64 (i0+2)) i1)) 1)))):=by kernel_rfl
theorem g62v6 :
  (kBlk 2 (kBlk 1 (kSeq (C15 u) u (2 :: (rl 4 5 (rl 15 82 []))) A94v6 (kLoop (eB A94v8 (C15 u) u) N62v3 m k)))) (.exit 2) (s62v2 n0 f0 i0 i1 (f0 i1.toNat 0).int (f0 i1.toNat 1).int (CV.int (f0 (Int.toNat (Int.tmod (w64 (i1+1)) i0)) 0)) (CV.int (f0 (Int.toNat (Int.tmod (w64 (i1+1)) i0)) 1)) (CV.int (f0 (Int.toNat (Int.tmod (w64 (i1+2)) i0)) 0)) (CV.int (f0 (Int.toNat (Int.tmod (w64 (i1+2)) i0)) 1))) =
  (loopH (eB A94v8 (C15 u) u) N62v3 m (s62v3 n0 f0 i0 (w64 (i1+1))) k):=by kernel_rfl
theorem q62v3:∀ (m:Nat) (x0:Int),
  loopH (eB A94v8 (C15 u) u) N62v3 m (s62v3 n0 f0 i0 x0) k=L62v3 u n0 f0 i0 m x0 (fun x1 x2 x3 x4=>k .ret (s62v4 x1 x2 x3 x4)) (fun x5 x6 x7 x8 x9 xA=>k .ret (s62v5 x5 x6 x7 x8 x9 xA)) (k (.exit 0) s62v6)
 | 0,_=>rfl
 | m+1,x0=>by
  rw [r62v3]
  simp only [L62v3,q62v3 m,t62v1,g62v2,g62v3,t62v4,g62v5,g62v6]
def F62 (x0:Nat) (x1:FF):Option (Bool) :=
 (L62v3 u x0 x1 (Int.ofNat x0) u 0
  (fun x2 x3 x4 x5=>(some false))
  (fun x6 x7 x8 x9 xA xB=>(some false))
  (some true))
def s62v8:St:=⟨[.x (.c (ro kP n0 f0)),uu,vxb false,vxi (Int.ofNat n0),uu,uu,uu,uu,uu,.x (.c (ro kP n0 f0)),vxi (Int.ofNat n0),.x (.c (ro kP n0 f0)),vxi (Int.ofNat n0),vxi 0,uu,uu,uu,uu,uu,uu,uu,uu,uu,uu,uu,uu,uu,uu,uu,uu,uu,uu,uu,uu,uu,uu,uu,uu,uu,uu,uu,uu,uu,uu,uu,uu,uu,uu,uu,uu,uu,uu,uu,uu,uu,uu,uu,uu,uu,uu,uu,uu,uu,uu,uu,uu,uu,uu,uu,uu,uu,uu,uu,uu,uu,uu,uu,uu,uu,uu,uu,uu,uu,uu,uu,uu,uu,uu,uu,uu,uu,uu,uu,uu,uu,uu,uu,uu],[]⟩
theorem t62v7 :
  loopN (eB A94v8 (C15 u) u) N62v3 u (s62v8 n0 f0) k =
  L62v3 u n0 f0 (Int.ofNat n0) u 0 (fun x0 x1 x2 x3=>k .ret (s62v4 x0 x1 x2 x3)) (fun x4 x5 x6 x7 x8 x9=>k .ret (s62v5 x4 x5 x6 x7 x8 x9)) (k (.exit 0) s62v6) :=
 Eq.trans (loopN_at (by kernel_rfl)) (q62v3 ..)
theorem g62v8 :
  (kBlk 0 (kSeq (C15 u) u (2 :: (rl 4 5 (rl 11 87 []))) A94v9 (finish A94))) .ret (s62v4 i0 i1 i2 i3) =
  (some [.v (.b false)]):=by kernel_rfl
theorem g62v9 :
  (kBlk 0 (kSeq (C15 u) u (2 :: (rl 4 5 (rl 11 87 []))) A94v9 (finish A94))) .ret (s62v5 i0 i1 i2 i3 i4 i5) =
  (some [.v (.b false)]):=by kernel_rfl
theorem g62v10 :
  (kBlk 0 (kSeq (C15 u) u (2 :: (rl 4 5 (rl 11 87 []))) A94v9 (finish A94))) (.exit 0) s62v6 =
  (some [.v (.b true)]):=by kernel_rfl
theorem e62:evalF (C15 u) u A94 [.v (ro kP n0 f0)]=ob (F62 u n0 f0) fun t=>some [.v (.b t)]:=Eq.trans (b:=(loopN (eB A94v8 (C15 u) u) N62v3 u (s62v8 n0 f0) (kBlk 0 (kSeq (C15 u) u (2 :: (rl 4 5 (rl 11 87 []))) A94v9 (finish A94))))) (by kernel_rfl) (by
 simp only [F62,ob_bif,ob_ob,ob_none,ob_some,nl62v3,t62v7,g62v8,g62v9,g62v10])
def O62:Ora:=mkO (q1 (av (cL kP))) (fun x=>F62 u x.1 x.2) fun t=>[.v (.b t)]
theorem d62:DO (O62 u) (C15 u) 94 A94:=dO u (fun x=>by exact e62 u x.1 x.2)
def C16:Oracle:=(C15 u).add 94 (fun _=>true) (O62 u)
def B91:An tT Tryz.f91 [.k (rl 4 32 []),.h [],.k (1 :: 2 :: 4 :: 5 :: 6 :: (rl 10 27 [])),.k [],.k (0 :: 1 :: 2 :: (rl 4 33 [])),.k (0 :: 1 :: (rl 3 34 []))]:=by
 apply Subtype.mk;cbv<;>exact rfl
def A91:AF:=B91.1
def A91v3:AC:=sA A91.body [1,1,1]
def A91v2:AC:=sA A91.body [1,1,0,1,0,0]
def N63v1:St→Option St:=nN 0 (1 :: 2 :: 4 :: 5 :: 6 :: (rl 10 27 []))
def s63v0:St:=⟨(.x (.c (ro kP n0 f0)) :: .u :: .u :: vxi i0 :: (us 3 (.x (.c (ro kP n0 f0)) :: vxi i1 :: vxi i2 :: (us 27 [])))),[]⟩
def s63v1:St:=⟨(us 3 (vxi i0 :: (us 33 []))),[]⟩
def L63v1 {ρ:Type} (u:Nat) (x0:Nat) (x1:FF) (x2:Int):Nat→Int→Int→(Int→Option ρ)→Option ρ
 | 0,_,_,_=>none
 | m+1,x3,x4,k0 =>
  (bif (decide (x4<x2)) then (bif (inb x4 x0) then (bif ((Int.ofNat x0)==0) then none else (bif (inb (Int.tmod (w64 (x4+1)) (Int.ofNat x0)) x0) then (L63v1 u x0 x1 x2 m (w64 (x3+(w64 ((w64 ((x1 x4.toNat 0).int*(CV.int (x1 (Int.toNat (Int.tmod (w64 (x4+1)) (Int.ofNat x0))) 1))))-(w64 ((CV.int (x1 (Int.toNat (Int.tmod (w64 (x4+1)) (Int.ofNat x0))) 0))*(x1 x4.toNat 1).int)))))) (w64 (x4+1)) k0) else none)) else none) else (k0 x3))
theorem nl63v1:∀ (m:Nat) (x0 x1:Int) (k0:Int→Option ρ),ob (L63v1 u n0 f0 i0 m x0 x1 k0) ng=L63v1 u n0 f0 i0 m x0 x1 (fun x2=>ob (k0 x2) ng)
 | 0,_,_,_=>rfl
 | m+1,x0,x1,k0=>by
  simp only [L63v1,ob_bif,ob_ob,ob_none,nl63v1 m]
theorem q63v1:∀ (m:Nat) (x0 x1:Int),
  loopH (eB A91v2 (C16 u) u) N63v1 m (s63v0 n0 f0 x0 i0 x1) k=L63v1 u n0 f0 i0 m x0 x1 (fun x2=>k (.exit 0) (s63v1 x2))
 | 0,_,_=>rfl
 | m+1,x0,x1=>by
  simp only [L63v1,← q63v1 m]
  kernel_rfl
def F63 (x0:Nat) (x1:FF):Option (Int) :=
 (L63v1 u x0 x1 (Int.ofNat x0) u 0 0
  (fun x2=>(some x2)))
def s63v2:St:=⟨[.x (.c (ro kP n0 f0)),uu,vxi 0,vxi 0,uu,uu,uu,.x (.c (ro kP n0 f0)),vxi (Int.ofNat n0),vxi 0,uu,uu,uu,uu,uu,uu,uu,uu,uu,uu,uu,uu,uu,uu,uu,uu,uu,uu,uu,uu,uu,uu,uu,uu,uu,uu,uu],[]⟩
theorem t63v1 :
  loopN (eB A91v2 (C16 u) u) N63v1 u (s63v2 n0 f0) k =
  L63v1 u n0 f0 (Int.ofNat n0) u 0 0 (fun x0=>k (.exit 0) (s63v1 x0)) :=
 Eq.trans (loopN_at (by kernel_rfl)) (q63v1 ..)
theorem g63v2 :
  (kBlk 0 (kSeq (C16 u) u (rl 4 32 []) A91v3 (finish A91))) (.exit 0) (s63v1 i0) =
  (some [.v (vi i0)]):=by kernel_rfl
theorem e63:evalF (C16 u) u A91 [.v (ro kP n0 f0)]=ob (F63 u n0 f0) fun t=>some [.v (vi t)]:=Eq.trans (b:=(loopN (eB A91v2 (C16 u) u) N63v1 u (s63v2 n0 f0) (kBlk 0 (kSeq (C16 u) u (rl 4 32 []) A91v3 (finish A91))))) (by kernel_rfl) (by
 simp only [F63,ob_bif,ob_ob,ob_none,ob_some,nl63v1,t63v1,g63v2])
def O63:Ora:=mkO (q1 (av (cL kP))) (fun x=>F63 u x.1 x.2) fun t=>[.v (vi t)]
theorem d63:DO (O63 u) (C16 u) 91 A91:=dO u (fun x=>by exact e63 u x.1 x.2)
def C17:Oracle:=(C16 u).add 91 (fun _=>true) (O63 u)
def B72:An tT Tryz.f72 [.k (rl 2 21 []),.k (0 :: 1 :: (rl 3 20 [])),.k (0 :: 1 :: (rl 3 20 [])),.k (0 :: 1 :: (rl 3 20 [])),.k (0 :: 1 :: (rl 3 20 [])),.k (0 :: 1 :: (rl 3 20 []))]:=by
 apply Subtype.mk;cbv<;>exact rfl
def A72:AF:=B72.1
def F33 (x0:Nat) (x1:FF):Option (Int) :=
 (bif (decide ((Int.ofNat x0)<3)) then (some 3) else (bif (decide ((Int.ofNat x0)>32)) then (some 4) else (ob (F50 u x0 x1) fun x2=>(bif x2 then (some 9) else (ob (F62 u x0 x1) fun x3=>(bif ((!x3)==false) then (ob (F63 u x0 x1) fun x4=>(bif (x4==0) then (some 17) else (some 0))) else (some 17)))))))
theorem e33:evalF (C17 u) u A72 [.v (ro kP n0 f0)]=ob (F33 u n0 f0) fun t=>some [.v (vi t)]:=by
 simp only [F33,ob_bif,ob_ob,ob_none,ob_some]
 kernel_rfl
def O33:Ora:=mkO (q1 (av (cL kP))) (fun x=>F33 u x.1 x.2) fun t=>[.v (vi t)]
theorem d33:DO (O33 u) (C17 u) 72 A72:=dO u (fun x=>by exact e33 u x.1 x.2)
def C18:Oracle:=(C17 u).add 72 (fun _=>true) (O33 u)
def B67:An tT Tryz.f67 [.k (rl 2 4 []),.k (0 :: 1 :: (rl 3 5 [])),.k (0 :: 1 :: (rl 3 5 []))]:=by
 apply Subtype.mk;cbv<;>exact rfl
def A67:AF:=B67.1
def F34 (x0:Nat) (x1:FF):Option (Int) :=
 (ob (F33 u x0 x1) fun x2=>(bif (x2 != 0) then (some 0) else (ob (F63 u x0 x1) fun x3=>(some x3))))
theorem e34:evalF (C18 u) u A67 [.v (ro kP n0 f0)]=ob (F34 u n0 f0) fun t=>some [.v (vi t)]:=by
 simp only [F34,ob_bif,ob_ob,ob_none,ob_some]
 kernel_rfl
def O34:Ora:=mkO (q1 (av (cL kP))) (fun x=>F34 u x.1 x.2) fun t=>[.v (vi t)]
theorem d34:DO (O34 u) (C18 u) 67 A67:=dO u (fun x=>by exact e34 u x.1 x.2)
def C19:Oracle:=(C18 u).add 67 (fun _=>true) (O34 u)
def B98:An tT Tryz.f98 [.k (rl 0 6 (rl 7 23 []))]:=by
 apply Subtype.mk;cbv<;>exact rfl
def A98:AF:=B98.1
def F75 (u:Nat) (x0 x1 x2 x3 x4 x5:Int):Option (Int) :=
 (some (w64 ((w64 ((w64 (x2-x0))*(w64 (x5-x1))))-(w64 ((w64 (x3-x1))*(w64 (x4-x0)))))))
theorem e75:evalF (C19 u) u A98 [.agg [(vi i0),(vi i1)],.agg [(vi i2),(vi i3)],.agg [(vi i4),(vi i5)]]=ob (F75 u i0 i1 i2 i3 i4 i5) fun t=>some [.v (vi t)]:=by
 simp only [F75,ob_bif,ob_ob,ob_none,ob_some]
 kernel_rfl
def O75:Ora:=mkO (qc (ag (tc ci (t1 ci))) (qc (ag (tc ci (t1 ci))) (q1 (ag (tc ci (t1 ci)))))) (fun x=>F75 u x.1.1 x.1.2 x.2.1.1 x.2.1.2 x.2.2.1 x.2.2.2) fun t=>[.v (vi t)]
theorem d75:DO (O75 u) (C19 u) 98 A98:=dO u (fun x=>by exact e75 u x.1.1 x.1.2 x.2.1.1 x.2.1.2 x.2.2.1 x.2.2.2)
def C20:Oracle:=(C19 u).add 98 (fun _=>true) (O75 u)
def B97:An tT Tryz.f97 [.k [0,1,3,4,5]]:=by
 apply Subtype.mk;cbv<;>exact rfl
def A97:AF:=B97.1
def F74 (u:Nat) (x0:Int):Option (Int) :=
 (some (if 1<(if (-1)>x0 then (-1) else x0) then 1 else (if (-1)>x0 then (-1) else x0)))
theorem e74:evalF (C20 u) u A97 [.v (vi i0)]=ob (F74 u i0) fun t=>some [.v (vi t)]:=by
 simp only [F74,ob_bif,ob_ob,ob_none,ob_some]
 kernel_rfl
def O74:Ora:=mkO (q1 (av ci)) (fun x=>F74 u x) fun t=>[.v (vi t)]
theorem d74:DO (O74 u) (C20 u) 97 A97:=dO u (fun x=>by exact e74 u x)
def C21:Oracle:=(C20 u).add 97 (fun _=>true) (O74 u)
def B99:An tT Tryz.f99 [.k (rl 0 6 (rl 7 38 []))]:=by
 apply Subtype.mk;cbv<;>exact rfl
def A99:AF:=B99.1
def F76 (u:Nat) (x0 x1 x2 x3 x4 x5:Int):Option (Bool) :=
 (bif ((decide (x4≥(if x2<x0 then x2 else x0)))==true) then (bif ((decide (x4≤(if x2>x0 then x2 else x0)))==true) then (bif ((decide (x5≥(if x3<x1 then x3 else x1)))==true) then (some (decide (x5≤(if x3>x1 then x3 else x1)))) else (some false)) else (some false)) else (some false))
theorem e76:evalF (C21 u) u A99 [.agg [(vi i0),(vi i1)],.agg [(vi i2),(vi i3)],.agg [(vi i4),(vi i5)]]=ob (F76 u i0 i1 i2 i3 i4 i5) fun t=>some [.v (.b t)]:=by
 simp only [F76,ob_bif,ob_ob,ob_none,ob_some]
 kernel_rfl
def O76:Ora:=mkO (qc (ag (tc ci (t1 ci))) (qc (ag (tc ci (t1 ci))) (q1 (ag (tc ci (t1 ci)))))) (fun x=>F76 u x.1.1 x.1.2 x.2.1.1 x.2.1.2 x.2.2.1 x.2.2.2) fun t=>[.v (.b t)]
theorem d76:DO (O76 u) (C21 u) 99 A99:=dO u (fun x=>by exact e76 u x.1.1 x.1.2 x.2.1.1 x.2.1.2 x.2.2.1 x.2.2.2)
def C22:Oracle:=(C21 u).add 99 (fun _=>true) (O76 u)
def B79:An tT Tryz.f79 [.k (8 :: (rl 33 10 [])),.k (rl 0 8 (rl 9 72 [])),.k (rl 0 8 (rl 9 72 []))]:=by
 apply Subtype.mk;cbv<;>exact rfl
def A79:AF:=B79.1
def F56 (x0 x1 x2 x3 x4 x5 x6 x7:Int):Option (Bool) :=
 (ob (F75 u x0 x1 x2 x3 x4 x5) fun x8=>(ob (F74 u x8) fun x9=>(ob (F75 u x0 x1 x2 x3 x6 x7) fun xA=>(ob (F74 u xA) fun xB=>(ob (F75 u x4 x5 x6 x7 x0 x1) fun xC=>(ob (F74 u xC) fun xD=>(ob (F75 u x4 x5 x6 x7 x2 x3) fun xE=>(ob (F74 u xE) fun xF=>(bif ((decide ((w64 (x9*xB))<0))==true) then (bif (decide ((w64 (xD*xF))<0)) then (some true) else (bif ((x9==0)==true) then (ob (F76 u x0 x1 x2 x3 x4 x5) fun xG=>(bif (xG==false) then (bif ((xB==0)==true) then (ob (F76 u x0 x1 x2 x3 x6 x7) fun xH=>(bif (xH==false) then (bif ((xD==0)==true) then (ob (F76 u x4 x5 x6 x7 x0 x1) fun xI=>(bif (xI==false) then (bif ((xF==0)==true) then (ob (F76 u x4 x5 x6 x7 x2 x3) fun xJ=>(some xJ)) else (some false)) else (some true))) else (bif ((xF==0)==true) then (ob (F76 u x4 x5 x6 x7 x2 x3) fun xK=>(some xK)) else (some false))) else (some true))) else (bif ((xD==0)==true) then (ob (F76 u x4 x5 x6 x7 x0 x1) fun xL=>(bif (xL==false) then (bif ((xF==0)==true) then (ob (F76 u x4 x5 x6 x7 x2 x3) fun xM=>(some xM)) else (some false)) else (some true))) else (bif ((xF==0)==true) then (ob (F76 u x4 x5 x6 x7 x2 x3) fun xN=>(some xN)) else (some false)))) else (some true))) else (bif ((xB==0)==true) then (ob (F76 u x0 x1 x2 x3 x6 x7) fun xO=>(bif (xO==false) then (bif ((xD==0)==true) then (ob (F76 u x4 x5 x6 x7 x0 x1) fun xP=>(bif (xP==false) then (bif ((xF==0)==true) then (ob (F76 u x4 x5 x6 x7 x2 x3) fun xQ=>(some xQ)) else (some false)) else (some true))) else (bif ((xF==0)==true) then (ob (F76 u x4 x5 x6 x7 x2 x3) fun xR=>(some xR)) else (some false))) else (some true))) else (bif ((xD==0)==true) then (ob (F76 u x4 x5 x6 x7 x0 x1) fun xS=>(bif (xS==false) then (bif ((xF==0)==true) then (ob (F76 u x4 x5 x6 x7 x2 x3) fun xT=>(some xT)) else (some false)) else (some true))) else (bif ((xF==0)==true) then (ob (F76 u x4 x5 x6 x7 x2 x3) fun xU=>(some xU)) else (some false)))))) else (bif ((x9==0)==true) then (ob (F76 u x0 x1 x2 x3 x4 x5) fun xV=>(bif (xV==false) then (bif ((xB==0)==true) then (ob (F76 u x0 x1 x2 x3 x6 x7) fun xW=>(bif (xW==false) then (bif ((xD==0)==true) then (ob (F76 u x4 x5 x6 x7 x0 x1) fun xX=>(bif (xX==false) then (bif ((xF==0)==true) then (ob (F76 u x4 x5 x6 x7 x2 x3) fun xY=>(some xY)) else (some false)) else (some true))) else (bif ((xF==0)==true) then (ob (F76 u x4 x5 x6 x7 x2 x3) fun xZ=>(some xZ)) else (some false))) else (some true))) else (bif ((xD==0)==true) then (ob (F76 u x4 x5 x6 x7 x0 x1) fun xa=>(bif (xa==false) then (bif ((xF==0)==true) then (ob (F76 u x4 x5 x6 x7 x2 x3) fun xb=>(some xb)) else (some false)) else (some true))) else (bif ((xF==0)==true) then (ob (F76 u x4 x5 x6 x7 x2 x3) fun xc=>(some xc)) else (some false)))) else (some true))) else (bif ((xB==0)==true) then (ob (F76 u x0 x1 x2 x3 x6 x7) fun xd=>(bif (xd==false) then (bif ((xD==0)==true) then (ob (F76 u x4 x5 x6 x7 x0 x1) fun xe=>(bif (xe==false) then (bif ((xF==0)==true) then (ob (F76 u x4 x5 x6 x7 x2 x3) fun xf=>(some xf)) else (some false)) else (some true))) else (bif ((xF==0)==true) then (ob (F76 u x4 x5 x6 x7 x2 x3) fun xg=>(some xg)) else (some false))) else (some true))) else (bif ((xD==0)==true) then (ob (F76 u x4 x5 x6 x7 x0 x1) fun xh=>(bif (xh==false) then (bif ((xF==0)==true) then (ob (F76 u x4 x5 x6 x7 x2 x3) fun xi=>(some xi)) else (some false)) else (some true))) else (bif ((xF==0)==true) then (ob (F76 u x4 x5 x6 x7 x2 x3) fun xj=>(some xj)) else (some false))))))))))))))
theorem e56:evalF (C22 u) u A79 [.agg [(vi i0),(vi i1)],.agg [(vi i2),(vi i3)],.agg [(vi i4),(vi i5)],.agg [(vi i6),(vi i7)]]=ob (F56 u i0 i1 i2 i3 i4 i5 i6 i7) fun t=>some [.v (.b t)]:=by
 simp only [F56,ob_bif,ob_ob,ob_none,ob_some]
 kernel_rfl
def O56:Ora:=mkO (qc (ag (tc ci (t1 ci))) (qc (ag (tc ci (t1 ci))) (qc (ag (tc ci (t1 ci))) (q1 (ag (tc ci (t1 ci))))))) (fun x=>F56 u x.1.1 x.1.2 x.2.1.1 x.2.1.2 x.2.2.1.1 x.2.2.1.2 x.2.2.2.1 x.2.2.2.2) fun t=>[.v (.b t)]
theorem d56:DO (O56 u) (C22 u) 79 A79:=dO u (fun x=>by exact e56 u x.1.1 x.1.2 x.2.1.1 x.2.1.2 x.2.2.1.1 x.2.2.1.2 x.2.2.2.1 x.2.2.2.2)
def C23:Oracle:=(C22 u).add 79 (fun _=>true) (O56 u)
def A81v1:AC:=(.region 9 [o1 45 (bk .add 3 20 1),mv 20 45] 0 none)
def A81v2:AC:=(.seq (.block 3
 (.seq (.region 6 [mv 22 20,o1 23 (.indexAddr 49 42 2 (tm 18) (tm 20)),o1 24 (ln 42 2 23),o1 10 (.alloc 0 42 [vci 0,vci 0]),o1 9 (sg 22),o0 (.store 42 2 (tm 10) (tm 24))] 1 none) []
  (.seq (.region 7 [mv 25 2,o1 26 (ln 42 2 8),mv 27 0,mv 28 7,o1 29 (bk .add 3 28 1),mv 30 0,o1 31 (.len 49 false (tm 30)),o1 32 (bt .rem 3 29 31),o1 33 (.indexAddr 49 42 2 (tm 27) (tm 32)),o1 34 (ln 42 2 33),o1 35 (ln 42 2 10),mv 36 1,mv 37 9,o1 38 (bk .add 3 37 1),mv 39 1,o1 40 (.len 49 false (tm 39)),o1 41 (bt .rem 3 38 40),o1 42 (.indexAddr 49 42 2 (tm 36) (tm 41)),o1 43 (ln 42 2 42),o1 44 (.callv (tm 25) [(tm 26),(tm 34),(tm 35),(tm 43)] [42,42,42,42] .snap)] 0 (some [[],[],[],[],[3],[],[5],(rl 3 4 []),(rl 2 6 []),(rl 2 7 []),[],[],[],[12],[],[14],(rl 12 4 []),(rl 11 6 []),(rl 11 7 []),(rl 0 19 [])])) []
  (.cond (tm 44)
  (.seq (.region 8 [o1 6 (sb true)] 0 none) []
   (.ret (rl 0 6 (rl 7 40 []))))
  .skip)))) (6 :: 9 :: 10 :: (rl 22 23 []))
 A81v1)
def A81v3:AC:=(.seq (.region 5 [o1 21 (bt .lss 3 20 19)] 0 none) []
 (.seq (.cond (tm 21)
 .skip
 (.exit 2 (rl 3 8 (rl 14 33 [])))) []
 A81v2))
def A81v4:AC:=(.region 10 [o1 46 (bk .add 3 13 1),mv 13 46] 0 none)
def A81v5:AC:=(.seq (.block 1
 (.seq (.region 3 [mv 15 13,o1 16 (.indexAddr 49 42 2 (tm 11) (tm 13)),o1 17 (ln 42 2 16),o1 8 (.alloc 0 42 [vci 0,vci 0]),o1 7 (sg 15),o0 (.store 42 2 (tm 8) (tm 17))] 1 none) []
  (.seq (.region 4 [mv 18 1,o1 19 (.len 49 false (tm 18)),o1 20 (.move (ic 0))] 0 none) []
  (.block 2
  (.loop [] (rl 3 4 (9 :: 10 :: (rl 14 4 (rl 21 26 []))))
   A81v3))))) (rl 6 5 (rl 15 31 []))
 A81v4)
def A81v6:AC:=(.seq (.region 2 [o1 14 (bt .lss 3 13 12)] 0 none) []
 (.seq (.cond (tm 14)
 .skip
 (.exit 0 (rl 0 47 []))) []
 A81v5))
def A81v7:AC:=(.seq (.region 11 [o1 6 (sb false)] 0 none) []
 (.ret (rl 0 6 (rl 7 40 []))))
def A81:AF:=⟨47,[.tmp 6],
 (.seq (.region 0 [o1 6 (sb false)] 0 none) []
 (.seq (.seq (.region 1 [mv 11 0,o1 12 (.len 49 false (tm 11)),o1 13 (.move (ic 0))] 0 none) []
 (.block 0
 (.loop [] (rl 3 8 (rl 14 33 []))
  A81v6))) (rl 6 41 [])
 A81v7))⟩
def N58v2:St→Option St:=nN 1 (rl 3 4 (9 :: 10 :: (rl 14 4 (rl 21 26 []))))
def s58v0:St:=⟨(.x (.c (ro kP n0 f0)) :: .x (.c (ro kP n1 f1)) :: .x (.c (.fn 79 0 (listF []))) :: (us 4 (vxi i0 :: .x (.ptr 0 0) :: .u :: .u :: .x (.c (ro kP n0 f0)) :: vxi i1 :: vxi i0 :: (us 4 (.x (.c (ro kP n1 f1)) :: vxi i2 :: vxi i3 :: (us 26 [])))))),[.box [(vci i4),(vci i5)]]⟩
def s58v1:St:=⟨(us 6 (vxb true :: (us 40 []))),[.box [(vci i0),(vci i1)],.box [(vci i2),(vci i3)]]⟩
def s58v2:St:=⟨(.x (.c (ro kP n0 f0)) :: .x (.c (ro kP n1 f1)) :: .x (.c (.fn 79 0 (listF []))) :: (us 8 (.x (.c (ro kP n0 f0)) :: vxi i0 :: vxi i1 :: (us 33 [])))),[.box [(vci i2),(vci i3)]]⟩
def L58v2 {ρ:Type} (u:Nat) (x0:Nat) (x1:FF) (x2:Nat) (x3:FF) (x4 x5 x6 x7 x8:Int):Nat→Int→(Int→Int→Option ρ)→(Option ρ)→Option ρ
 | 0,_,_,_=>none
 | m+1,x9,k0,k1 =>
  (bif (decide (x9<x6)) then (bif (inb x9 x2) then (bif ((Int.ofNat x0)==0) then none else (bif (inb (Int.tmod (w64 (x4+1)) (Int.ofNat x0)) x0) then (bif ((Int.ofNat x2)==0) then none else (bif (inb (Int.tmod (w64 (x9+1)) (Int.ofNat x2)) x2) then (ob (F56 u x7 x8 (CV.int (x1 (Int.toNat (Int.tmod (w64 (x4+1)) (Int.ofNat x0))) 0)) (CV.int (x1 (Int.toNat (Int.tmod (w64 (x4+1)) (Int.ofNat x0))) 1)) (x3 x9.toNat 0).int (x3 x9.toNat 1).int (CV.int (x3 (Int.toNat (Int.tmod (w64 (x9+1)) (Int.ofNat x2))) 0)) (CV.int (x3 (Int.toNat (Int.tmod (w64 (x9+1)) (Int.ofNat x2))) 1))) fun xA=>(bif xA then (k0 (x3 x9.toNat 0).int (x3 x9.toNat 1).int) else (L58v2 u x0 x1 x2 x3 x4 x5 x6 x7 x8 m (w64 (x9+1)) k0 k1))) else none)) else none)) else none) else k1)
theorem nl58v2:∀ (m:Nat) (x0:Int) (k0:Int→Int→Option ρ) (k1:Option ρ),ob (L58v2 u n0 f0 n1 f1 i0 i1 i2 i3 i4 m x0 k0 k1) ng=L58v2 u n0 f0 n1 f1 i0 i1 i2 i3 i4 m x0 (fun x1 x2=>ob (k0 x1 x2) ng) (ob k1 ng)
 | 0,_,_,_=>rfl
 | m+1,x0,k0,k1=>by
  simp only [L58v2,ob_bif,ob_ob,ob_none,nl58v2 m]
theorem q58v2:∀ (m:Nat) (x0:Int),
  loopH (eB A81v3 (C23 u) u) N58v2 m (s58v0 n0 n1 f0 f1 i0 i1 i2 x0 i3 i4) k=L58v2 u n0 f0 n1 f1 i0 i1 i2 i3 i4 m x0 (fun x1 x2=>k .ret (s58v1 i3 i4 x1 x2)) (k (.exit 2) (s58v2 n0 n1 f0 f1 i1 i0 i3 i4))
 | 0,_=>rfl
 | m+1,x0=>by
  simp only [L58v2,← q58v2 m]
  kernel_rfl
def N58v3:St→Option St:=nN 0 (rl 3 8 (rl 14 33 []))
def s58v3:St:=⟨(.x (.c (ro kP n0 f0)) :: .x (.c (ro kP n1 f1)) :: .x (.c (.fn 79 0 (listF []))) :: (us 8 (.x (.c (ro kP n0 f0)) :: vxi i0 :: vxi i1 :: (us 33 [])))),[]⟩
def s58v4:St:=⟨(us 6 (vxb true :: (us 40 []))),[.box [(vci i0),(vci i1)],.box [(vci i2),(vci i3)]]⟩
def s58v5:St:=⟨(us 47 []),[]⟩
def L58v3 {ρ:Type} (u:Nat) (x0:Nat) (x1:FF) (x2:Nat) (x3:FF) (x4:Int):Nat→Int→(Int→Int→Int→Int→Option ρ)→(Option ρ)→Option ρ
 | 0,_,_,_=>none
 | m+1,x5,k0,k1 =>
  (bif (decide (x5<x4)) then (bif (inb x5 x0) then (L58v2 u x0 x1 x2 x3 x5 x4 (Int.ofNat x2) (x1 x5.toNat 0).int (x1 x5.toNat 1).int u 0
  (fun x6 x7=>(k0 (x1 x5.toNat 0).int (x1 x5.toNat 1).int x6 x7))
  (L58v3 u x0 x1 x2 x3 x4 m (w64 (x5+1)) k0 k1)) else none) else k1)
theorem nl58v3:∀ (m:Nat) (x0:Int) (k0:Int→Int→Int→Int→Option ρ) (k1:Option ρ),ob (L58v3 u n0 f0 n1 f1 i0 m x0 k0 k1) ng=L58v3 u n0 f0 n1 f1 i0 m x0 (fun x1 x2 x3 x4=>ob (k0 x1 x2 x3 x4) ng) (ob k1 ng)
 | 0,_,_,_=>rfl
 | m+1,x0,k0,k1=>by
  simp only [L58v3,ob_bif,ob_ob,ob_none,nl58v3 m,nl58v2]
def s58v6:St:=⟨(.x (.c (ro kP n0 f0)) :: .x (.c (ro kP n1 f1)) :: .x (.c (.fn 79 0 (listF []))) :: (us 4 (vxi i0 :: .x (.ptr 0 0) :: .u :: .u :: .x (.c (ro kP n0 f0)) :: vxi i1 :: vxi i0 :: vxb true :: vxi i0 :: .x (.c (.rp kP (f0 i0.toNat))) :: .agg [(vci (f0 i0.toNat 0).int),(vci (f0 i0.toNat 1).int)] :: .x (.c (ro kP n1 f1)) :: vxi (Int.ofNat n1) :: vxi 0 :: (us 26 [])))),[.box [(vci (f0 i0.toNat 0).int),(vci (f0 i0.toNat 1).int)]]⟩
theorem r58v3 :
  loopH (eB A81v6 (C23 u) u) N58v3 (m+1) (s58v3 n0 n1 f0 f1 i0 i1) k =
  (bif (decide (i1<i0)) then (bif (inb i1 n0) then (loopN (eB A81v3 (C23 u) u) N58v2 u (s58v6 n0 n1 f0 f1 i1 i0) (kBlk 2 (kBlk 1 (kSeq (C23 u) u (rl 6 5 (rl 15 31 [])) A81v4 (kLoop (eB A81v6 (C23 u) u) N58v3 m k))))) else none) else (k (.exit 0) s58v5)):=by kernel_rfl
theorem t58v1 :
  loopN (eB A81v3 (C23 u) u) N58v2 u (s58v6 n0 n1 f0 f1 i0 i1) k =
  L58v2 u n0 f0 n1 f1 i0 i1 (Int.ofNat n1) (f0 i0.toNat 0).int (f0 i0.toNat 1).int u 0 (fun x0 x1=>k .ret (s58v1 (f0 i0.toNat 0).int (f0 i0.toNat 1).int x0 x1)) (k (.exit 2) (s58v2 n0 n1 f0 f1 i1 i0 (f0 i0.toNat 0).int (f0 i0.toNat 1).int)) :=
 Eq.trans (loopN_at (by kernel_rfl)) (q58v2 ..)
theorem g58v2 :
  (kBlk 2 (kBlk 1 (kSeq (C23 u) u (rl 6 5 (rl 15 31 [])) A81v4 (kLoop (eB A81v6 (C23 u) u) N58v3 m k)))) .ret (s58v1 (f0 i0.toNat 0).int (f0 i0.toNat 1).int i1 i2) =
  (k .ret (s58v4 (f0 i0.toNat 0).int (f0 i0.toNat 1).int i1 i2)):=by kernel_rfl
theorem g58v3 :
  (kBlk 2 (kBlk 1 (kSeq (C23 u) u (rl 6 5 (rl 15 31 [])) A81v4 (kLoop (eB A81v6 (C23 u) u) N58v3 m k)))) (.exit 2) (s58v2 n0 n1 f0 f1 i0 i1 (f0 i1.toNat 0).int (f0 i1.toNat 1).int) =
  (loopH (eB A81v6 (C23 u) u) N58v3 m (s58v3 n0 n1 f0 f1 i0 (w64 (i1+1))) k):=by kernel_rfl
theorem q58v3:∀ (m:Nat) (x0:Int),
  loopH (eB A81v6 (C23 u) u) N58v3 m (s58v3 n0 n1 f0 f1 i0 x0) k=L58v3 u n0 f0 n1 f1 i0 m x0 (fun x1 x2 x3 x4=>k .ret (s58v4 x1 x2 x3 x4)) (k (.exit 0) s58v5)
 | 0,_=>rfl
 | m+1,x0=>by
  rw [r58v3]
  simp only [L58v3,q58v3 m,t58v1,g58v2,g58v3]
def F58 (x0:Nat) (x1:FF) (x2:Nat) (x3:FF):Option (Bool) :=
 (L58v3 u x0 x1 x2 x3 (Int.ofNat x0) u 0
  (fun x4 x5 x6 x7=>(some true))
  (some false))
def s58v7:St:=⟨[.x (.c (ro kP n0 f0)),.x (.c (ro kP n1 f1)),.x (.c (.fn 79 0 (listF []))),uu,uu,uu,vxb false,uu,uu,uu,uu,.x (.c (ro kP n0 f0)),vxi (Int.ofNat n0),vxi 0,uu,uu,uu,uu,uu,uu,uu,uu,uu,uu,uu,uu,uu,uu,uu,uu,uu,uu,uu,uu,uu,uu,uu,uu,uu,uu,uu,uu,uu,uu,uu,uu,uu],[]⟩
theorem t58v4 :
  loopN (eB A81v6 (C23 u) u) N58v3 u (s58v7 n0 n1 f0 f1) k =
  L58v3 u n0 f0 n1 f1 (Int.ofNat n0) u 0 (fun x0 x1 x2 x3=>k .ret (s58v4 x0 x1 x2 x3)) (k (.exit 0) s58v5) :=
 Eq.trans (loopN_at (by kernel_rfl)) (q58v3 ..)
theorem g58v5 :
  (kBlk 0 (kSeq (C23 u) u (rl 6 41 []) A81v7 (finish A81))) .ret (s58v4 i0 i1 i2 i3) =
  (some [.v (.b true)]):=by kernel_rfl
theorem g58v6 :
  (kBlk 0 (kSeq (C23 u) u (rl 6 41 []) A81v7 (finish A81))) (.exit 0) s58v5 =
  (some [.v (.b false)]):=by kernel_rfl
theorem e58:evalF (C23 u) u A81 [.v (ro kP n0 f0),.v (ro kP n1 f1),.v (.fn 79 0 (listF []))]=ob (F58 u n0 f0 n1 f1) fun t=>some [.v (.b t)]:=Eq.trans (b:=(loopN (eB A81v6 (C23 u) u) N58v3 u (s58v7 n0 n1 f0 f1) (kBlk 0 (kSeq (C23 u) u (rl 6 41 []) A81v7 (finish A81))))) (by kernel_rfl) (by
 simp only [F58,ob_bif,ob_ob,ob_none,ob_some,nl58v3,t58v4,g58v5,g58v6])
def O58:Ora:=mkO (qc (av (cL kP)) (qc (av (cL kP)) (q1 (av (cF 79 0 t0))))) (fun x=>F58 u x.1.1 x.1.2 x.2.1.1 x.2.1.2) fun t=>[.v (.b t)]
theorem d58:DO (O58 u) (C23 u) 81 A81:=dO u (fun x=>by exact e58 u x.1.1 x.2.1.1 x.1.2 x.2.1.2)
def C24:Oracle:=(C23 u).add 81 (fun l=>isFn 79 l 2) (O58 u)
def B96:An tT Tryz.f96 [.k (4 :: (rl 10 7 [])),.k (rl 0 4 (rl 5 58 [])),.k (4 :: (rl 6 4 (rl 17 45 []))),.h [],.k (1 :: 2 :: 4 :: (rl 6 11 (rl 20 43 []))),.k [],.k (rl 0 5 (rl 6 57 [])),.k (4 :: (rl 6 4 (rl 21 40 []))),.k (4 :: (rl 32 4 [])),.k (rl 0 4 (rl 5 58 [])),.k (rl 36 11 []),.k (1 :: 2 :: 4 :: (rl 6 11 (rl 20 43 []))),.k [4,62],.k (rl 0 4 (rl 5 58 [])),.k (rl 0 4 (rl 5 58 []))]:=by
 apply Subtype.mk;cbv<;>exact rfl
def A96:AF:=B96.1
def A96v8:AC:=sA A96.body [1,1]
def A96v7:AC:=sA A96v8 [1,1]
def A96v5:AC:=sA A96v8 [1,0,1,0,0]
def N65v1:St→Option St:=nN 1 (1 :: 2 :: 4 :: (rl 6 11 (rl 20 43 [])))
def s65v0:St:=⟨(.x (.c (ro kP n0 f0)) :: .u :: .u :: .x (.ptr 0 0) :: .u :: vxb b0 :: (us 11 (.x (.c (ro kP n0 f0)) :: vxi i0 :: vxi i1 :: (us 43 [])))),[.box [(vci i2),(vci i3)]]⟩
def s65v1:St:=⟨(us 4 (vxi 0 :: (us 58 []))),[.box [(vci i0),(vci i1)],.box [(vci i2),(vci i3)],.box [(vci i4),(vci i5)]]⟩
def s65v2:St:=⟨(us 5 (vxb b0 :: (us 57 []))),[.box [(vci i0),(vci i1)]]⟩
def L65v1 {ρ:Type} (u:Nat) (x0:Nat) (x1:FF) (x2 x3 x4:Int):Nat→Bool→Int→(Int→Int→Int→Int→Option ρ)→(Bool→Option ρ)→Option ρ
 | 0,_,_,_,_=>none
 | m+1,x5,x6,k0,k1 =>
  (bif (decide (x6<x2)) then (bif (inb x6 x0) then (bif ((Int.ofNat x0)==0) then none else (bif (inb (Int.tmod (w64 (x6+1)) (Int.ofNat x0)) x0) then (ob (F81 u (x1 x6.toNat 0).int (x1 x6.toNat 1).int (CV.int (x1 (Int.toNat (Int.tmod (w64 (x6+1)) (Int.ofNat x0))) 0)) (CV.int (x1 (Int.toNat (Int.tmod (w64 (x6+1)) (Int.ofNat x0))) 1)) x3 x4) fun x7=>(bif x7 then (k0 (x1 x6.toNat 0).int (x1 x6.toNat 1).int (CV.int (x1 (Int.toNat (Int.tmod (w64 (x6+1)) (Int.ofNat x0))) 0)) (CV.int (x1 (Int.toNat (Int.tmod (w64 (x6+1)) (Int.ofNat x0))) 1))) else (bif ((decide ((x1 x6.toNat 1).int>x4))==(decide ((CV.int (x1 (Int.toNat (Int.tmod (w64 (x6+1)) (Int.ofNat x0))) 1))>x4))) then (L65v1 u x0 x1 x2 x3 x4 m x5 (w64 (x6+1)) k0 k1) else (ob (F79 u (x1 x6.toNat 0).int (x1 x6.toNat 1).int (CV.int (x1 (Int.toNat (Int.tmod (w64 (x6+1)) (Int.ofNat x0))) 0)) (CV.int (x1 (Int.toNat (Int.tmod (w64 (x6+1)) (Int.ofNat x0))) 1)) x3 x4) fun x8=>(bif ((decide (x8>0))==(decide ((CV.int (x1 (Int.toNat (Int.tmod (w64 (x6+1)) (Int.ofNat x0))) 1))>(x1 x6.toNat 1).int))) then (L65v1 u x0 x1 x2 x3 x4 m (!x5) (w64 (x6+1)) k0 k1) else (L65v1 u x0 x1 x2 x3 x4 m x5 (w64 (x6+1)) k0 k1)))))) else none)) else none) else (k1 x5))
theorem nl65v1:∀ (m:Nat) (x0:Bool) (x1:Int) (k0:Int→Int→Int→Int→Option ρ) (k1:Bool→Option ρ),ob (L65v1 u n0 f0 i0 i1 i2 m x0 x1 k0 k1) ng=L65v1 u n0 f0 i0 i1 i2 m x0 x1 (fun x2 x3 x4 x5=>ob (k0 x2 x3 x4 x5) ng) (fun x6=>ob (k1 x6) ng)
 | 0,_,_,_,_=>rfl
 | m+1,x0,x1,k0,k1=>by
  simp only [L65v1,ob_bif,ob_ob,ob_none,nl65v1 m]
theorem q65v1:∀ (m:Nat) (x0:Bool) (x1:Int),
  loopH (eB A96v5 (C24 u) u) N65v1 m (s65v0 n0 f0 i0 x1 i1 i2 x0) k=L65v1 u n0 f0 i0 i1 i2 m x0 x1 (fun x2 x3 x4 x5=>k .ret (s65v1 i1 i2 x2 x3 x4 x5)) (fun x6=>k (.exit 0) (s65v2 i1 i2 x6))
 | 0,_,_=>rfl
 | m+1,x0,x1=>by
  simp only [L65v1,← q65v1 m]
  kernel_rfl
def F65 (x0:Nat) (x1:FF) (x2 x3:Int):Option (Int) :=
 (ob (F61 u x2 x3) fun x4=>(bif (x4==false) then (ob (F33 u x0 x1) fun x5=>(bif (x5 != 0) then (some (-1)) else (L65v1 u x0 x1 (Int.ofNat x0) x2 x3 u false 0
  (fun x6 x7 x8 x9=>(some 0))
  (fun xA=>(bif xA then (some 1) else (some (-1))))))) else (some (-1))))
def s65v3:St:=⟨(.x (.c (ro kP n0 f0)) :: .agg [(vci i0),(vci i1)] :: uu :: .x (.ptr 0 0) :: .u :: vxb false :: uu :: uu :: uu :: uu :: (us 7 [.x (.c (ro kP n0 f0)),vxi (Int.ofNat n0),vxi 0,uu,uu,uu,uu,uu,uu,uu,uu,uu,uu,uu,uu,uu,uu,uu,uu,uu,uu,uu,uu,uu,uu,uu,uu,uu,uu,uu,uu,uu,uu,uu,uu,uu,uu,uu,uu,uu,uu,uu,uu,uu,uu,uu])),[.box [(vci i0),(vci i1)]]⟩
theorem t65v1 :
  loopN (eB A96v5 (C24 u) u) N65v1 u (s65v3 n0 f0 i0 i1) k =
  L65v1 u n0 f0 (Int.ofNat n0) i0 i1 u false 0 (fun x0 x1 x2 x3=>k .ret (s65v1 i0 i1 x0 x1 x2 x3)) (fun x4=>k (.exit 0) (s65v2 i0 i1 x4)) :=
 Eq.trans (loopN_at (by kernel_rfl)) (q65v1 ..)
theorem g65v2 :
  (kBlk 0 (kSeq (C24 u) u (4 :: (rl 6 4 (rl 17 45 []))) A96v7 (finish A96))) .ret (s65v1 i0 i1 i2 i3 i4 i5) =
  (some [.v (vi 0)]):=by kernel_rfl
theorem g65v3 :
  (kBlk 0 (kSeq (C24 u) u (4 :: (rl 6 4 (rl 17 45 []))) A96v7 (finish A96))) (.exit 0) (s65v2 i0 i1 b0) =
  (bif b0 then (some [.v (vi 1)]) else (some [.v (vi (-1))])):=by kernel_rfl
theorem e65:evalF (C24 u) u A96 [.v (ro kP n0 f0),.agg [(vi i0),(vi i1)]]=ob (F65 u n0 f0 i0 i1) fun t=>some [.v (vi t)]:=Eq.trans (b:=(ob (F61 u i0 i1) fun x0=>(bif (x0==false) then (ob (F33 u n0 f0) fun x1=>(bif (x1 != 0) then (some [.v (vi (-1))]) else (loopN (eB A96v5 (C24 u) u) N65v1 u (s65v3 n0 f0 i0 i1) (kBlk 0 (kSeq (C24 u) u (4 :: (rl 6 4 (rl 17 45 []))) A96v7 (finish A96)))))) else (some [.v (vi (-1))])))) (by kernel_rfl) (by
 simp only [F65,ob_bif,ob_ob,ob_none,ob_some,nl65v1,t65v1,g65v2,g65v3])
def O65:Ora:=mkO (qc (av (cL kP)) (q1 (ag (tc ci (t1 ci))))) (fun x=>F65 u x.1.1 x.1.2 x.2.1 x.2.2) fun t=>[.v (vi t)]
theorem d65:DO (O65 u) (C24 u) 96 A96:=dO u (fun x=>by exact e65 u x.1.1 x.1.2 x.2.1 x.2.2)
def C25:Oracle:=(C24 u).add 96 (fun _=>true) (O65 u)
def B95:An tT Tryz.f95 [.k (0 :: 1 :: 2 :: (rl 4 4 []))]:=by
 apply Subtype.mk;cbv<;>exact rfl
def A95:AF:=B95.1
def F64 (x0 x1:Int) (x2:Nat→CV):Option (Bool) :=
 (ob (F65 u (x2 0).len (x2 0).el x0 x1) fun x3=>(some (x3 != 1)))
theorem e64:evalF (C25 u) u A95 [.agg [(vi i0),(vi i1)],.v (.rp kF g0)]=ob (F64 u i0 i1 g0) fun t=>some [.v (.b t)]:=by
 simp only [F64,ob_bif,ob_ob,ob_none,ob_some]
 kernel_rfl
def O64:Ora:=mkO (qc (ag (tc ci (t1 ci))) (q1 (av (cP kF)))) (fun x=>F64 u x.1.1 x.1.2 x.2) fun t=>[.v (.b t)]
theorem d64:DO (O64 u) (C25 u) 95 A95:=dO u (fun x=>by exact e64 u x.1.1 x.1.2 x.2)
def C26:Oracle:=(C25 u).add 95 (fun _=>true) (O64 u)
def N73bv1:St→Option St:=nN 0 (rl 2 5 (rl 9 10 []))
def s73bv0:St:=⟨(.x (.c (ro kP n0 f0)) :: .x (.c (.fn 95 1 (listF [(.rp kF g0)]))) :: (us 5 (vxi i0 :: vxi i1 :: (us 10 [])))),[]⟩
def s73bv1:St:=⟨(us 4 (vxi i0 :: (us 14 []))),[]⟩
def s73bv2:St:=⟨(us 19 []),[]⟩
def L73bv1 {ρ:Type} (u:Nat) (x0:Nat) (x1:FF) (x2:Nat→CV) (x3:Int):Nat→Int→(Int→Option ρ)→(Option ρ)→Option ρ
 | 0,_,_,_=>none
 | m+1,x4,k0,k1 =>
  (bif (decide (x4<x3)) then (bif (inb x4 x0) then (ob (F64 u (x1 x4.toNat 0).int (x1 x4.toNat 1).int x2) fun x5=>(bif x5 then (k0 x4) else (L73bv1 u x0 x1 x2 x3 m (w64 (x4+1)) k0 k1))) else none) else k1)
theorem nl73bv1:∀ (m:Nat) (x0:Int) (k0:Int→Option ρ) (k1:Option ρ),ob (L73bv1 u n0 f0 g0 i0 m x0 k0 k1) ng=L73bv1 u n0 f0 g0 i0 m x0 (fun x1=>ob (k0 x1) ng) (ob k1 ng)
 | 0,_,_,_=>rfl
 | m+1,x0,k0,k1=>by
  simp only [L73bv1,ob_bif,ob_ob,ob_none,nl73bv1 m]
theorem q73bv1:∀ (m:Nat) (x0:Int),
  loopH (eB A92v3 (C26 u) u) N73bv1 m (s73bv0 n0 f0 i0 x0 g0) k=L73bv1 u n0 f0 g0 i0 m x0 (fun x1=>k .ret (s73bv1 x1)) (k (.exit 0) s73bv2)
 | 0,_=>rfl
 | m+1,x0=>by
  simp only [L73bv1,← q73bv1 m]
  kernel_rfl
def F73b (x0:Nat) (x1:FF) (x2:Nat→CV):Option (Int) :=
 (L73bv1 u x0 x1 x2 (Int.ofNat x0) u 0
  (fun x3=>(some x3))
  (some (-1)))
def s73bv3:St:=⟨[.x (.c (ro kP n0 f0)),.x (.c (.fn 95 1 (listF [(.rp kF g0)]))),uu,uu,vxi 0,uu,.x (.c (ro kP n0 f0)),vxi (Int.ofNat n0),vxi 0,uu,uu,uu,uu,uu,uu,uu,uu,uu,uu],[]⟩
theorem t73bv1 :
  loopN (eB A92v3 (C26 u) u) N73bv1 u (s73bv3 n0 f0 g0) k =
  L73bv1 u n0 f0 g0 (Int.ofNat n0) u 0 (fun x0=>k .ret (s73bv1 x0)) (k (.exit 0) s73bv2) :=
 Eq.trans (loopN_at (by kernel_rfl)) (q73bv1 ..)
theorem g73bv2 :
  (kBlk 0 (kSeq (C26 u) u (rl 4 15 []) A92v4 (finish A92))) .ret (s73bv1 i0) =
  (some [.v (vi i0)]):=by kernel_rfl
theorem g73bv3 :
  (kBlk 0 (kSeq (C26 u) u (rl 4 15 []) A92v4 (finish A92))) (.exit 0) s73bv2 =
  (some [.v (vi (-1))]):=by kernel_rfl
theorem e73b:evalF (C26 u) u A92 [.v (ro kP n0 f0),.v (.fn 95 1 (listF [(.rp kF g0)]))]=ob (F73b u n0 f0 g0) fun t=>some [.v (vi t)]:=Eq.trans (b:=(loopN (eB A92v3 (C26 u) u) N73bv1 u (s73bv3 n0 f0 g0) (kBlk 0 (kSeq (C26 u) u (rl 4 15 []) A92v4 (finish A92))))) (by kernel_rfl) (by
 simp only [F73b,ob_bif,ob_ob,ob_none,ob_some,nl73bv1,t73bv1,g73bv2,g73bv3])
def O73b:Ora:=mkO (qc (av (cL kP)) (q1 (av (cF 95 1 (t1 (cP kF)))))) (fun x=>F73b u x.1.1 x.1.2 x.2) fun t=>[.v (vi t)]
theorem d73b:DO (O73b u) (C26 u) 92 A92:=dO u (fun x=>by exact e73b u x.1.1 x.1.2 x.2)
def C27:Oracle:=(C26 u).add 92 (fun l=>isFn 95 l 1) (O73b u)
def F50b (x0:Nat) (x1:FF) (x2:Nat→CV):Option (Bool) :=
 (ob (F73b u x0 x1 x2) fun x3=>(some (decide (x3≥0))))
theorem e50b:evalF (C27 u) u A69 [.v (ro kP n0 f0),.v (.fn 95 1 (listF [(.rp kF g0)]))]=ob (F50b u n0 f0 g0) fun t=>some [.v (.b t)]:=by
 simp only [F50b,ob_bif,ob_ob,ob_none,ob_some]
 kernel_rfl
def O50b:Ora:=mkO (qc (av (cL kP)) (q1 (av (cF 95 1 (t1 (cP kF)))))) (fun x=>F50b u x.1.1 x.1.2 x.2) fun t=>[.v (.b t)]
theorem d50b:DO (O50b u) (C27 u) 69 A69:=dO u (fun x=>by exact e50b u x.1.1 x.1.2 x.2)
def C28:Oracle:=(C27 u).add 69 (fun l=>isFn 95 l 1) (O50b u)
def B73:An tT Tryz.f73 [.k (rl 0 4 (rl 5 10 []))]:=by
 apply Subtype.mk;cbv<;>exact rfl
def A73:AF:=B73.1
def F35 (x0:Nat) (x1:FF) (x2:Nat) (x3:FF):Option (Bool) :=
 (ob (F58 u x0 x1 x2 x3) fun x4=>(bif ((!x4)==true) then (ob (F50b u x0 x1 (listF [(.ro false (.pr (.int .i64) (.pr (.int .i64) .nil)) x2 x3)])) fun x5=>(some (!x5))) else (some false)))
theorem e35:evalF (C28 u) u A73 [.v (ro kP n0 f0),.v (ro kP n1 f1)]=ob (F35 u n0 f0 n1 f1) fun t=>some [.v (.b t)]:=by
 simp only [F35,ob_bif,ob_ob,ob_none,ob_some]
 kernel_rfl
def O35:Ora:=mkO (qc (av (cL kP)) (q1 (av (cL kP)))) (fun x=>F35 u x.1.1 x.1.2 x.2.1 x.2.2) fun t=>[.v (.b t)]
theorem d35:DO (O35 u) (C28 u) 73 A73:=dO u (fun x=>by exact e35 u x.1.1 x.2.1 x.1.2 x.2.2)
def C29:Oracle:=(C28 u).add 73 (fun _=>true) (O35 u)
def B74:An tT Tryz.f74 [.k (rl 0 4 (rl 5 20 []))]:=by
 apply Subtype.mk;cbv<;>exact rfl
def A74:AF:=B74.1
def F36 (x0:Nat) (x1:FF) (x2:Nat) (x3:FF):Option (Bool) :=
 (ob (F58 u x0 x1 x2 x3) fun x4=>(bif ((!x4)==true) then (bif (inb 0 x2) then (ob (F65 u x0 x1 (x3 0 0).int (x3 0 1).int) fun x5=>(bif ((decide (x5<0))==true) then (bif (inb 0 x0) then (ob (F65 u x2 x3 (x1 0 0).int (x1 0 1).int) fun x6=>(some (decide (x6<0)))) else none) else (some false))) else none) else (some false)))
theorem e36:evalF (C29 u) u A74 [.v (ro kP n0 f0),.v (ro kP n1 f1)]=ob (F36 u n0 f0 n1 f1) fun t=>some [.v (.b t)]:=by
 simp only [F36,ob_bif,ob_ob,ob_none,ob_some]
 kernel_rfl
def O36:Ora:=mkO (qc (av (cL kP)) (q1 (av (cL kP)))) (fun x=>F36 u x.1.1 x.1.2 x.2.1 x.2.2) fun t=>[.v (.b t)]
theorem d36:DO (O36 u) (C29 u) 74 A74:=dO u (fun x=>by exact e36 u x.1.1 x.2.1 x.1.2 x.2.2)
def C30:Oracle:=(C29 u).add 74 (fun _=>true) (O36 u)
def B46:An tT Tryz.f46 [.k (2 :: (rl 9 4 [])),.k (0 :: 1 :: (rl 3 58 [])),.k (2 :: 3 :: (rl 13 6 [])),.k (0 :: 1 :: (rl 3 58 [])),.k (2 :: (rl 19 4 [])),.k (0 :: 1 :: (rl 3 58 [])),.k (2 :: 4 :: 5 :: 6 :: 8 :: (rl 23 38 [])),.h [],.k (0 :: (rl 2 22 (rl 27 34 []))),.k [],.k (rl 0 61 []),.k (2 :: 4 :: 5 :: 6 :: 8 :: (rl 28 32 [])),.k (2 :: 6 :: (rl 31 5 [])),.k (0 :: 1 :: (rl 3 58 [])),.k (2 :: (rl 36 10 [])),.k (0 :: 1 :: (rl 3 58 [])),.h [],.k (0 :: 2 :: 3 :: 4 :: (rl 6 18 (rl 27 22 (rl 52 9 [])))),.k [],.k (0 :: (rl 2 22 (rl 27 34 []))),.k (2 :: 8 :: (rl 53 6 [])),.k (0 :: 1 :: (rl 3 58 [])),.k (0 :: 1 :: (rl 3 58 []))]:=by
 apply Subtype.mk;cbv<;>exact rfl
def A46:AF:=B46.1
def A46v12:AC:=sA A46.body [1,1]
def A46v11:AC:=sA A46v12 [1]
def A46v10:AC:=sA A46v11 [1]
def A46v9:AC:=sA A46v10 [1]
def A46v8:AC:=sA A46v10 [0,1,0,0]
def A46v7:AC:=sA A46v8 [1,1]
def A46v6:AC:=sA A46v7 [1]
def A46v5:AC:=sA A46v7 [0,0,1,1]
def A46v4:AC:=sA A46v5 [1]
def A46v3:AC:=sA A46v4 [1,0,0]
def N13v2:St→Option St:=nN 1 (0 :: 2 :: 3 :: 4 :: (rl 6 18 (rl 27 22 (rl 52 9 []))))
def s13v0:St:=⟨(.u :: .x (.ptr 0 0) :: (us 3 (.x (.c (ro kP n0 f0)) :: (us 18 (.x (.c (ro kF n1 f1)) :: vxi i0 :: vxi i1 :: (us 22 (.x (.c (ro kF n2 f1)) :: vxi i2 :: vxi i3 :: (us 9 [])))))))),[.box [(.c (ro kP n3 f2)),(.c (ro kF n1 f1))]]⟩
def s13v1:St:=⟨(.u :: .u :: vxi 17 :: (us 58 [])),[.box [(.c (ro kP n0 f0)),(.c (ro kF n1 f1))]]⟩
def s13v2:St:=⟨(.u :: .x (.ptr 0 0) :: (us 22 (.x (.c (ro kF n0 f0)) :: vxi i0 :: vxi i1 :: (us 34 [])))),[.box [(.c (ro kP n1 f1)),(.c (ro kF n0 f0))]]⟩
def L13v2 {ρ:Type} (u:Nat) (x0:Nat) (x1:FF) (x2:Nat) (x3:FF) (x4 x5:Int) (x6:Nat) (x7:Int) (x8:Nat) (x9:FF):Nat→Int→(Option ρ)→(Option ρ)→Option ρ
 | 0,_,_,_=>none
 | m+1,xA,k0,k1 =>
  (bif (decide (xA<x7)) then (bif (inb xA x6) then (ob (F36 u x0 x1 (x3 xA.toNat 0).len (x3 xA.toNat 0).el) fun xB=>(bif (!xB) then k0 else (L13v2 u x0 x1 x2 x3 x4 x5 x6 x7 x8 x9 m (w64 (xA+1)) k0 k1))) else none) else k1)
theorem nl13v2:∀ (m:Nat) (x0:Int) (k0:Option ρ) (k1:Option ρ),ob (L13v2 u n0 f0 n1 f1 i0 i1 n2 i2 n3 f2 m x0 k0 k1) ng=L13v2 u n0 f0 n1 f1 i0 i1 n2 i2 n3 f2 m x0 (ob k0 ng) (ob k1 ng)
 | 0,_,_,_=>rfl
 | m+1,x0,k0,k1=>by
  simp only [L13v2,ob_bif,ob_ob,ob_none,nl13v2 m]
theorem q13v2:∀ (m:Nat) (x0:Int),
  loopH (eB A46v3 (C30 u) u) N13v2 m (s13v0 n0 n1 n2 n3 f0 f1 f2 i0 i1 i2 x0) k=L13v2 u n0 f0 n1 f1 i0 i1 n2 i2 n3 f2 m x0 (k .ret (s13v1 n3 n1 f2 f1)) (k (.exit 2) (s13v2 n1 n3 f1 f2 i0 i1))
 | 0,_=>rfl
 | m+1,x0=>by
  simp only [L13v2,← q13v2 m]
  kernel_rfl
def N13v3:St→Option St:=nN 1 (0 :: (rl 2 22 (rl 27 34 [])))
def s13v3:St:=⟨(.u :: .x (.ptr 0 0) :: (us 22 (.x (.c (ro kF n0 f0)) :: vxi i0 :: vxi i1 :: (us 34 [])))),[.box [(.c (ro kP n1 f1)),(.c (ro kF n0 f0))]]⟩
def s13v4:St:=⟨(.u :: .u :: vxi i0 :: (us 58 [])),[.box [(.c (ro kP n0 f0)),(.c (ro kF n1 f1))]]⟩
def s13v5:St:=⟨(us 61 []),[.box [(.c (ro kP n0 f0)),(.c (ro kF n1 f1))]]⟩
def L13v3 {ρ:Type} (u:Nat) (x0:Nat) (x1:FF) (x2:Int) (x3:Nat) (x4:FF):Nat→Int→(Int→Option ρ)→(Option ρ)→Option ρ
 | 0,_,_,_=>none
 | m+1,x5,k0,k1 =>
  (bif (decide (x5<x2)) then (bif (inb x5 x0) then (ob (F33 u (x1 x5.toNat 0).len (x1 x5.toNat 0).el) fun x6=>(bif (x6 != 0) then (k0 x6) else (ob (F34 u (x1 x5.toNat 0).len (x1 x5.toNat 0).el) fun x7=>(bif ((decide (x7≥0))==false) then (ob (F35 u (x1 x5.toNat 0).len (x1 x5.toNat 0).el x3 x4) fun x8=>(bif (!x8) then (k0 17) else (bif (inbe x5 x0) then (L13v2 u (x1 x5.toNat 0).len (x1 x5.toNat 0).el x0 x1 x2 x5 (x5.toNat-0) (Int.ofNat (x5.toNat-0)) x3 x4 u 0
  (k0 17)
  (L13v3 u x0 x1 x2 x3 x4 m (w64 (x5+1)) k0 k1)) else none))) else (k0 17))))) else none) else k1)
theorem nl13v3:∀ (m:Nat) (x0:Int) (k0:Int→Option ρ) (k1:Option ρ),ob (L13v3 u n0 f0 i0 n1 f1 m x0 k0 k1) ng=L13v3 u n0 f0 i0 n1 f1 m x0 (fun x1=>ob (k0 x1) ng) (ob k1 ng)
 | 0,_,_,_=>rfl
 | m+1,x0,k0,k1=>by
  simp only [L13v3,ob_bif,ob_ob,ob_none,nl13v3 m,nl13v2]
def s13v6:St:=⟨(.u :: .x (.ptr 0 0) :: .u :: .u :: vxi i0 :: .x (.c (ro kP (f0 i0.toNat 0).len (f0 i0.toNat 0).el)) :: (us 18 (.x (.c (ro kF n0 f0)) :: vxi i1 :: vxi i0 :: vxb true :: vxi i0 :: .x (.c (.rp kF (f0 i0.toNat))) :: .x (.c (ro kP (f0 i0.toNat 0).len (f0 i0.toNat 0).el)) :: (us 15 (.x (.ptr 0 1) :: .x (.c (ro kF n0 f0)) :: vxi i0 :: .x (.c (ro kF (i0.toNat-0) f0)) :: vxi (Int.ofNat (i0.toNat-0)) :: vxi 0 :: (us 9 [])))))),[.box [(.c (ro kP n1 f1)),(.c (ro kF n0 f0))]]⟩
theorem r13v3 :
  loopH (eB A46v8 (C30 u) u) N13v3 (m+1) (s13v3 n0 n1 f0 f1 i0 i1) k =
  (bif (decide (i1<i0)) then (bif (inb i1 n0) then (ob (F33 u (f0 i1.toNat 0).len (f0 i1.toNat 0).el) fun x0=>(bif (x0 != 0) then (k .ret (s13v4 n1 n0 f1 f0 x0)) else (ob (F34 u (f0 i1.toNat 0).len (f0 i1.toNat 0).el) fun x1=>(bif ((decide (x1≥0))==false) then (ob (F35 u (f0 i1.toNat 0).len (f0 i1.toNat 0).el n1 f1) fun x2=>(bif (!x2) then (k .ret (s13v4 n1 n0 f1 f0 17)) else (bif (inbe i1 n0) then (loopN (eB A46v3 (C30 u) u) N13v2 u (s13v6 n0 n1 f0 f1 i1 i0) (kBlk 2 (kBlk 1 (kSeq (C30 u) u (2 :: 4 :: 5 :: 6 :: 8 :: (rl 28 32 [])) A46v6 (kLoop (eB A46v8 (C30 u) u) N13v3 m k))))) else none))) else (k .ret (s13v4 n1 n0 f1 f0 17)))))) else none) else (k (.exit 0) (s13v5 n1 n0 f1 f0))):=by kernel_rfl
theorem t13v1 :
  loopN (eB A46v3 (C30 u) u) N13v2 u (s13v6 n0 n1 f0 f1 i0 i1) k =
  L13v2 u (f0 i0.toNat 0).len (f0 i0.toNat 0).el n0 f0 i1 i0 (i0.toNat-0) (Int.ofNat (i0.toNat-0)) n1 f1 u 0 (k .ret (s13v1 n1 n0 f1 f0)) (k (.exit 2) (s13v2 n0 n1 f0 f1 i1 i0)) :=
 Eq.trans (loopN_at (by kernel_rfl)) (q13v2 ..)
theorem g13v2 :
  (kBlk 2 (kBlk 1 (kSeq (C30 u) u (2 :: 4 :: 5 :: 6 :: 8 :: (rl 28 32 [])) A46v6 (kLoop (eB A46v8 (C30 u) u) N13v3 m k)))) .ret (s13v1 n0 n1 f0 f1) =
  (k .ret (s13v4 n0 n1 f0 f1 17)):=by kernel_rfl
theorem g13v3 :
  (kBlk 2 (kBlk 1 (kSeq (C30 u) u (2 :: 4 :: 5 :: 6 :: 8 :: (rl 28 32 [])) A46v6 (kLoop (eB A46v8 (C30 u) u) N13v3 m k)))) (.exit 2) (s13v2 n0 n1 f0 f1 i0 i1) =
  (loopH (eB A46v8 (C30 u) u) N13v3 m (s13v3 n0 n1 f0 f1 i0 (w64 (i1+1))) k):=by kernel_rfl
theorem q13v3:∀ (m:Nat) (x0:Int),
  loopH (eB A46v8 (C30 u) u) N13v3 m (s13v3 n0 n1 f0 f1 i0 x0) k=L13v3 u n0 f0 i0 n1 f1 m x0 (fun x1=>k .ret (s13v4 n1 n0 f1 f0 x1)) (k (.exit 0) (s13v5 n1 n0 f1 f0))
 | 0,_=>rfl
 | m+1,x0=>by
  rw [r13v3]
  simp only [L13v3,q13v3 m,t13v1,g13v2,g13v3]
def F13 (x0:Nat) (x1:FF) (x2:Nat) (x3:FF):Option (Int) :=
 (bif (decide ((Int.ofNat x2)>8)) then (some 12) else (ob (F33 u x0 x1) fun x4=>(bif (x4 != 0) then (some x4) else (ob (F34 u x0 x1) fun x5=>(bif (decide (x5≤0)) then (some 17) else (L13v3 u x2 x3 (Int.ofNat x2) x0 x1 u 0
  (fun x6=>(some x6))
  (some 0)))))))
def s13v7:St:=⟨(.agg [(.c (ro kP n0 f0)),(.c (ro kF n1 f1))] :: .x (.ptr 0 0) :: .u :: .u :: uu :: uu :: uu :: uu :: uu :: (us 14 [.x (.ptr 0 1),.x (.c (ro kF n1 f1)),vxi (Int.ofNat n1),vxi 0,uu,uu,uu,uu,uu,uu,uu,uu,uu,uu,uu,uu,uu,uu,uu,uu,uu,uu,uu,uu,uu,uu,uu,uu,uu,uu,uu,uu,uu,uu,uu,uu,uu,uu])),[.box [(.c (ro kP n0 f0)),(.c (ro kF n1 f1))]]⟩
theorem t13v4 :
  loopN (eB A46v8 (C30 u) u) N13v3 u (s13v7 n0 n1 f0 f1) k =
  L13v3 u n1 f1 (Int.ofNat n1) n0 f0 u 0 (fun x0=>k .ret (s13v4 n0 n1 f0 f1 x0)) (k (.exit 0) (s13v5 n0 n1 f0 f1)) :=
 Eq.trans (loopN_at (by kernel_rfl)) (q13v3 ..)
theorem g13v5 :
  (kBlk 0 (kSeq (C30 u) u (2 :: 4 :: 5 :: 6 :: 8 :: (rl 23 38 [])) A46v9 (finish A46))) .ret (s13v4 n0 n1 f0 f1 i0) =
  (some [.v (vi i0)]):=by kernel_rfl
theorem g13v6 :
  (kBlk 0 (kSeq (C30 u) u (2 :: 4 :: 5 :: 6 :: 8 :: (rl 23 38 [])) A46v9 (finish A46))) (.exit 0) (s13v5 n0 n1 f0 f1) =
  (some [.v (vi 0)]):=by kernel_rfl
theorem e13:evalF (C30 u) u A46 [.agg [(ro kP n0 f0),(ro kF n1 f1)]]=ob (F13 u n0 f0 n1 f1) fun t=>some [.v (vi t)]:=Eq.trans (b:=(bif (decide ((Int.ofNat n1)>8)) then (some [.v (vi 12)]) else (ob (F33 u n0 f0) fun x0=>(bif (x0 != 0) then (some [.v (vi x0)]) else (ob (F34 u n0 f0) fun x1=>(bif (decide (x1≤0)) then (some [.v (vi 17)]) else (loopN (eB A46v8 (C30 u) u) N13v3 u (s13v7 n0 n1 f0 f1) (kBlk 0 (kSeq (C30 u) u (2 :: 4 :: 5 :: 6 :: 8 :: (rl 23 38 [])) A46v9 (finish A46)))))))))) (by kernel_rfl) (by
 simp only [F13,ob_bif,ob_ob,ob_none,ob_some,nl13v3,t13v4,g13v5,g13v6])
def O13:Ora:=mkO (q1 (ag (tc (cL kP) (t1 (cL kF))))) (fun x=>F13 u x.1.1 x.1.2 x.2.1 x.2.2) fun t=>[.v (vi t)]
theorem d13:DO (O13 u) (C30 u) 46 A46:=dO u (fun x=>by exact e13 u x.1.1 x.2.1 x.1.2 x.2.2)
def C31:Oracle:=(C30 u).add 46 (fun _=>true) (O13 u)
def A23v1:AC:=(.region 10 [o1 55 (bk .add 3 13 1),mv 13 55] 0 none)
def A23v2:AC:=(.seq (.block 1
 (.seq (.region 5 [o1 15 (.indexAddr 24 58 18 (tm 11) (tm 13)),o1 16 (ln 58 18 15),o1 8 (.alloc 0 58 [vcs ByteArray.empty,vci 0,vci 0,vcs ByteArray.empty,vcs ByteArray.empty,vci 0,vcn,vcn,vcs ByteArray.empty,vci 0,vci 0,vci 0,vci 0,vci 0,vci 0,vci 0,vci 0,vci 0]),o0 (.store 58 18 (tm 8) (tm 16))] 1 none) []
  (.seq (.region 6 [mv 17 6,o1 18 (fa 58 8 0 0),o1 19 (lo 9 18),o1 20 (.lookupB 101 (tm 17) (tm 19)),o1 21 (.unOp .not 4 (tm 20)),o1 9 (sg 21)] 0 none) []
  (.seq (.region 7 [mv 22 6,o1 23 (fa 58 8 0 0),o1 24 (lo 9 23),o0 (.mapPutT 101 (tm 22) (tm 24))] 0 none) []
  (.seq (.region 8 [mv 25 9,mv 26 25,og 27 (fa 58 8 2 2) 26 true,og 28 (lo 3 27) 26 true,og 29 (bk .eql 3 28 1) 26 true,o1 30 (po 26 29),mv 31 30,og 32 (fa 58 8 4 4) 31 true,og 33 (lo 9 32) 31 true,og 34 (fa 23 2 1 1) 31 true,og 35 (lo 9 34) 31 true,og 36 (bt .eql 9 33 35) 31 true,o1 37 (po 31 36),mv 38 37,og 39 (fa 58 8 5 5) 38 true,og 40 (lo 3 39) 38 true,og 41 (fa 23 2 2 2) 38 true,og 42 (lo 3 41) 38 true,og 43 (bt .eql 3 40 42) 38 true,o1 44 (po 38 43),mv 45 44,og 46 (fa 58 8 6 6) 45 true,og 47 (ln 52 2 46) 45 true,og 48 (cs 46 [47] [52]) 45 true,og 49 (bk .eql 35 48 0) 45 true,o1 50 (po 45 49)] 0 none) []
  (.cond (tm 50)
  (.region 9 [mv 51 5,o1 52 (ln 58 18 8),o1 53 (.buildSlice 0 24 58 kA 1 [vcs ByteArray.empty,vci 0,vci 0,vcs ByteArray.empty,vcs ByteArray.empty,vci 0,.c (.ro true kP 0 nilF),.c (.ro true kF 0 nilF),vcs ByteArray.empty,vci 0,vci 0,vci 0,vci 0,vci 0,vci 0,vci 0,vci 0,vci 0] [(0,(tm 52))]),o1 54 (.append 1 24 58 kA 208 (tm 51) (tm 53)),o1 5 (sg 54)] 2 none)
  .skip)))))) (8 :: 9 :: (rl 15 40 []))
 A23v1)
def A23v3:AC:=(.seq (.region 4 [o1 14 (bt .lss 3 13 12)] 0 none) []
 (.seq (.cond (tm 14)
 .skip
 (.ghost [0] (.exit 0 (rl 0 5 (rl 6 51 []))))) []
 A23v2))
def A23v4:AC:=(.seq (.region 11 [mv 56 5,o1 4 (sg 56)] 0 none) []
 (.ghost [0] (.ret (rl 0 4 (rl 5 52 [])))))
def A23:AF:=⟨57,[.tmp 4],
 (.seq (.region 0 [o1 2 (bx 0 23 0),o1 4 (.assign (.const (.slice none 0 0)))] 1 none) []
 (.seq (.region 1 [o1 5 (.assign (.const (.slice none 0 0)))] 0 none) []
 (.seq (.region 2 [o1 10 (.makeMap 0 101 2),o1 6 (sg 10)] 1 none) []
 (.seq (.seq (.region 3 [mv 11 1,o1 12 (.len 24 false (tm 11)),o1 13 (.move (ic 0))] 0 none) []
 (.block 0
 (.loop [.slot 5 kA] (0 :: 1 :: 3 :: 4 :: (rl 7 4 (rl 14 43 [])))
  A23v3))) (8 :: 9 :: (rl 11 45 []))
 A23v4))))⟩
def N391v1:St→Option St:=nN 3 (0 :: 1 :: 3 :: 4 :: (rl 7 4 (rl 14 43 [])))
def s391v0:St:=⟨(.u :: .u :: .x (.ptr 0 0) :: .u :: .u :: .x (.own 2 0 n0) :: .x (.own 1 0 0) :: (us 4 (.x (.c (ro kA n1 f0)) :: vxi i0 :: vxi i1 :: (us 43 [])))),[.box [(vcs w0),(vcs w1),(vci i2),(vci i3),(vci i4),(vcs w2)],.set 2 n2 f1,.arr kA n0 f2]⟩
def s391v1:St:=⟨(us 5 (.x (.own 2 0 n0) :: (us 51 []))),[.dead,.set 2 n1 f0,.arr kA n0 f1]⟩
def L391v1 {ρ:Type} (u:Nat) (x0:Nat) (x1:FF) (x2:Int) (x3 x4:ByteArray) (x5 x6 x7:Int) (x8:ByteArray):Nat→Nat→Int→Nat→FF→FF→(Nat→Nat→FF→FF→Option ρ)→Option ρ
 | 0,_,_,_,_,_,_=>none
 | m+1,x9,xA,xB,xC,xD,k0 =>
  (bif (decide (xA<x2)) then (bif (inb xA x0) then (bif ((!(mapG xB xC (x1 xA.toNat 0).str==1))==true) then (bif (((x1 xA.toNat 2).int==1)==true) then (bif ((ByteArray.toList (x1 xA.toNat 4).str==ByteArray.toList x4)==true) then (bif (((x1 xA.toNat 5).int==x5)==true) then (ob (F13 u (x1 xA.toNat 6).len (x1 xA.toNat 6).el (x1 xA.toNat 7).len (x1 xA.toNat 7).el) fun xE=>(bif (xE==0) then (bif (Nat.ble (x9+1) 1073741824) then (L391v1 u x0 x1 x2 x3 x4 x5 x6 x7 x8 m (x9+1) (w64 (xA+1)) (mapN xB xC (x1 xA.toNat 0).str) (mapR xB xC (x1 xA.toNat 0).str 1) (joinF x9 xD (rowsF 18 [(.s (x1 xA.toNat 0).str),(.i .i64 (x1 xA.toNat 1).int),(.i .i64 (x1 xA.toNat 2).int),(.s (x1 xA.toNat 3).str),(.s (x1 xA.toNat 4).str),(.i .i64 (x1 xA.toNat 5).int),(.ro false (.pr (.int .i64) (.pr (.int .i64) .nil)) (x1 xA.toNat 6).len (x1 xA.toNat 6).el),(.ro false (.pr (.sl (.pr (.int .i64) (.pr (.int .i64) .nil))) .nil) (x1 xA.toNat 7).len (x1 xA.toNat 7).el),(.s (x1 xA.toNat 8).str),(.i .i64 (x1 xA.toNat 9).int),(.i .i64 (x1 xA.toNat 10).int),(.i .i64 (x1 xA.toNat 11).int),(.i .i64 (x1 xA.toNat 12).int),(.i .i64 (x1 xA.toNat 13).int),(.i .i64 (x1 xA.toNat 14).int),(.i .i64 (x1 xA.toNat 15).int),(.i .i64 (x1 xA.toNat 16).int),(.i .i64 (x1 xA.toNat 17).int)])) k0) else none) else (L391v1 u x0 x1 x2 x3 x4 x5 x6 x7 x8 m x9 (w64 (xA+1)) (mapN xB xC (x1 xA.toNat 0).str) (mapR xB xC (x1 xA.toNat 0).str 1) xD k0))) else (L391v1 u x0 x1 x2 x3 x4 x5 x6 x7 x8 m x9 (w64 (xA+1)) (mapN xB xC (x1 xA.toNat 0).str) (mapR xB xC (x1 xA.toNat 0).str 1) xD k0)) else (L391v1 u x0 x1 x2 x3 x4 x5 x6 x7 x8 m x9 (w64 (xA+1)) (mapN xB xC (x1 xA.toNat 0).str) (mapR xB xC (x1 xA.toNat 0).str 1) xD k0)) else (L391v1 u x0 x1 x2 x3 x4 x5 x6 x7 x8 m x9 (w64 (xA+1)) (mapN xB xC (x1 xA.toNat 0).str) (mapR xB xC (x1 xA.toNat 0).str 1) xD k0)) else (L391v1 u x0 x1 x2 x3 x4 x5 x6 x7 x8 m x9 (w64 (xA+1)) (mapN xB xC (x1 xA.toNat 0).str) (mapR xB xC (x1 xA.toNat 0).str 1) xD k0)) else none) else (k0 x9 xB xC xD))
theorem nl391v1:∀ (m:Nat) (x0:Nat) (x1:Int) (x2:Nat) (x3 x4:FF) (k0:Nat→Nat→FF→FF→Option ρ),ob (L391v1 u n0 f0 i0 w0 w1 i1 i2 i3 w2 m x0 x1 x2 x3 x4 k0) ng=L391v1 u n0 f0 i0 w0 w1 i1 i2 i3 w2 m x0 x1 x2 x3 x4 (fun x5 x6 x7 x8=>ob (k0 x5 x6 x7 x8) ng)
 | 0,_,_,_,_,_,_=>rfl
 | m+1,x0,x1,x2,x3,x4,k0=>by
  simp only [L391v1,ob_bif,ob_ob,ob_none,nl391v1 m]
theorem q391v1:∀ (m:Nat) (x0:Nat) (x1:Int) (x2:Nat) (x3 x4:FF),
  loopH (eB A23v3 (C31 u) u) N391v1 m (s391v0 x0 n0 x2 f0 x3 x4 i0 x1 i1 i2 i3 w0 w1 w2) k=L391v1 u n0 f0 i0 w0 w1 i1 i2 i3 w2 m x0 x1 x2 x3 x4 (fun x5 x6 x7 x8=>k (.exit 0) (s391v1 x5 x6 x7 x8))
 | 0,_,_,_,_,_=>rfl
 | m+1,x0,x1,x2,x3,x4=>by
  simp only [L391v1,← q391v1 m]
  kernel_rfl
def F391 (x0 x1:ByteArray) (x2 x3 x4:Int) (x5:ByteArray) (x6:Nat) (x7:FF):Option (Nat × FF) :=
 (L391v1 u x6 x7 (Int.ofNat x6) x0 x1 x2 x3 x4 x5 u 0 0 0 (fun _ _=>.any) (fun _ _=>.any)
  (fun x8 x9 xA xB=>(some (x8,xB))))
def s391v2:St:=⟨[.agg [(vcs w0),(vcs w1),(vci i0),(vci i1),(vci i2),(vcs w2)],.x (.c (ro kA n0 f0)),.x (.ptr 0 0),uu,.x (vcn),.x (.own 2 0 0),.x (.own 1 0 0),uu,uu,uu,.x (.own 1 0 0),.x (.c (ro kA n0 f0)),vxi (Int.ofNat n0),vxi 0,uu,uu,uu,uu,uu,uu,uu,uu,uu,uu,uu,uu,uu,uu,uu,uu,uu,uu,uu,uu,uu,uu,uu,uu,uu,uu,uu,uu,uu,uu,uu,uu,uu,uu,uu,uu,uu,uu,uu,uu,uu,uu,uu],[.box [(vcs w0),(vcs w1),(vci i0),(vci i1),(vci i2),(vcs w2)],.set 2 0 nilF,.arr kA 0 nilF]⟩
theorem t391v1 :
  loopN (eB A23v3 (C31 u) u) N391v1 u (s391v2 n0 f0 i0 i1 i2 w0 w1 w2) k =
  L391v1 u n0 f0 (Int.ofNat n0) w0 w1 i0 i1 i2 w2 u 0 0 0 nilF nilF (fun x0 x1 x2 x3=>k (.exit 0) (s391v1 x0 x1 x2 x3)) :=
 Eq.trans (loopN_at (by kernel_rfl)) (q391v1 ..)
theorem g391v2 :
  (kBlk 0 (kSeq (C31 u) u (8 :: 9 :: (rl 11 45 [])) A23v4 (finish A23))) (.exit 0) (s391v1 n0 n1 f0 f1) =
  (some [.v (ro kA n0 f1)]):=by kernel_rfl
theorem e391:evalF (C31 u) u A23 [.agg [(.s w0),(.s w1),(vi i0),(vi i1),(vi i2),(.s w2)],.v (ro kA n0 f0)]=ob (F391 u w0 w1 i0 i1 i2 w2 n0 f0) fun t=>some [.v (ro kA t.1 t.2)]:=Eq.trans (b:=(loopN (eB A23v3 (C31 u) u) N391v1 u (s391v2 n0 f0 i0 i1 i2 w0 w1 w2) (kBlk 0 (kSeq (C31 u) u (8 :: 9 :: (rl 11 45 [])) A23v4 (finish A23))))) (by kernel_rfl) (by
 simp only [F391,ob_bif,ob_ob,ob_none,ob_some,nl391v1,t391v1,g391v2])
def O391:Ora:=mkO (qc (ag (tc cS (tc cS (tc ci (tc ci (tc ci (t1 cS))))))) (q1 (av (cL kA)))) (fun x=>F391 u x.1.1 x.1.2.1 x.1.2.2.1 x.1.2.2.2.1 x.1.2.2.2.2.1 x.1.2.2.2.2.2 x.2.1 x.2.2) fun t=>[.v (ro kA t.1 t.2)]
theorem d391:DO (O391 u) (C31 u) 23 A23:=dO u (fun x=>by exact e391 u x.2.1 x.2.2 x.1.2.2.1 x.1.2.2.2.1 x.1.2.2.2.2.1 x.1.1 x.1.2.1 x.1.2.2.2.2.2)
def C32:Oracle:=(C31 u).add 23 (fun _=>true) (O391 u)
def F392 (u:Nat) (n:Nat) (g:FF):Option FF:=sortIT n g
def C33:Oracle:=(C32 u).addT 51 (fun r n g rest=>bif r.beq kD&&rest.isEmpty then F392 u n g else none)
def B101:An tT Tryz.f101 [.k (7 :: (rl 10 13 [])),.h [],.k (rl 0 4 (rl 6 4 (rl 13 12 []))),.k [],.k (rl 0 4 (rl 6 19 [])),.k (rl 0 4 (rl 6 19 []))]:=by
 apply Subtype.mk;cbv<;>exact rfl
def A101:AF:=B101.1
def A101v3:AC:=sA A101.body [1,1,1]
def A101v2:AC:=sA A101.body [1,1,0,1,0,0]
def N72v1:St→Option St:=nN 0 (rl 0 4 (rl 6 4 (rl 13 12 [])))
def s72v0:St:=⟨(us 4 (vxi i0 :: vxi i1 :: (us 4 (.x (.c (ro kD n0 f0)) :: vxi i2 :: vxi i3 :: (us 12 []))))),[]⟩
def s72v1:St:=⟨(us 4 (vxi i0 :: vxi i1 :: (us 19 []))),[]⟩
def L72v1 {ρ:Type} (u:Nat) (x0:Nat) (x1:FF) (x2:Int):Nat→Int→Int→Int→(Int→Int→Option ρ)→Option ρ
 | 0,_,_,_,_=>none
 | m+1,x3,x4,x5,k0 =>
  (bif (decide (x5<x2)) then (bif (inb x5 x0) then (L72v1 u x0 x1 x2 m (if (x1 x5.toNat 0).int<x3 then (x1 x5.toNat 0).int else x3) (if (x1 x5.toNat 0).int>x4 then (x1 x5.toNat 0).int else x4) (w64 (x5+1)) k0) else none) else (k0 x3 x4))
theorem nl72v1:∀ (m:Nat) (x0 x1 x2:Int) (k0:Int→Int→Option ρ),ob (L72v1 u n0 f0 i0 m x0 x1 x2 k0) ng=L72v1 u n0 f0 i0 m x0 x1 x2 (fun x3 x4=>ob (k0 x3 x4) ng)
 | 0,_,_,_,_=>rfl
 | m+1,x0,x1,x2,k0=>by
  simp only [L72v1,ob_bif,ob_ob,ob_none,nl72v1 m]
theorem q72v1:∀ (m:Nat) (x0 x1 x2:Int),
  loopH (eB A101v2 (C33 u) u) N72v1 m (s72v0 n0 f0 x0 x1 i0 x2) k=L72v1 u n0 f0 i0 m x0 x1 x2 (fun x3 x4=>k (.exit 0) (s72v1 x3 x4))
 | 0,_,_,_=>rfl
 | m+1,x0,x1,x2=>by
  simp only [L72v1,← q72v1 m]
  kernel_rfl
def F72 (x0:Int) (x1:Nat) (x2:FF):Option (Int × Int) :=
 (L72v1 u x1 x2 (Int.ofNat x1) u x0 x0 0
  (fun x3 x4=>(some (x3,x4))))
def s72v2:St:=⟨[vxi i0,.x (.c (ro kD n0 f0)),uu,uu,vxi i0,vxi i0,uu,uu,vxi i0,vxi i0,.x (.c (ro kD n0 f0)),vxi (Int.ofNat n0),vxi 0,uu,uu,uu,uu,uu,uu,uu,uu,uu,uu,uu,uu],[]⟩
theorem t72v1 :
  loopN (eB A101v2 (C33 u) u) N72v1 u (s72v2 n0 f0 i0) k =
  L72v1 u n0 f0 (Int.ofNat n0) u i0 i0 0 (fun x0 x1=>k (.exit 0) (s72v1 x0 x1)) :=
 Eq.trans (loopN_at (by kernel_rfl)) (q72v1 ..)
theorem g72v2 :
  (kBlk 0 (kSeq (C33 u) u (7 :: (rl 10 13 [])) A101v3 (finish A101))) (.exit 0) (s72v1 i0 i1) =
  (some [.v (vi i0),.v (vi i1)]):=by kernel_rfl
theorem e72:evalF (C33 u) u A101 [.v (vi i0),.v (ro kD n0 f0)]=ob (F72 u i0 n0 f0) fun t=>some [.v (vi t.1),.v (vi t.2)]:=Eq.trans (b:=(loopN (eB A101v2 (C33 u) u) N72v1 u (s72v2 n0 f0 i0) (kBlk 0 (kSeq (C33 u) u (7 :: (rl 10 13 [])) A101v3 (finish A101))))) (by kernel_rfl) (by
 simp only [F72,ob_bif,ob_ob,ob_none,ob_some,nl72v1,t72v1,g72v2])
def O72:Ora:=mkO (qc (av ci) (q1 (av (cL kD)))) (fun x=>F72 u x.1 x.2.1 x.2.2) fun t=>[.v (vi t.1),.v (vi t.2)]
theorem d72:DO (O72 u) (C33 u) 101 A101:=dO u (fun x=>by exact e72 u x.2.1 x.2.2 x.1)
def C34:Oracle:=(C33 u).add 101 (fun _=>true) (O72 u)
def B82:An tT Tryz.f82 [.k (rl 7 4 []),.k (0 :: 1 :: (rl 3 50 [])),.k (6 :: (rl 11 17 [])),.h [.slot 3 kD,.slot 4 kD],.k (0 :: 1 :: (rl 5 6 (rl 14 39 []))),.k [],.k (0 :: 1 :: (rl 5 48 [])),.k (0 :: 1 :: (rl 3 50 []))]:=by
 apply Subtype.mk;cbv<;>exact rfl
def A82:AF:=B82.1
def A82v4:AC:=sA A82.body [1,1]
def A82v3:AC:=sA A82v4 [1,1]
def A82v2:AC:=sA A82v4 [1,0,1,0,0]
def N46v1:St→Option St:=nN 3 (0 :: 1 :: (rl 5 6 (rl 14 39 [])))
def s46v0:St:=⟨(.u :: .u :: .x (.ptr 0 0) :: .x (.own 1 0 n0) :: .x (.own 2 0 n0) :: (us 6 (.x (.c (ro kP n1 f0)) :: vxi i0 :: vxi i1 :: (us 39 [])))),[.box [(vci 0),(vci 0),(vci 0),(vci 0)],.arr kD n0 f1,.arr kD n0 f2]⟩
def s46v1:St:=⟨(.u :: .u :: .x (.ptr 0 0) :: .x (.own 1 0 n0) :: .x (.own 2 0 n0) :: (us 48 [])),[.box [(vci 0),(vci 0),(vci 0),(vci 0)],.arr kD n0 f0,.arr kD n0 f1]⟩
def L46v1 {ρ:Type} (u:Nat) (x0:Nat) (x1:FF) (x2:Int):Nat→Nat→Int→FF→FF→(Nat→FF→FF→Option ρ)→Option ρ
 | 0,_,_,_,_,_=>none
 | m+1,x3,x4,x5,x6,k0 =>
  (bif (decide (x4<x2)) then (bif (inb x4 x0) then (bif (Nat.ble (x3+1) 1073741824) then (bif (Nat.ble (x3+1) 1073741824) then (L46v1 u x0 x1 x2 m (x3+1) (w64 (x4+1)) (joinF x3 x5 (rowsF 1 [(.i .i64 (x1 x4.toNat 0).int)])) (joinF x3 x6 (rowsF 1 [(.i .i64 (x1 x4.toNat 1).int)])) k0) else none) else none) else none) else (k0 x3 x5 x6))
theorem nl46v1:∀ (m:Nat) (x0:Nat) (x1:Int) (x2 x3:FF) (k0:Nat→FF→FF→Option ρ),ob (L46v1 u n0 f0 i0 m x0 x1 x2 x3 k0) ng=L46v1 u n0 f0 i0 m x0 x1 x2 x3 (fun x4 x5 x6=>ob (k0 x4 x5 x6) ng)
 | 0,_,_,_,_,_=>rfl
 | m+1,x0,x1,x2,x3,k0=>by
  simp only [L46v1,ob_bif,ob_ob,ob_none,nl46v1 m]
theorem q46v1:∀ (m:Nat) (x0:Nat) (x1:Int) (x2 x3:FF),
  loopH (eB A82v2 (C34 u) u) N46v1 m (s46v0 x0 n0 f0 x2 x3 i0 x1) k=L46v1 u n0 f0 i0 m x0 x1 x2 x3 (fun x4 x5 x6=>k (.exit 0) (s46v1 x4 x5 x6))
 | 0,_,_,_,_=>rfl
 | m+1,x0,x1,x2,x3=>by
  simp only [L46v1,← q46v1 m]
  kernel_rfl
def F46 (x0:Nat) (x1:FF):Option (Int × Int × Int × Int) :=
 (bif ((Int.ofNat x0)==0) then (some (0,0,0,0)) else (L46v1 u x0 x1 (Int.ofNat x0) u 0 0 (fun _ _=>.any) (fun _ _=>.any)
  (fun x2 x3 x4=>(bif (inb 0 x2) then (ob (F72 u (x3 0 0).int x2 x3) fun x5=>(bif (inb 0 x2) then (ob (F72 u (x4 0 0).int x2 x4) fun x6=>(some (x5.1,x6.1,x5.2,x6.2))) else none)) else none))))
def s46v2:St:=⟨(.x (.c (ro kP n0 f0)) :: uu :: .x (.ptr 0 0) :: .x (.own 1 0 0) :: .x (.own 2 0 0) :: uu :: uu :: (us 4 [.x (.c (ro kP n0 f0)),vxi (Int.ofNat n0),vxi 0,uu,uu,uu,uu,uu,uu,uu,uu,uu,uu,uu,uu,uu,uu,uu,uu,uu,uu,uu,uu,uu,uu,uu,uu,uu,uu,uu,uu,uu,uu,uu,uu,uu,uu,uu,uu,uu,uu,uu])),[.box [(vci 0),(vci 0),(vci 0),(vci 0)],.arr kD 0 nilF,.arr kD 0 nilF]⟩
theorem t46v1 :
  loopN (eB A82v2 (C34 u) u) N46v1 u (s46v2 n0 f0) k =
  L46v1 u n0 f0 (Int.ofNat n0) u 0 0 nilF nilF (fun x0 x1 x2=>k (.exit 0) (s46v1 x0 x1 x2)) :=
 Eq.trans (loopN_at (by kernel_rfl)) (q46v1 ..)
theorem g46v2 :
  (kBlk 0 (kSeq (C34 u) u (6 :: (rl 11 17 [])) A82v3 (finish A82))) (.exit 0) (s46v1 n0 f0 f1) =
  (bif (inb 0 n0) then (ob (F72 u (f0 0 0).int n0 f0) fun x0=>(bif (inb 0 n0) then (ob (F72 u (f1 0 0).int n0 f1) fun x1=>(some [.agg [(vi x0.1),(vi x1.1),(vi x0.2),(vi x1.2)]])) else none)) else none):=by kernel_rfl
theorem e46:evalF (C34 u) u A82 [.v (ro kP n0 f0)]=ob (F46 u n0 f0) fun t=>some [.agg [(vi t.1),(vi t.2.1),(vi t.2.2.1),(vi t.2.2.2)]]:=Eq.trans (b:=(bif ((Int.ofNat n0)==0) then (some [.agg [(vi 0),(vi 0),(vi 0),(vi 0)]]) else (loopN (eB A82v2 (C34 u) u) N46v1 u (s46v2 n0 f0) (kBlk 0 (kSeq (C34 u) u (6 :: (rl 11 17 [])) A82v3 (finish A82)))))) (by kernel_rfl) (by
 simp only [F46,ob_bif,ob_ob,ob_none,ob_some,nl46v1,t46v1,g46v2])
def O46:Ora:=mkO (q1 (av (cL kP))) (fun x=>F46 u x.1 x.2) fun t=>[.agg [(vi t.1),(vi t.2.1),(vi t.2.2.1),(vi t.2.2.2)]]
theorem d46:DO (O46 u) (C34 u) 82 A82:=dO u (fun x=>by exact e46 u x.1 x.2)
def C35:Oracle:=(C34 u).add 82 (fun _=>true) (O46 u)
def B50:An tT Tryz.f50 [.k [0,1,3,4,5]]:=by
 apply Subtype.mk;cbv<;>exact rfl
def A50:AF:=B50.1
def F20 (x0:Nat) (x1:FF) (x2:Nat) (x3:FF):Option (Int × Int × Int × Int) :=
 (ob (F46 u x0 x1) fun x4=>(some (x4.1,x4.2.1,x4.2.2.1,x4.2.2.2)))
theorem e20:evalF (C35 u) u A50 [.agg [(ro kP n0 f0),(ro kF n1 f1)]]=ob (F20 u n0 f0 n1 f1) fun t=>some [.agg [(vi t.1),(vi t.2.1),(vi t.2.2.1),(vi t.2.2.2)]]:=by
 simp only [F20,ob_bif,ob_ob,ob_none,ob_some]
 kernel_rfl
def O20:Ora:=mkO (q1 (ag (tc (cL kP) (t1 (cL kF))))) (fun x=>F20 u x.1.1 x.1.2 x.2.1 x.2.2) fun t=>[.agg [(vi t.1),(vi t.2.1),(vi t.2.2.1),(vi t.2.2.2)]]
theorem d20:DO (O20 u) (C35 u) 50 A50:=dO u (fun x=>by exact e20 u x.1.1 x.2.1 x.1.2 x.2.2)
def C36:Oracle:=(C35 u).add 50 (fun _=>true) (O20 u)
def B20:An tT Tryz.f20 [.k (4 :: 5 :: 8 :: (rl 14 20 [])),.g [0],.h [],.k (0 :: (rl 2 4 (rl 7 19 (rl 28 27 [])))),.k [],.g [0],.k (0 :: (rl 2 4 (rl 7 48 []))),.k (4 :: 5 :: 8 :: (rl 29 4 [])),.g [0,1],.k (rl 0 4 (rl 6 49 [])),.k (4 :: 5 :: (rl 48 5 [])),.g [0,1],.k (rl 0 4 (rl 6 49 [])),.g [0,1],.k (rl 0 4 (rl 6 49 []))]:=by
 apply Subtype.mk;cbv<;>exact rfl
def A20:AF:=B20.1
def A20v5:AC:=sA A20.body [1,1,1]
def A20v3:AC:=sA A20.body [1,1,0,1,0,0,0]
def N393v1:St→Option St:=nN 2 (0 :: (rl 2 4 (rl 7 19 (rl 28 27 []))))
def s393v0:St:=⟨(.u :: vxi i0 :: (us 4 (.x (.ptr 1 0) :: (us 19 (.agg [(vci i1),(vci i2),(vci i3),(vci i4)] :: vxi i5 :: (us 27 [])))))),[.dead,.box [(vci i1),(vci i2),(vci i3),(vci i4)]]⟩
def s393v1:St:=⟨(us 4 (vxi 0 :: vxi 0 :: (us 49 []))),[.dead,.dead]⟩
def s393v2:St:=⟨(.u :: vxi i0 :: (us 4 (.x (.ptr 1 0) :: (us 48 [])))),[.dead,.box [(vci i1),(vci i2),(vci i3),(vci i4)]]⟩
def L393v1 {ρ:Type} (u:Nat) (x0 x1 x2 x3 x4:Int):Nat→Int→(Option ρ)→(Option ρ)→Option ρ
 | 0,_,_,_=>none
 | m+1,x5,k0,k1 =>
  (bif (decide (x5<4)) then (bif (x5==0) then (ob (F389 u x1 (-1099511627776) 1099511627776) fun x6=>(bif (!x6) then k0 else (L393v1 u x0 x1 x2 x3 x4 m (w64 (x5+1)) k0 k1))) else (bif (x5==1) then (ob (F389 u x2 (-1099511627776) 1099511627776) fun x7=>(bif (!x7) then k0 else (L393v1 u x0 x1 x2 x3 x4 m (w64 (x5+1)) k0 k1))) else (bif (x5==2) then (ob (F389 u x3 (-1099511627776) 1099511627776) fun x8=>(bif (!x8) then k0 else (L393v1 u x0 x1 x2 x3 x4 m (w64 (x5+1)) k0 k1))) else (bif (x5==3) then (ob (F389 u x4 (-1099511627776) 1099511627776) fun x9=>(bif (!x9) then k0 else (L393v1 u x0 x1 x2 x3 x4 m (w64 (x5+1)) k0 k1))) else none)))) else k1)
theorem nl393v1:∀ (m:Nat) (x0:Int) (k0:Option ρ) (k1:Option ρ),ob (L393v1 u i0 i1 i2 i3 i4 m x0 k0 k1) ng=L393v1 u i0 i1 i2 i3 i4 m x0 (ob k0 ng) (ob k1 ng)
 | 0,_,_,_=>rfl
 | m+1,x0,k0,k1=>by
  simp only [L393v1,ob_bif,ob_ob,ob_none,nl393v1 m]
theorem q393v1:∀ (m:Nat) (x0:Int),
  loopH (eB A20v3 (C36 u) u) N393v1 m (s393v0 i0 i1 i2 i3 i4 x0) k=L393v1 u i0 i1 i2 i3 i4 m x0 (k .ret s393v1) (k (.exit 0) (s393v2 i0 i1 i2 i3 i4))
 | 0,_=>rfl
 | m+1,x0=>by
  simp only [L393v1,← q393v1 m]
  kernel_rfl
def F393 (x0:Nat→CV) (x1:Int):Option (Int × Int) :=
 (ob (F20 u (x0 6).len (x0 6).el (x0 7).len (x0 7).el) fun x2=>(L393v1 u x1 x2.1 x2.2.1 x2.2.2.1 x2.2.2.2 u 0
  (some (0,0))
  (bif ((Int.tmod x1 2) != 0) then (some ((w64 (x2.2.2.2-x2.2.1)),(w64 (x2.2.2.1-x2.1)))) else (some ((w64 (x2.2.2.1-x2.1)),(w64 (x2.2.2.2-x2.2.1)))))))
def s393v3 (x0:Int × Int × Int × Int):St:=⟨[.agg (pjc kR0 g0),vxi i0,.x (.c (.rp kA (listF [(.s (g0 0).str),(vi (g0 1).int),(vi (g0 2).int),(.s (g0 3).str),(.s (g0 4).str),(vi (g0 5).int),(ro kP (g0 6).len (g0 6).el),(ro kF (g0 7).len (g0 7).el),(.s (g0 8).str),(vi (g0 9).int),(vi (g0 10).int),(vi (g0 11).int),(vi (g0 12).int),(vi (g0 13).int),(vi (g0 14).int),(vi (g0 15).int),(vi (g0 16).int),(vi (g0 17).int)]))),uu,vxi 0,vxi 0,.x (.ptr 1 0),uu,uu,uu,uu,.x (.c (.rp (.pr (.sl kP) (.pr (.sl kF) (.pr .str (.pr (.int .i64) (.pr (.int .i64) (.pr (.int .i64) (.pr (.int .i64) (.pr (.int .i64) kE)))))))) (listF [(ro kP (g0 6).len (g0 6).el),(ro kF (g0 7).len (g0 7).el),(.s (g0 8).str),(vi (g0 9).int),(vi (g0 10).int),(vi (g0 11).int),(vi (g0 12).int),(vi (g0 13).int),(vi (g0 14).int),(vi (g0 15).int),(vi (g0 16).int),(vi (g0 17).int)]))),.agg [(.c (ro kP (g0 6).len (g0 6).el)),(.c (ro kF (g0 7).len (g0 7).el))],.agg [(vci x0.1),(vci x0.2.1),(vci x0.2.2.1),(vci x0.2.2.2)],.x (.ptr 1 0),.x (.ptr 1 0),vxi x0.1,.x (.ptr 1 0),.x (.ptr 1 1),vxi x0.2.1,.x (.ptr 1 2),.x (.ptr 1 2),vxi x0.2.2.1,.x (.ptr 1 2),.x (.ptr 1 3),vxi x0.2.2.2,.agg [(vci x0.1),(vci x0.2.1),(vci x0.2.2.1),(vci x0.2.2.2)],vxi 0,uu,uu,uu,uu,uu,uu,uu,uu,uu,uu,uu,uu,uu,uu,uu,uu,uu,uu,uu,uu,uu,uu,uu,uu,uu,uu,uu],[.dead,.box [(vci x0.1),(vci x0.2.1),(vci x0.2.2.1),(vci x0.2.2.2)]]⟩
theorem t393v1 (x0:Int × Int × Int × Int) :
  loopN (eB A20v3 (C36 u) u) N393v1 u (s393v3 i0 g0 x0) k =
  L393v1 u i0 x0.1 x0.2.1 x0.2.2.1 x0.2.2.2 u 0 (k .ret s393v1) (k (.exit 0) (s393v2 i0 x0.1 x0.2.1 x0.2.2.1 x0.2.2.2)) :=
 Eq.trans (loopN_at (by kernel_rfl)) (q393v1 ..)
theorem g393v2 :
  (kBlk 0 (kSeq (C36 u) u (4 :: 5 :: 8 :: (rl 14 20 [])) A20v5 (finish A20))) .ret s393v1 =
  (some [.v (vi 0),.v (vi 0)]):=by kernel_rfl
theorem g393v3 (x0:Int × Int × Int × Int) :
  (kBlk 0 (kSeq (C36 u) u (4 :: 5 :: 8 :: (rl 14 20 [])) A20v5 (finish A20))) (.exit 0) (s393v2 i0 x0.1 x0.2.1 x0.2.2.1 x0.2.2.2) =
  (bif ((Int.tmod i0 2) != 0) then (some [.v (vi (w64 (x0.2.2.2-x0.2.1))),.v (vi (w64 (x0.2.2.1-x0.1)))]) else (some [.v (vi (w64 (x0.2.2.1-x0.1))),.v (vi (w64 (x0.2.2.2-x0.2.1)))])):=by kernel_rfl
theorem e393:evalF (C36 u) u A20 [.agg (pj kR0 g0),.v (vi i0)]=ob (F393 u g0 i0) fun t=>some [.v (vi t.1),.v (vi t.2)]:=Eq.trans (b:=(ob (F20 u (g0 6).len (g0 6).el (g0 7).len (g0 7).el) fun x0=>(loopN (eB A20v3 (C36 u) u) N393v1 u (s393v3 i0 g0 x0) (kBlk 0 (kSeq (C36 u) u (4 :: 5 :: 8 :: (rl 14 20 [])) A20v5 (finish A20)))))) (by kernel_rfl) (by
 simp only [F393,ob_bif,ob_ob,ob_none,ob_some,nl393v1,t393v1,g393v2,g393v3])
def O393:Ora:=mkO (qc (ar kR0) (q1 (av ci))) (fun x=>F393 u x.1 x.2) fun t=>[.v (vi t.1),.v (vi t.2)]
theorem d393:DO (O393 u) (C36 u) 20 A20:=dO u (fun x=>by exact e393 u x.2 x.1)
def C37:Oracle:=(C36 u).add 20 (fun _=>true) (O393 u)
def B68:An tT Tryz.f68 [.k (0 :: 1 :: (rl 3 18 []))]:=by
 apply Subtype.mk;cbv<;>exact rfl
def A68:AF:=B68.1
def F49 (u:Nat) (x0 x1:Int):Option (Bool) :=
 (bif ((decide (x0<(-1099511627776)))==false) then (bif ((decide (x0>1099511627776))==false) then (bif ((decide (x1<(-1099511627776)))==false) then (some (decide (x1>1099511627776))) else (some true)) else (some true)) else (some true))
theorem e49:evalF (C37 u) u A68 [.agg [(vi i0),(vi i1)]]=ob (F49 u i0 i1) fun t=>some [.v (.b t)]:=by
 simp only [F49,ob_bif,ob_ob,ob_none,ob_some]
 kernel_rfl
def O49:Ora:=mkO (q1 (ag (tc ci (t1 ci)))) (fun x=>F49 u x.1 x.2) fun t=>[.v (.b t)]
theorem d49:DO (O49 u) (C37 u) 68 A68:=dO u (fun x=>by exact e49 u x.1 x.2)
def C38:Oracle:=(C37 u).add 68 (fun _=>true) (O49 u)
def B66:An tT Tryz.f66 [.k (0 :: 1 :: (rl 3 6 []))]:=by
 apply Subtype.mk;cbv<;>exact rfl
def A66:AF:=B66.1
def F42 (u:Nat) (x0:Nat) (x1:FF) (x2:Nat) (x3:FF):Option (Nat × FF) :=
 (bif (Nat.ble (1+x2) 1073741824) then (some ((1+x2),(joinF 1 (rowsF 1 [(.ro false (.pr (.int .i64) (.pr (.int .i64) .nil)) x0 x1)]) x3))) else none)
theorem e42:evalF (C38 u) u A66 [.agg [(ro kP n0 f0),(ro kF n1 f1)]]=ob (F42 u n0 f0 n1 f1) fun t=>some [.v (ro kF t.1 t.2)]:=by
 simp only [F42,ob_bif,ob_ob,ob_none,ob_some]
 kernel_rfl
def O42:Ora:=mkO (q1 (ag (tc (cL kP) (t1 (cL kF))))) (fun x=>F42 u x.1.1 x.1.2 x.2.1 x.2.2) fun t=>[.v (ro kF t.1 t.2)]
theorem d42:DO (O42 u) (C38 u) 66 A66:=dO u (fun x=>by exact e42 u x.1.1 x.2.1 x.1.2 x.2.2)
def C39:Oracle:=(C38 u).add 66 (fun _=>true) (O42 u)
def N73cv1:St→Option St:=nN 0 (rl 2 5 (rl 9 10 []))
def s73cv0:St:=⟨(.x (.c (ro kP n0 f0)) :: .x (.c (.fn 68 0 (listF []))) :: (us 5 (vxi i0 :: vxi i1 :: (us 10 [])))),[]⟩
def s73cv1:St:=⟨(us 4 (vxi i0 :: (us 14 []))),[]⟩
def s73cv2:St:=⟨(us 19 []),[]⟩
def L73cv1 {ρ:Type} (u:Nat) (x0:Nat) (x1:FF) (x2:Int):Nat→Int→(Int→Option ρ)→(Option ρ)→Option ρ
 | 0,_,_,_=>none
 | m+1,x3,k0,k1 =>
  (bif (decide (x3<x2)) then (bif (inb x3 x0) then (ob (F49 u (x1 x3.toNat 0).int (x1 x3.toNat 1).int) fun x4=>(bif x4 then (k0 x3) else (L73cv1 u x0 x1 x2 m (w64 (x3+1)) k0 k1))) else none) else k1)
theorem nl73cv1:∀ (m:Nat) (x0:Int) (k0:Int→Option ρ) (k1:Option ρ),ob (L73cv1 u n0 f0 i0 m x0 k0 k1) ng=L73cv1 u n0 f0 i0 m x0 (fun x1=>ob (k0 x1) ng) (ob k1 ng)
 | 0,_,_,_=>rfl
 | m+1,x0,k0,k1=>by
  simp only [L73cv1,ob_bif,ob_ob,ob_none,nl73cv1 m]
theorem q73cv1:∀ (m:Nat) (x0:Int),
  loopH (eB A92v3 (C39 u) u) N73cv1 m (s73cv0 n0 f0 i0 x0) k=L73cv1 u n0 f0 i0 m x0 (fun x1=>k .ret (s73cv1 x1)) (k (.exit 0) s73cv2)
 | 0,_=>rfl
 | m+1,x0=>by
  simp only [L73cv1,← q73cv1 m]
  kernel_rfl
def F73c (x0:Nat) (x1:FF):Option (Int) :=
 (L73cv1 u x0 x1 (Int.ofNat x0) u 0
  (fun x2=>(some x2))
  (some (-1)))
def s73cv3:St:=⟨[.x (.c (ro kP n0 f0)),.x (.c (.fn 68 0 (listF []))),uu,uu,vxi 0,uu,.x (.c (ro kP n0 f0)),vxi (Int.ofNat n0),vxi 0,uu,uu,uu,uu,uu,uu,uu,uu,uu,uu],[]⟩
theorem t73cv1 :
  loopN (eB A92v3 (C39 u) u) N73cv1 u (s73cv3 n0 f0) k =
  L73cv1 u n0 f0 (Int.ofNat n0) u 0 (fun x0=>k .ret (s73cv1 x0)) (k (.exit 0) s73cv2) :=
 Eq.trans (loopN_at (by kernel_rfl)) (q73cv1 ..)
theorem g73cv2 :
  (kBlk 0 (kSeq (C39 u) u (rl 4 15 []) A92v4 (finish A92))) .ret (s73cv1 i0) =
  (some [.v (vi i0)]):=by kernel_rfl
theorem g73cv3 :
  (kBlk 0 (kSeq (C39 u) u (rl 4 15 []) A92v4 (finish A92))) (.exit 0) s73cv2 =
  (some [.v (vi (-1))]):=by kernel_rfl
theorem e73c:evalF (C39 u) u A92 [.v (ro kP n0 f0),.v (.fn 68 0 (listF []))]=ob (F73c u n0 f0) fun t=>some [.v (vi t)]:=Eq.trans (b:=(loopN (eB A92v3 (C39 u) u) N73cv1 u (s73cv3 n0 f0) (kBlk 0 (kSeq (C39 u) u (rl 4 15 []) A92v4 (finish A92))))) (by kernel_rfl) (by
 simp only [F73c,ob_bif,ob_ob,ob_none,ob_some,nl73cv1,t73cv1,g73cv2,g73cv3])
def O73c:Ora:=mkO (qc (av (cL kP)) (q1 (av (cF 68 0 t0)))) (fun x=>F73c u x.1.1 x.1.2) fun t=>[.v (vi t)]
theorem d73c:DO (O73c u) (C39 u) 92 A92:=dO u (fun x=>by exact e73c u x.1.1 x.1.2)
def C40:Oracle:=(C39 u).add 92 (fun l=>isFn 68 l 1) (O73c u)
def F50c (x0:Nat) (x1:FF):Option (Bool) :=
 (ob (F73c u x0 x1) fun x2=>(some (decide (x2≥0))))
theorem e50c:evalF (C40 u) u A69 [.v (ro kP n0 f0),.v (.fn 68 0 (listF []))]=ob (F50c u n0 f0) fun t=>some [.v (.b t)]:=by
 simp only [F50c,ob_bif,ob_ob,ob_none,ob_some]
 kernel_rfl
def O50c:Ora:=mkO (qc (av (cL kP)) (q1 (av (cF 68 0 t0)))) (fun x=>F50c u x.1.1 x.1.2) fun t=>[.v (.b t)]
theorem d50c:DO (O50c u) (C40 u) 69 A69:=dO u (fun x=>by exact e50c u x.1.1 x.1.2)
def C41:Oracle:=(C40 u).add 69 (fun l=>isFn 68 l 1) (O50c u)
def B70:An tT Tryz.f70 [.k (rl 6 41 []),.h [.slot 4 kP],.k (0 :: 2 :: 3 :: 5 :: 6 :: (rl 10 42 [])),.k [],.k (0 :: 2 :: 3 :: (rl 5 47 [])),.k (6 :: (rl 11 35 [])),.k (rl 13 6 []),.k (rl 19 11 []),.h [],.k (0 :: 2 :: 3 :: 5 :: (rl 10 10 (rl 22 30 []))),.k [],.k (0 :: 2 :: 3 :: 5 :: (rl 10 42 [])),.k (rl 47 4 []),.k (0 :: 1 :: 2 :: (rl 4 48 []))]:=by
 apply Subtype.mk;cbv<;>exact rfl
def A70:AF:=B70.1
def A70v9:AC:=sA A70.body [1,1,1]
def A70v7:AC:=sA A70.body [1,1,0,1,0,0]
def A70v6:AC:=sA A70v7 [1,1]
def A70v5:AC:=sA A70v6 [1]
def A70v4:AC:=sA A70v6 [0,0,1,1]
def A70v3:AC:=sA A70v4 [1]
def A70v2:AC:=sA A70v4 [0,1,0,0]
def N51v2:St→Option St:=nN 2 (0 :: 2 :: 3 :: 5 :: (rl 10 10 (rl 22 30 [])))
def s51v0:St:=⟨(.u :: .x (.c (.rp kB g0)) :: .u :: .u :: .x (.own 0 0 n0) :: .u :: .x (.ptr 1 0) :: .x (.c (ro kP n1 f0)) :: vxi i0 :: vxi i1 :: (us 10 (vxi (g1 3).int :: vxi i2 :: (us 30 [])))),[.arr kP n0 f1,.box [(vci i3),(vci i4)]]⟩
def s51v1:St:=⟨(.u :: .x (.c (.rp kB g0)) :: .u :: .u :: .x (.own 0 0 n0) :: .u :: .x (.ptr 1 0) :: .x (.c (ro kP n1 f0)) :: vxi i0 :: vxi i1 :: (us 42 [])),[.arr kP n0 f1,.box [(vci i2),(vci i3)]]⟩
def L51v2 {ρ:Type} (u:Nat) (x0:Nat→CV) (x1 x2:Nat) (x3:FF) (x4 x5:Int) (x6:Nat→CV) (x7:FF):Nat→Int→Int→Int→(Int→Int→Option ρ)→Option ρ
 | 0,_,_,_,_=>none
 | m+1,x8,x9,xA,k0 =>
  (bif (decide (x8<(x6 3).int)) then (L51v2 u x0 x1 x2 x3 x4 x5 x6 x7 m (w64 (x8+1)) (w64 (0-xA)) x9 k0) else (k0 x9 xA))
theorem nl51v2:∀ (m:Nat) (x0 x1 x2:Int) (k0:Int→Int→Option ρ),ob (L51v2 u g0 n0 n1 f0 i0 i1 g1 f1 m x0 x1 x2 k0) ng=L51v2 u g0 n0 n1 f0 i0 i1 g1 f1 m x0 x1 x2 (fun x3 x4=>ob (k0 x3 x4) ng)
 | 0,_,_,_,_=>rfl
 | m+1,x0,x1,x2,k0=>by
  simp only [L51v2,ob_bif,ob_ob,ob_none,nl51v2 m]
theorem q51v2:∀ (m:Nat) (x0 x1 x2:Int),
  loopH (eB A70v2 (C41 u) u) N51v2 m (s51v0 n0 n1 f0 f1 i0 i1 x0 x1 x2 g0 g1) k=L51v2 u g0 n0 n1 f0 i0 i1 g1 f1 m x0 x1 x2 (fun x3 x4=>k (.exit 2) (s51v1 n0 n1 f0 f1 i0 i1 x3 x4 g0))
 | 0,_,_,_=>rfl
 | m+1,x0,x1,x2=>by
  simp only [L51v2,← q51v2 m]
  kernel_rfl
def N51v3:St→Option St:=nN 1 (0 :: 2 :: 3 :: 5 :: 6 :: (rl 10 42 []))
def s51v2:St:=⟨(.u :: .x (.c (.rp kB g0)) :: .u :: .u :: .x (.own 0 0 n0) :: .u :: .u :: .x (.c (ro kP n1 f0)) :: vxi i0 :: vxi i1 :: (us 42 [])),[.arr kP n0 f1]⟩
def s51v3:St:=⟨(.u :: .x (.c (.rp kB g0)) :: .u :: .u :: .x (.own 0 0 n0) :: (us 47 [])),[.arr kP n0 f0]⟩
def L51v3 {ρ:Type} (u:Nat) (x0:Nat→CV) (x1:Nat) (x2:FF) (x3:Int):Nat→Nat→Int→FF→(Nat→FF→Option ρ)→Option ρ
 | 0,_,_,_,_=>none
 | m+1,x4,x5,x6,k0 =>
  (bif (decide (x5<x3)) then (bif (inb x5 x1) then (bif (x0 4).bool then (L51v2 u x0 x4 x1 x2 x3 x5 x0 x6 u 0 (w64 (0-(x2 x5.toNat 0).int)) (x2 x5.toNat 1).int
  (fun x7 x8=>(bif (Nat.ble (x4+1) 1073741824) then (L51v3 u x0 x1 x2 x3 m (x4+1) (w64 (x5+1)) (joinF x4 x6 (rowsF 2 [(.i .i64 (w64 (x7+(x0 1).int))),(.i .i64 (w64 (x8+(x0 2).int)))])) k0) else none))) else (L51v2 u x0 x4 x1 x2 x3 x5 x0 x6 u 0 (x2 x5.toNat 0).int (x2 x5.toNat 1).int
  (fun x9 xA=>(bif (Nat.ble (x4+1) 1073741824) then (L51v3 u x0 x1 x2 x3 m (x4+1) (w64 (x5+1)) (joinF x4 x6 (rowsF 2 [(.i .i64 (w64 (x9+(x0 1).int))),(.i .i64 (w64 (xA+(x0 2).int)))])) k0) else none)))) else none) else (k0 x4 x6))
theorem nl51v3:∀ (m:Nat) (x0:Nat) (x1:Int) (x2:FF) (k0:Nat→FF→Option ρ),ob (L51v3 u g0 n0 f0 i0 m x0 x1 x2 k0) ng=L51v3 u g0 n0 f0 i0 m x0 x1 x2 (fun x3 x4=>ob (k0 x3 x4) ng)
 | 0,_,_,_,_=>rfl
 | m+1,x0,x1,x2,k0=>by
  simp only [L51v3,ob_bif,ob_ob,ob_none,nl51v3 m,nl51v2]
def s51v4:St:=⟨(.u :: .x (.c (.rp kB g0)) :: .u :: .u :: .x (.own 0 0 n0) :: .u :: .x (.ptr 1 0) :: .x (.c (ro kP n1 f0)) :: vxi i0 :: vxi i1 :: vxb true :: .x (.c (.rp kP (f0 i1.toNat))) :: .agg [(vci (f0 i1.toNat 0).int),(vci (f0 i1.toNat 1).int)] :: (us 6 (.x (.c (.rp (.pr (.int .i64) (.pr .bool .nil)) (fun j=>g0 (3+j)))) :: vxi (g0 3).int :: vxi 0 :: (us 30 [])))),[.arr kP n0 f1,.box [(vci (w64 (0-(f0 i1.toNat 0).int))),(vci (f0 i1.toNat 1).int)]]⟩
def s51v5:St:=⟨(.u :: .x (.c (.rp kB g0)) :: .u :: .u :: .x (.own 0 0 n0) :: .u :: .x (.ptr 1 0) :: .x (.c (ro kP n1 f0)) :: vxi i0 :: vxi i1 :: vxb true :: .x (.c (.rp kP (f0 i1.toNat))) :: .agg [(vci (f0 i1.toNat 0).int),(vci (f0 i1.toNat 1).int)] :: (us 6 (.x (.c (.rp (.pr (.int .i64) (.pr .bool .nil)) (fun j=>g0 (3+j)))) :: vxi (g0 3).int :: vxi 0 :: (us 30 [])))),[.arr kP n0 f1,.box [(vci (f0 i1.toNat 0).int),(vci (f0 i1.toNat 1).int)]]⟩
theorem r51v3 :
  loopH (eB A70v7 (C41 u) u) N51v3 (m+1) (s51v2 n1 n0 f0 f1 i0 i1 g0) k =
  (bif (decide (i1<i0)) then (bif (inb i1 n0) then (bif (g0 4).bool then (loopN (eB A70v2 (C41 u) u) N51v2 u (s51v4 n1 n0 f0 f1 i0 i1 g0) (kBlk 2 (kSeq (C41 u) u (rl 19 11 []) A70v3 (kBlk 1 (kSeq (C41 u) u (6 :: (rl 11 35 [])) A70v5 (kLoop (eB A70v7 (C41 u) u) N51v3 m k)))))) else (loopN (eB A70v2 (C41 u) u) N51v2 u (s51v5 n1 n0 f0 f1 i0 i1 g0) (kBlk 2 (kSeq (C41 u) u (rl 19 11 []) A70v3 (kBlk 1 (kSeq (C41 u) u (6 :: (rl 11 35 [])) A70v5 (kLoop (eB A70v7 (C41 u) u) N51v3 m k))))))) else none) else (k (.exit 0) (s51v3 n1 f1 g0))):=by kernel_rfl
theorem t51v1 :
  loopN (eB A70v2 (C41 u) u) N51v2 u (s51v4 n0 n1 f0 f1 i0 i1 g0) k =
  L51v2 u g0 n0 n1 f0 i0 i1 g0 f1 u 0 (w64 (0-(f0 i1.toNat 0).int)) (f0 i1.toNat 1).int (fun x0 x1=>k (.exit 2) (s51v1 n0 n1 f0 f1 i0 i1 x0 x1 g0)) :=
 Eq.trans (loopN_at (by kernel_rfl)) (q51v2 ..)
theorem g51v2 :
  (kBlk 2 (kSeq (C41 u) u (rl 19 11 []) A70v3 (kBlk 1 (kSeq (C41 u) u (6 :: (rl 11 35 [])) A70v5 (kLoop (eB A70v7 (C41 u) u) N51v3 m k))))) (.exit 2) (s51v1 n0 n1 f0 f1 i0 i1 i2 i3 g0) =
  (bif (Nat.ble (n0+1) 1073741824) then (loopH (eB A70v7 (C41 u) u) N51v3 m (s51v2 (n0+1) n1 f0 (joinF n0 f1 (rowsF 2 [(vi (w64 (i2+(g0 1).int))),(vi (w64 (i3+(g0 2).int)))])) i0 (w64 (i1+1)) g0) k) else none):=by kernel_rfl
theorem t51v3 :
  loopN (eB A70v2 (C41 u) u) N51v2 u (s51v5 n0 n1 f0 f1 i0 i1 g0) k =
  L51v2 u g0 n0 n1 f0 i0 i1 g0 f1 u 0 (f0 i1.toNat 0).int (f0 i1.toNat 1).int (fun x0 x1=>k (.exit 2) (s51v1 n0 n1 f0 f1 i0 i1 x0 x1 g0)) :=
 Eq.trans (loopN_at (by kernel_rfl)) (q51v2 ..)
theorem g51v4 :
  (kBlk 2 (kSeq (C41 u) u (rl 19 11 []) A70v3 (kBlk 1 (kSeq (C41 u) u (6 :: (rl 11 35 [])) A70v5 (kLoop (eB A70v7 (C41 u) u) N51v3 m k))))) (.exit 2) (s51v1 n0 n1 f0 f1 i0 i1 i2 i3 g0) =
  (bif (Nat.ble (n0+1) 1073741824) then (loopH (eB A70v7 (C41 u) u) N51v3 m (s51v2 (n0+1) n1 f0 (joinF n0 f1 (rowsF 2 [(vi (w64 (i2+(g0 1).int))),(vi (w64 (i3+(g0 2).int)))])) i0 (w64 (i1+1)) g0) k) else none):=by kernel_rfl
theorem q51v3:∀ (m:Nat) (x0:Nat) (x1:Int) (x2:FF),
  loopH (eB A70v7 (C41 u) u) N51v3 m (s51v2 x0 n0 f0 x2 i0 x1 g0) k=L51v3 u g0 n0 f0 i0 m x0 x1 x2 (fun x3 x4=>k (.exit 0) (s51v3 x3 x4 g0))
 | 0,_,_,_=>rfl
 | m+1,x0,x1,x2=>by
  rw [r51v3]
  simp only [L51v3,q51v3 m,t51v1,g51v2,t51v3,g51v4]
def F51 (x0:Nat) (x1:FF) (x2:Nat→CV):Option (Nat × FF) :=
 (L51v3 u x2 x0 x1 (Int.ofNat x0) u 0 0 (fun _ _=>.any)
  (fun x3 x4=>(bif (x2 4).bool then (bif (Nat.beq x3 x3) then (bif (Nat.beq x3 0) then (some (x3,x4)) else (some (x3,(revF x3 x4)))) else none) else (some (x3,x4)))))
def s51v6:St:=⟨[.x (.c (ro kP n0 f0)),.x (.c (.rp kB g0)),uu,.x (vcn),.x (.own 0 0 0),uu,uu,.x (.c (ro kP n0 f0)),vxi (Int.ofNat n0),vxi 0,uu,uu,uu,uu,uu,uu,uu,uu,uu,uu,uu,uu,uu,uu,uu,uu,uu,uu,uu,uu,uu,uu,uu,uu,uu,uu,uu,uu,uu,uu,uu,uu,uu,uu,uu,uu,uu,uu,uu,uu,uu,uu],[.arr kP 0 nilF]⟩
theorem t51v5 :
  loopN (eB A70v7 (C41 u) u) N51v3 u (s51v6 n0 f0 g0) k =
  L51v3 u g0 n0 f0 (Int.ofNat n0) u 0 0 nilF (fun x0 x1=>k (.exit 0) (s51v3 x0 x1 g0)) :=
 Eq.trans (loopN_at (by kernel_rfl)) (q51v3 ..)
theorem g51v6 :
  (kBlk 0 (kSeq (C41 u) u (rl 6 41 []) A70v9 (finish A70))) (.exit 0) (s51v3 n0 f0 g0) =
  (bif (g0 4).bool then (bif (Nat.beq n0 n0) then (bif (Nat.beq n0 0) then (some [.v (ro kP n0 f0)]) else (some [.v (ro kP n0 (revF n0 f0))])) else none) else (some [.v (ro kP n0 f0)])):=by kernel_rfl
theorem e51:evalF (C41 u) u A70 [.v (ro kP n0 f0),.v (.rp kB g0)]=ob (F51 u n0 f0 g0) fun t=>some [.v (ro kP t.1 t.2)]:=Eq.trans (b:=(loopN (eB A70v7 (C41 u) u) N51v3 u (s51v6 n0 f0 g0) (kBlk 0 (kSeq (C41 u) u (rl 6 41 []) A70v9 (finish A70))))) (by kernel_rfl) (by
 simp only [F51,ob_bif,ob_ob,ob_none,ob_some,nl51v3,t51v5,g51v6])
def O51:Ora:=mkO (qc (av (cL kP)) (q1 (av (cP kB)))) (fun x=>F51 u x.1.1 x.1.2 x.2) fun t=>[.v (ro kP t.1 t.2)]
theorem d51:DO (O51 u) (C41 u) 70 A70:=dO u (fun x=>by exact e51 u x.1.1 x.1.2 x.2)
def C42:Oracle:=(C41 u).add 70 (fun _=>true) (O51 u)
def A45v1:AC:=(.region 8 [o1 35 (bk .add 3 28 1),mv 28 35] 0 none)
def A45v2:AC:=(.seq (.block 1
 (.seq (.region 5 [o1 30 (.indexAddr 50 49 1 (tm 26) (tm 28)),o1 31 (lo 49 30),o1 6 (sg 31)] 0 none) []
  (.seq (.region 6 [mv 32 6,o1 33 (.call 69 [(tm 32),(.func 68)] [49,109] .snap)] 0 none) []
  (.cond (tm 33)
  (.seq (.region 7 [o1 34 (.build 52 [.c (.ro true kP 0 nilF),.c (.ro true kF 0 nilF)] [(0,1),(1,1)] 0 []),o0 (.store 52 2 (tm 4) (tm 34))] 0 none) []
   (.ret (rl 0 4 (rl 5 54 []))))
  .skip)))) (6 :: (rl 30 5 []))
 A45v1)
def A45v3:AC:=(.seq (.region 4 [o1 29 (bt .lss 3 28 27)] 0 none) []
 (.seq (.cond (tm 29)
 .skip
 (.exit 0 (0 :: 1 :: (rl 5 54 [])))) []
 A45v2))
def A45v4:AC:=(.seq (.block 3
 (.seq (.region 13 [o1 47 (.indexAddr 50 49 1 (tm 43) (tm 45)),o1 48 (lo 49 47),o1 10 (sg 48)] 0 none) []
  (.region 14 [o1 49 (fa 52 8 1 1),o1 50 (lo 50 49),mv 51 7,mv 52 10,o1 53 (.callv (tm 51) [(tm 52)] [49] .freeze),o1 54 (.buildSlice 0 50 49 kF 1 [.c (.ro true kP 0 nilF)] [(0,(tm 53))]),o1 55 (.append 1 50 49 kF 24 (tm 50) (tm 54)),o1 56 (fa 52 8 1 1),o0 (.store 50 1 (tm 56) (tm 55))] 2 (some [[],[0],[],[],[2,3],[2,3,4],(rl 0 6 []),(rl 0 7 []),(rl 0 8 [])])))) []
 (.region 15 [o1 57 (bk .add 3 45 1),mv 45 57] 0 none))
def A45v5:AC:=(.seq (.region 12 [o1 46 (bt .lss 3 45 44)] 0 none) []
 (.seq (.cond (tm 46)
 .skip
 (.exit 2 (rl 0 4 (5 :: 6 :: 7 :: (rl 9 50 []))))) []
 A45v4))
def A45v6:AC:=(.seq (.region 16 [o1 58 (ln 52 2 8),o0 (.store 52 2 (tm 4) (tm 58))] 0 none) []
 (.ret (rl 0 4 (rl 5 54 []))))
def A45v7:AC:=(.seq (.region 9 [o1 36 (.mkfn 70 [(tm 3)]),o1 7 (sg 36)] 0 none) []
 (.seq (.region 10 [mv 37 7,o1 38 (fa 52 2 0 0),o1 39 (lo 49 38),o1 40 (.callv (tm 37) [(tm 39)] [49] .freeze),o1 41 (.build 52 [.c (.ro true kP 0 nilF),.c (.ro true kF 0 nilF)] [(0,1),(1,1)] 0 [(0,(tm 40))]),o1 8 (.alloc 0 52 [vcn,vcn]),o0 (.store 52 2 (tm 8) (tm 41))] 1 none) []
 (.seq (.seq (.region 11 [o1 42 (fa 52 2 1 1),o1 43 (lo 50 42),o1 44 (.len 50 false (tm 43)),o1 45 (.move (ic 0))] 0 none) []
 (.block 2
 (.loop [.cell 8 1 kF] (rl 0 4 (5 :: 6 :: (rl 9 34 (rl 46 13 []))))
  A45v5))) (10 :: (rl 42 16 []))
 A45v6)))
def A45v8:AC:=(.seq (.seq (.region 3 [o1 25 (ln 52 2 2),o1 26 (cf 66 [25] [52]),o1 27 (.len 50 false (tm 26)),o1 28 (.move (ic 0))] 0 none) []
 (.block 0
 (.loop [] (0 :: 1 :: (rl 5 21 (rl 29 30 [])))
  A45v3))) (6 :: (rl 25 11 []))
 A45v7)
def A45:AF:=⟨59,[.cell 4 52 (some 2)],
 (.seq (.region 0 [o1 2 (bx 0 52 0),o1 3 (bx 1 44 1),o1 4 (.alloc 2 52 [vcn,vcn])] 3 none) []
 (.seq (.seq (.region 1 [o1 11 (fa 44 3 2 3),o1 12 (lo 3 11),o1 13 (bk .lss 3 12 0),mv 14 13,og 15 (fa 44 3 2 3) 14 false,og 16 (lo 3 15) 14 false,og 17 (bk .gtr 3 16 3) 14 false,o1 18 (pa 14 17),mv 19 18,og 20 (fa 44 3 1 1) 19 false,og 21 (ln 42 2 20) 19 false,og 22 (cs 68 [21] [42]) 19 false,o1 23 (pa 19 22)] 0 none) []
 (.cond (tm 23)
 (.seq (.region 2 [o1 24 (.build 52 [.c (.ro true kP 0 nilF),.c (.ro true kF 0 nilF)] [(0,1),(1,1)] 0 []),o0 (.store 52 2 (tm 4) (tm 24))] 0 none) []
  (.ret (rl 0 4 (rl 5 54 []))))
 .skip)) (rl 11 14 [])
 A45v8))⟩
def N25v1:St→Option St:=nN 3 (0 :: 1 :: (rl 5 21 (rl 29 30 [])))
def s25v0:St:=⟨(.u :: .u :: .x (.ptr 0 0) :: .x (.ptr 1 0) :: .x (.ptr 2 0) :: (us 21 (.x (.c (ro kF n0 f0)) :: vxi i0 :: vxi i1 :: (us 30 [])))),[.box [(.c (ro kP n1 f1)),(.c (ro kF n2 f2))],.box [(vcs w0),(vci i2),(vci i3),(vci i4),(vcb b0)],.box [(vcn),(vcn)]]⟩
def s25v1:St:=⟨(us 4 (.x (.ptr 2 0) :: (us 54 []))),[.box [(.c (ro kP n0 f0)),(.c (ro kF n1 f1))],.box [(vcs w0),(vci i0),(vci i1),(vci i2),(vcb b0)],.box [(.c (.ro true kP 0 nilF)),(.c (.ro true kF 0 nilF))]]⟩
def s25v2:St:=⟨(.u :: .u :: .x (.ptr 0 0) :: .x (.ptr 1 0) :: .x (.ptr 2 0) :: (us 54 [])),[.box [(.c (ro kP n0 f0)),(.c (ro kF n1 f1))],.box [(vcs w0),(vci i0),(vci i1),(vci i2),(vcb b0)],.box [(vcn),(vcn)]]⟩
def L25v1 {ρ:Type} (u:Nat) (x0:Nat) (x1:FF) (x2:Int) (x3:Nat) (x4:FF) (x5:Nat) (x6:FF) (x7:ByteArray) (x8 x9 xA:Int) (xB:Bool):Nat→Int→(Option ρ)→(Option ρ)→Option ρ
 | 0,_,_,_=>none
 | m+1,xC,k0,k1 =>
  (bif (decide (xC<x2)) then (bif (inb xC x0) then (ob (F50c u (x1 xC.toNat 0).len (x1 xC.toNat 0).el) fun xD=>(bif xD then k0 else (L25v1 u x0 x1 x2 x3 x4 x5 x6 x7 x8 x9 xA xB m (w64 (xC+1)) k0 k1))) else none) else k1)
theorem nl25v1:∀ (m:Nat) (x0:Int) (k0:Option ρ) (k1:Option ρ),ob (L25v1 u n0 f0 i0 n1 f1 n2 f2 w0 i1 i2 i3 b0 m x0 k0 k1) ng=L25v1 u n0 f0 i0 n1 f1 n2 f2 w0 i1 i2 i3 b0 m x0 (ob k0 ng) (ob k1 ng)
 | 0,_,_,_=>rfl
 | m+1,x0,k0,k1=>by
  simp only [L25v1,ob_bif,ob_ob,ob_none,nl25v1 m]
theorem q25v1:∀ (m:Nat) (x0:Int),
  loopH (eB A45v3 (C42 u) u) N25v1 m (s25v0 n0 n1 n2 f0 f1 f2 i0 x0 i1 i2 i3 b0 w0) k=L25v1 u n0 f0 i0 n1 f1 n2 f2 w0 i1 i2 i3 b0 m x0 (k .ret (s25v1 n1 n2 f1 f2 i1 i2 i3 b0 w0)) (k (.exit 0) (s25v2 n1 n2 f1 f2 i1 i2 i3 b0 w0))
 | 0,_=>rfl
 | m+1,x0=>by
  simp only [L25v1,← q25v1 m]
  kernel_rfl
def N25v2:St→Option St:=nN 5 (rl 0 4 (5 :: 6 :: (rl 9 34 (rl 46 13 []))))
def s25v3:St:=⟨(us 4 (.x (.ptr 2 0) :: .u :: .u :: .x (.c (.fn 70 1 (listF [(.rp kB (listF [(.s w0),(vi i0),(vi i1),(vi i2),(.b b0)]))]))) :: .x (.ptr 3 0) :: (us 34 (.x (.c (ro kF n0 f0)) :: vxi i3 :: vxi i4 :: (us 13 []))))),[.box [(.c (ro kP n1 f1)),(.c (ro kF n0 f0))],.dead,.box [(vcn),(vcn)],.box [(.c (ro kP n2 f2)),(.own 4 0 n3)],.arr kF n3 f3]⟩
def s25v4:St:=⟨(us 4 (.x (.ptr 2 0) :: (us 3 (.x (.ptr 3 0) :: (us 50 []))))),[.box [(.c (ro kP n0 f0)),(.c (ro kF n1 f1))],.dead,.box [(vcn),(vcn)],.box [(.c (ro kP n2 f2)),(.own 4 0 n3)],.arr kF n3 f3]⟩
def L25v2 {ρ:Type} (u:Nat) (x0:ByteArray) (x1 x2 x3:Int) (x4:Bool) (x5:Nat) (x6:FF) (x7:Int) (x8:Nat) (x9:FF) (xA:Nat) (xB:FF):Nat→Int→Nat→FF→(Nat→FF→Option ρ)→Option ρ
 | 0,_,_,_,_=>none
 | m+1,xC,xD,xE,k0 =>
  (bif (decide (xC<x7)) then (bif (inb xC x5) then (ob (F51 u (x6 xC.toNat 0).len (x6 xC.toNat 0).el (listF [(.s x0),(.i .i64 x1),(.i .i64 x2),(.i .i64 x3),(.b x4)])) fun xF=>(bif (Nat.ble (xD+1) 1073741824) then (L25v2 u x0 x1 x2 x3 x4 x5 x6 x7 x8 x9 xA xB m (w64 (xC+1)) (xD+1) (joinF xD xE (rowsF 1 [(.ro false (.pr (.int .i64) (.pr (.int .i64) .nil)) xF.1 xF.2)])) k0) else none)) else none) else (k0 xD xE))
theorem nl25v2:∀ (m:Nat) (x0:Int) (x1:Nat) (x2:FF) (k0:Nat→FF→Option ρ),ob (L25v2 u w0 i0 i1 i2 b0 n0 f0 i3 n1 f1 n2 f2 m x0 x1 x2 k0) ng=L25v2 u w0 i0 i1 i2 b0 n0 f0 i3 n1 f1 n2 f2 m x0 x1 x2 (fun x3 x4=>ob (k0 x3 x4) ng)
 | 0,_,_,_,_=>rfl
 | m+1,x0,x1,x2,k0=>by
  simp only [L25v2,ob_bif,ob_ob,ob_none,nl25v2 m]
theorem q25v2:∀ (m:Nat) (x0:Int) (x1:Nat) (x2:FF),
  loopH (eB A45v5 (C42 u) u) N25v2 m (s25v3 n0 n1 n2 x1 f0 f1 f2 x2 i0 i1 i2 i3 x0 b0 w0) k=L25v2 u w0 i0 i1 i2 b0 n0 f0 i3 n1 f1 n2 f2 m x0 x1 x2 (fun x3 x4=>k (.exit 2) (s25v4 n1 n0 n2 x3 f1 f0 f2 x4))
 | 0,_,_,_=>rfl
 | m+1,x0,x1,x2=>by
  simp only [L25v2,← q25v2 m]
  kernel_rfl
def FT25 (x0:Nat) (x1:FF) (x2:Nat) (x3:FF) (x4:ByteArray) (x5 x6 x7:Int) (x8:Bool):Option (Bool × Nat × FF × Nat × FF) :=
 (bif ((decide (x7<0))==false) then (bif ((decide (x7>3))==false) then (ob (F49 u x5 x6) fun x9=>(bif x9 then (some (true,0,(fun _ _=>.any),0,(fun _ _=>.any))) else (ob (F42 u x0 x1 x2 x3) fun xA=>(L25v1 u xA.1 xA.2 (Int.ofNat xA.1) x0 x1 x2 x3 x4 x5 x6 x7 x8 u 0
  (some (true,0,(fun _ _=>.any),0,(fun _ _=>.any)))
  (ob (F51 u x0 x1 (listF [(.s x4),(.i .i64 x5),(.i .i64 x6),(.i .i64 x7),(.b x8)])) fun xB=>(L25v2 u x4 x5 x6 x7 x8 x2 x3 (Int.ofNat x2) x0 x1 xB.1 xB.2 u 0 0 (fun _ _=>.any)
  (fun xC xD=>(some (false,xB.1,xB.2,xC,xD))))))))) else (some (true,0,(fun _ _=>.any),0,(fun _ _=>.any)))) else (some (true,0,(fun _ _=>.any),0,(fun _ _=>.any))))
def s25v5 (x0:Nat × FF):St:=⟨(.agg [(.c (ro kP n0 f0)),(.c (ro kF n1 f1))] :: .agg [(vcs w0),(vci i0),(vci i1),(vci i2),(vcb b0)] :: .x (.ptr 0 0) :: .x (.ptr 1 0) :: .x (.ptr 2 0) :: uu :: uu :: uu :: uu :: uu :: uu :: (us 14 [.agg [(.c (ro kP n0 f0)),(.c (ro kF n1 f1))],.x (.c (ro kF x0.1 x0.2)),vxi (Int.ofNat x0.1),vxi 0,uu,uu,uu,uu,uu,uu,uu,uu,uu,uu,uu,uu,uu,uu,uu,uu,uu,uu,uu,uu,uu,uu,uu,uu,uu,uu,uu,uu,uu,uu])),[.box [(.c (ro kP n0 f0)),(.c (ro kF n1 f1))],.box [(vcs w0),(vci i0),(vci i1),(vci i2),(vcb b0)],.box [(vcn),(vcn)]]⟩
theorem t25v1 (x0:Nat × FF) :
  loopN (eB A45v3 (C42 u) u) N25v1 u (s25v5 n0 n1 f0 f1 i0 i1 i2 b0 w0 x0) k =
  L25v1 u x0.1 x0.2 (Int.ofNat x0.1) n0 f0 n1 f1 w0 i0 i1 i2 b0 u 0 (k .ret (s25v1 n0 n1 f0 f1 i0 i1 i2 b0 w0)) (k (.exit 0) (s25v2 n0 n1 f0 f1 i0 i1 i2 b0 w0)) :=
 Eq.trans (loopN_at (by kernel_rfl)) (q25v1 ..)
theorem g25v2 :
  (kBlk 0 (kSeq (C42 u) u (6 :: (rl 25 11 [])) A45v7 (finish A45))) .ret (s25v1 n0 n1 f0 f1 i0 i1 i2 b0 w0) =
  (some [.agg [(.ro true kP 0 nilF),(.ro true kF 0 nilF)]]):=by kernel_rfl
def s25v6 (x0:Nat × FF):St:=⟨(.u :: .u :: .x (.ptr 0 0) :: .x (.c (.rp kB (listF [(.s w0),(vi i0),(vi i1),(vi i2),(.b b0)]))) :: .x (.ptr 2 0) :: .u :: .u :: .x (.c (.fn 70 1 (listF [(.rp kB (listF [(.s w0),(vi i0),(vi i1),(vi i2),(.b b0)]))]))) :: .x (.ptr 3 0) :: (us 27 (.x (.c (.fn 70 1 (listF [(.rp kB (listF [(.s w0),(vi i0),(vi i1),(vi i2),(.b b0)]))]))) :: .x (.c (.fn 70 1 (listF [(.rp kB (listF [(.s w0),(vi i0),(vi i1),(vi i2),(.b b0)]))]))) :: .x (.ptr 0 0) :: .x (.c (ro kP n0 f0)) :: .x (.c (ro kP x0.1 x0.2)) :: .agg [(.c (ro kP x0.1 x0.2)),(.c (.ro true kF 0 nilF))] :: .x (.ptr 0 1) :: .x (.c (ro kF n1 f1)) :: vxi (Int.ofNat n1) :: vxi 0 :: (us 13 [])))),[.box [(.c (ro kP n0 f0)),(.c (ro kF n1 f1))],.dead,.box [(vcn),(vcn)],.box [(.c (ro kP x0.1 x0.2)),(.own 4 0 0)],.arr kF 0 nilF]⟩
theorem g25v3 :
  (kBlk 0 (kSeq (C42 u) u (6 :: (rl 25 11 [])) A45v7 (finish A45))) (.exit 0) (s25v2 n0 n1 f0 f1 i0 i1 i2 b0 w0) =
  (ob (F51 u n0 f0 (listF [(.s w0),(vi i0),(vi i1),(vi i2),(.b b0)])) fun x0=>(loopN (eB A45v5 (C42 u) u) N25v2 u (s25v6 n0 n1 f0 f1 i0 i1 i2 b0 w0 x0) (kBlk 2 (kSeq (C42 u) u (10 :: (rl 42 16 [])) A45v6 (finish A45))))):=by kernel_rfl
theorem t25v4 (x0:Nat × FF) :
  loopN (eB A45v5 (C42 u) u) N25v2 u (s25v6 n0 n1 f0 f1 i0 i1 i2 b0 w0 x0) k =
  L25v2 u w0 i0 i1 i2 b0 n1 f1 (Int.ofNat n1) n0 f0 x0.1 x0.2 u 0 0 nilF (fun x1 x2=>k (.exit 2) (s25v4 n0 n1 x0.1 x1 f0 f1 x0.2 x2)) :=
 Eq.trans (loopN_at (by kernel_rfl)) (q25v2 ..)
theorem g25v5 (x0:Nat × FF) :
  (kBlk 2 (kSeq (C42 u) u (10 :: (rl 42 16 [])) A45v6 (finish A45))) (.exit 2) (s25v4 n0 n1 x0.1 n2 f0 f1 x0.2 f2) =
  (some [.agg [(ro kP x0.1 x0.2),(ro kF n2 f2)]]):=by kernel_rfl
theorem e25:evalF (C42 u) u A45 [.agg [(ro kP n0 f0),(ro kF n1 f1)],.agg [(.s w0),(vi i0),(vi i1),(vi i2),(.b b0)]]=ob (FT25 u n0 f0 n1 f1 w0 i0 i1 i2 b0) fun t=>some (bif t.1 then [.agg [(.ro true kP 0 nilF),(.ro true kF 0 nilF)]] else [.agg [(ro kP t.2.1 t.2.2.1),(ro kF t.2.2.2.1 t.2.2.2.2)]]):=Eq.trans (b:=(bif ((decide (i2<0))==false) then (bif ((decide (i2>3))==false) then (ob (F49 u i0 i1) fun x0=>(bif x0 then (some [.agg [(.ro true kP 0 nilF),(.ro true kF 0 nilF)]]) else (ob (F42 u n0 f0 n1 f1) fun x1=>(loopN (eB A45v3 (C42 u) u) N25v1 u (s25v5 n0 n1 f0 f1 i0 i1 i2 b0 w0 x1) (kBlk 0 (kSeq (C42 u) u (6 :: (rl 25 11 [])) A45v7 (finish A45))))))) else (some [.agg [(.ro true kP 0 nilF),(.ro true kF 0 nilF)]])) else (some [.agg [(.ro true kP 0 nilF),(.ro true kF 0 nilF)]]))) (by kernel_rfl) (by
 simp only [FT25,ob_bif,ob_ob,ob_none,ob_some,nl25v1,nl25v2,t25v1,g25v2,g25v3,t25v4,g25v5,cond_true,cond_false])
def F25 (x0:Nat) (x1:FF) (x2:Nat) (x3:FF) (x4:ByteArray) (x5 x6 x7:Int) (x8:Bool):Option (Nat × FF × Nat × FF):=ob (FT25 u x0 x1 x2 x3 x4 x5 x6 x7 x8) fun t=>some (bif t.1 then (0,(fun _ _=>.any),0,(fun _ _=>.any)) else (t.2.1,t.2.2.1,t.2.2.2.1,t.2.2.2.2))
def O25:Ora:=mkO (qc (ag (tc (cL kP) (t1 (cL kF)))) (q1 (ag (tc cS (tc ci (tc ci (tc ci (t1 cB)))))))) (fun x=>F25 u x.1.1.1 x.1.1.2 x.1.2.1 x.1.2.2 x.2.1 x.2.2.1 x.2.2.2.1 x.2.2.2.2.1 x.2.2.2.2.2) fun t=>[.agg [(ro kP t.1 t.2.1),(ro kF t.2.2.1 t.2.2.2)]]
theorem d25:DO (O25 u) (C42 u) 45 A45:=dW u (fun x=>by exact e25 u x.1.1.1 x.1.2.1 x.1.1.2 x.1.2.2 x.2.2.1 x.2.2.2.1 x.2.2.2.2.1 x.2.2.2.2.2 x.2.1) (fun _=>rfl) fun t=>by
 obtain ⟨b,t⟩:=t
 cases b with
 | true=>exact (.cons (WkA.agg (.cons (Wk.ro (by rfl)) (.cons (Wk.ro (by rfl)) .nil))) .nil)
 | false =>
  exact (.cons (WkA.agg (.cons (Wk.refl _) (.cons (Wk.refl _) .nil))) .nil)
def C43:Oracle:=(C42 u).add 45 (fun _=>true) (O25 u)
def B25:An tT Tryz.f25 [.g [0,1,3,4],.k (rl 0 6 (rl 8 35 []))]:=by
 apply Subtype.mk;cbv<;>exact rfl
def A25:AF:=B25.1
def F394 (x0:Nat→CV) (x1 x2 x3:Int):Option (ByteArray × Int × Int × Int × Bool × Bool) :=
 (ob (F25 u (x0 6).len (x0 6).el (x0 7).len (x0 7).el ByteArray.empty 0 0 x1 false) fun x4=>(ob (F20 u x4.1 x4.2.1 x4.2.2.1 x4.2.2.2) fun x5=>(ob (F389 u (w64 (x2-x5.1)) (-32768) 32768) fun x6=>(bif (x6==true) then (ob (F389 u (w64 (x3-x5.2.1)) (-32768) 32768) fun x7=>(some ((x0 0).str,(w64 (x2-x5.1)),(w64 (x3-x5.2.1)),x1,false,x7))) else (some ((x0 0).str,(w64 (x2-x5.1)),(w64 (x3-x5.2.1)),x1,false,false))))))
theorem e394:evalF (C43 u) u A25 [.agg (pj kR0 g0),.v (vi i0),.agg [(vi i1),(vi i2)]]=ob (F394 u g0 i0 i1 i2) fun t=>some [.agg [(.s t.1),(vi t.2.1),(vi t.2.2.1),(vi t.2.2.2.1),(.b t.2.2.2.2.1)],.v (.b t.2.2.2.2.2)]:=by
 simp only [F394,ob_bif,ob_ob,ob_none,ob_some]
 kernel_rfl
def O394:Ora:=mkO (qc (ar kR0) (qc (av ci) (q1 (ag (tc ci (t1 ci)))))) (fun x=>F394 u x.1 x.2.1 x.2.2.1 x.2.2.2) fun t=>[.agg [(.s t.1),(vi t.2.1),(vi t.2.2.1),(vi t.2.2.2.1),(.b t.2.2.2.2.1)],.v (.b t.2.2.2.2.2)]
theorem d394:DO (O394 u) (C43 u) 25 A25:=dO u (fun x=>by exact e394 u x.2.1 x.2.2.1 x.2.2.2 x.1)
def C44:Oracle:=(C43 u).add 25 (fun _=>true) (O394 u)
def B21:An tT Tryz.f21 [.k (14 :: (rl 22 35 [])),.g [0],.k (rl 0 14 (rl 15 150 [])),.k (14 :: 16 :: 18 :: (rl 57 27 [])),.h [],.k (3 :: 7 :: 8 :: 9 :: (rl 11 46 (rl 60 105 []))),.k [],.k (3 :: 7 :: 8 :: 9 :: (rl 11 154 [])),.k (14 :: 16 :: 18 :: (rl 61 22 [])),.g [1],.h [],.k (3 :: 7 :: 8 :: 9 :: (rl 11 46 (rl 60 15 (rl 77 88 [])))),.k [],.g [1],.k (3 :: 7 :: 8 :: 9 :: (rl 11 46 (rl 60 105 []))),.k (14 :: 18 :: (rl 78 4 [])),.g [0,1],.k (rl 0 14 (rl 15 150 [])),.k (14 :: (rl 84 30 [])),.g [0],.k (rl 0 14 (rl 15 150 [])),.k (14 :: 21 :: (rl 116 49 [])),.h [],.k (rl 0 4 (rl 6 4 (rl 11 8 (rl 20 96 (rl 119 46 []))))),.k [],.g [0],.k (rl 0 165 []),.k (14 :: 21 :: (rl 120 44 [])),.g [0,1],.k (rl 0 14 (rl 15 150 [])),.g [0],.k (rl 0 14 (rl 15 150 []))]:=by
 apply Subtype.mk;cbv<;>exact rfl
def A21:AF:=B21.1
def A21v13:AC:=sA A21.body [1,1]
def A21v12:AC:=sA A21v13 [1]
def A21v11:AC:=sA A21v12 [1]
def A21v10:AC:=sA A21v11 [1,1]
def A21v9:AC:=sA A21v11 [1,0,1,0,0]
def A21v6:AC:=sA A21v13 [0,1,0,0]
def A21v5:AC:=sA A21v6 [1,1]
def A21v4:AC:=sA A21v5 [1]
def A21v3:AC:=sA A21v5 [0,0,1,1,0,0,0]
def N395v2:St→Option St:=nN 2 (3 :: 7 :: 8 :: 9 :: (rl 11 46 (rl 60 15 (rl 77 88 []))))
def s395v0:St:=⟨(vxi i0 :: vxi i1 :: .x (.c (ro kE n0 f0)) :: .u :: vxi i2 :: vxi i3 :: vxi i4 :: (us 3 (.x (.ptr 0 0) :: (us 46 (.x (.c (ro kE n0 f0)) :: vxi i5 :: vxi i6 :: (us 15 (.agg [(vci i7),(vci i8),(vci i9),(vci iA)] :: vxi iB :: (us 88 [])))))))),[.box [(vci iC),(vci iD)],.dead]⟩
def s395v1:St:=⟨(us 14 (vxb false :: (us 150 []))),[.dead,.dead]⟩
def s395v2:St:=⟨(vxi i0 :: vxi i1 :: .x (.c (ro kE n0 f0)) :: .u :: vxi i2 :: vxi i3 :: vxi i4 :: (us 3 (.x (.ptr 0 0) :: (us 46 (.x (.c (ro kE n0 f0)) :: vxi i5 :: vxi i6 :: (us 105 [])))))),[.box [(vci i7),(vci i8)],.dead]⟩
def L395v2 {ρ:Type} (u:Nat) (x0 x1:Int) (x2:Nat) (x3:FF) (x4 x5 x6 x7 x8 x9 xA xB xC xD xE:Int):Nat→Int→(Option ρ)→(Option ρ)→Option ρ
 | 0,_,_,_=>none
 | m+1,xF,k0,k1 =>
  (bif (decide (xF<4)) then (bif (xF==0) then (ob (F389 u x9 (-1099511627776) 1099511627776) fun xG=>(bif (!xG) then k0 else (L395v2 u x0 x1 x2 x3 x4 x5 x6 x7 x8 x9 xA xB xC xD xE m (w64 (xF+1)) k0 k1))) else (bif (xF==1) then (ob (F389 u xA (-1099511627776) 1099511627776) fun xH=>(bif (!xH) then k0 else (L395v2 u x0 x1 x2 x3 x4 x5 x6 x7 x8 x9 xA xB xC xD xE m (w64 (xF+1)) k0 k1))) else (bif (xF==2) then (ob (F389 u xB (-1099511627776) 1099511627776) fun xI=>(bif (!xI) then k0 else (L395v2 u x0 x1 x2 x3 x4 x5 x6 x7 x8 x9 xA xB xC xD xE m (w64 (xF+1)) k0 k1))) else (bif (xF==3) then (ob (F389 u xC (-1099511627776) 1099511627776) fun xJ=>(bif (!xJ) then k0 else (L395v2 u x0 x1 x2 x3 x4 x5 x6 x7 x8 x9 xA xB xC xD xE m (w64 (xF+1)) k0 k1))) else none)))) else k1)
theorem nl395v2:∀ (m:Nat) (x0:Int) (k0:Option ρ) (k1:Option ρ),ob (L395v2 u i0 i1 n0 f0 i2 i3 i4 i5 i6 i7 i8 i9 iA iB iC m x0 k0 k1) ng=L395v2 u i0 i1 n0 f0 i2 i3 i4 i5 i6 i7 i8 i9 iA iB iC m x0 (ob k0 ng) (ob k1 ng)
 | 0,_,_,_=>rfl
 | m+1,x0,k0,k1=>by
  simp only [L395v2,ob_bif,ob_ob,ob_none,nl395v2 m]
theorem q395v2:∀ (m:Nat) (x0:Int),
  loopH (eB A21v3 (C44 u) u) N395v2 m (s395v0 n0 f0 i0 i1 i2 i3 i4 i5 i6 i7 i8 i9 iA x0 iB iC) k=L395v2 u i0 i1 n0 f0 i2 i3 i4 i5 i6 i7 i8 i9 iA iB iC m x0 (k .ret s395v1) (k (.exit 2) (s395v2 n0 f0 i0 i1 i2 i3 i4 i5 i6 iB iC))
 | 0,_=>rfl
 | m+1,x0=>by
  simp only [L395v2,← q395v2 m]
  kernel_rfl
def N395v3:St→Option St:=nN 1 (3 :: 7 :: 8 :: 9 :: (rl 11 46 (rl 60 105 [])))
def s395v3:St:=⟨(vxi i0 :: vxi i1 :: .x (.c (ro kE n0 f0)) :: .u :: vxi i2 :: vxi i3 :: vxi i4 :: (us 3 (.x (.ptr 0 0) :: (us 46 (.x (.c (ro kE n0 f0)) :: vxi i5 :: vxi i6 :: (us 105 [])))))),[.box [(vci i7),(vci i8)]]⟩
def s395v4:St:=⟨(vxi i0 :: vxi i1 :: .x (.c (ro kE n0 f0)) :: .u :: vxi i2 :: vxi i3 :: vxi i4 :: (us 3 (.x (.ptr 0 0) :: (us 154 [])))),[.box [(vci i5),(vci i6)]]⟩
def L395v3 {ρ:Type} (u:Nat) (x0 x1:Int) (x2:Nat) (x3:FF) (x4 x5 x6 x7 x8 x9:Int):Nat→Int→(Option ρ)→(Option ρ)→Option ρ
 | 0,_,_,_=>none
 | m+1,xA,k0,k1 =>
  (bif (decide (xA<x7)) then (bif (inb xA x2) then (L395v2 u x0 x1 x2 x3 x4 x5 x6 x7 xA (x3 xA.toNat 0).int (x3 xA.toNat 1).int (x3 xA.toNat 2).int (x3 xA.toNat 3).int x8 x9 u 0
  k0
  (L395v3 u x0 x1 x2 x3 x4 x5 x6 x7 x8 x9 m (w64 (xA+1)) k0 k1)) else none) else k1)
theorem nl395v3:∀ (m:Nat) (x0:Int) (k0:Option ρ) (k1:Option ρ),ob (L395v3 u i0 i1 n0 f0 i2 i3 i4 i5 i6 i7 m x0 k0 k1) ng=L395v3 u i0 i1 n0 f0 i2 i3 i4 i5 i6 i7 m x0 (ob k0 ng) (ob k1 ng)
 | 0,_,_,_=>rfl
 | m+1,x0,k0,k1=>by
  simp only [L395v3,ob_bif,ob_ob,ob_none,nl395v3 m,nl395v2]
def s395v5:St:=⟨(vxi i0 :: vxi i1 :: .x (.c (ro kE n0 f0)) :: .u :: vxi i2 :: vxi i3 :: vxi i4 :: (us 3 (.x (.ptr 0 0) :: (us 5 (.x (.c (.rp kE (listF [(vi (f0 i5.toNat 0).int),(vi (f0 i5.toNat 1).int),(vi (f0 i5.toNat 2).int),(vi (f0 i5.toNat 3).int)]))) :: (us 40 (.x (.c (ro kE n0 f0)) :: vxi i6 :: vxi i5 :: vxb true :: .x (.c (.rp kE (f0 i5.toNat))) :: .agg [(vci (f0 i5.toNat 0).int),(vci (f0 i5.toNat 1).int),(vci (f0 i5.toNat 2).int),(vci (f0 i5.toNat 3).int)] :: .x (.c (.rp kE (listF [(vi (f0 i5.toNat 0).int),(vi (f0 i5.toNat 1).int),(vi (f0 i5.toNat 2).int),(vi (f0 i5.toNat 3).int)]))) :: .x (.c (.rp kE (listF [(vi (f0 i5.toNat 0).int),(vi (f0 i5.toNat 1).int),(vi (f0 i5.toNat 2).int),(vi (f0 i5.toNat 3).int)]))) :: vxi (f0 i5.toNat 0).int :: .x (.c (.rp kE (listF [(vi (f0 i5.toNat 0).int),(vi (f0 i5.toNat 1).int),(vi (f0 i5.toNat 2).int),(vi (f0 i5.toNat 3).int)]))) :: .x (.c (.rp kV (listF [(vi (f0 i5.toNat 1).int),(vi (f0 i5.toNat 2).int),(vi (f0 i5.toNat 3).int)]))) :: vxi (f0 i5.toNat 1).int :: .x (.c (.rp kP (listF [(vi (f0 i5.toNat 2).int),(vi (f0 i5.toNat 3).int)]))) :: .x (.c (.rp kP (listF [(vi (f0 i5.toNat 2).int),(vi (f0 i5.toNat 3).int)]))) :: vxi (f0 i5.toNat 2).int :: .x (.c (.rp kP (listF [(vi (f0 i5.toNat 2).int),(vi (f0 i5.toNat 3).int)]))) :: .x (.c (.rp kD (listF [(vi (f0 i5.toNat 3).int)]))) :: vxi (f0 i5.toNat 3).int :: .agg [(vci (f0 i5.toNat 0).int),(vci (f0 i5.toNat 1).int),(vci (f0 i5.toNat 2).int),(vci (f0 i5.toNat 3).int)] :: vxi 0 :: (us 88 [])))))))),[.box [(vci i7),(vci i8)],.dead]⟩
theorem r395v3 :
  loopH (eB A21v6 (C44 u) u) N395v3 (m+1) (s395v3 n0 f0 i0 i1 i2 i3 i4 i5 i8 i6 i7) k =
  (bif (decide (i8<i5)) then (bif (inb i8 n0) then (loopN (eB A21v3 (C44 u) u) N395v2 u (s395v5 n0 f0 i0 i1 i2 i3 i4 i8 i5 i6 i7) (kBlk 2 (kBlk 1 (kSeq (C44 u) u (14 :: 16 :: 18 :: (rl 61 22 [])) A21v4 (kLoop (eB A21v6 (C44 u) u) N395v3 m k))))) else none) else (k (.exit 0) (s395v4 n0 f0 i0 i1 i2 i3 i4 i6 i7))):=by kernel_rfl
theorem t395v1 :
  loopN (eB A21v3 (C44 u) u) N395v2 u (s395v5 n0 f0 i0 i1 i2 i3 i4 i5 i6 i7 i8) k =
  L395v2 u i0 i1 n0 f0 i2 i3 i4 i6 i5 (f0 i5.toNat 0).int (f0 i5.toNat 1).int (f0 i5.toNat 2).int (f0 i5.toNat 3).int i7 i8 u 0 (k .ret s395v1) (k (.exit 2) (s395v2 n0 f0 i0 i1 i2 i3 i4 i6 i5 i7 i8)) :=
 Eq.trans (loopN_at (by kernel_rfl)) (q395v2 ..)
theorem g395v2 :
  (kBlk 2 (kBlk 1 (kSeq (C44 u) u (14 :: 16 :: 18 :: (rl 61 22 [])) A21v4 (kLoop (eB A21v6 (C44 u) u) N395v3 m k)))) .ret s395v1 =
  (k .ret s395v1):=by kernel_rfl
theorem g395v3 :
  (kBlk 2 (kBlk 1 (kSeq (C44 u) u (14 :: 16 :: 18 :: (rl 61 22 [])) A21v4 (kLoop (eB A21v6 (C44 u) u) N395v3 m k)))) (.exit 2) (s395v2 n0 f0 i0 i1 i2 i3 i4 i5 i6 i7 i8) =
  (loopH (eB A21v6 (C44 u) u) N395v3 m (s395v3 n0 f0 i0 i1 i2 i3 i4 i5 (w64 (i6+1)) i7 i8) k):=by kernel_rfl
theorem q395v3:∀ (m:Nat) (x0:Int),
  loopH (eB A21v6 (C44 u) u) N395v3 m (s395v3 n0 f0 i0 i1 i2 i3 i4 i5 x0 i6 i7) k=L395v3 u i0 i1 n0 f0 i2 i3 i4 i5 i6 i7 m x0 (k .ret s395v1) (k (.exit 0) (s395v4 n0 f0 i0 i1 i2 i3 i4 i6 i7))
 | 0,_=>rfl
 | m+1,x0=>by
  rw [r395v3]
  simp only [L395v3,q395v3 m,t395v1,g395v2,g395v3]
def N395v4:St→Option St:=nN 1 (rl 0 4 (rl 6 4 (rl 11 8 (rl 20 96 (rl 119 46 [])))))
def s395v6:St:=⟨(us 4 (vxi i0 :: vxi i1 :: (us 4 (.x (.ptr 0 0) :: (us 8 (vxi i2 :: (us 96 (.x (.c (ro kE n0 f0)) :: vxi i3 :: vxi i4 :: (us 46 []))))))))),[.box [(vci i5),(vci i6)]]⟩
def s395v7:St:=⟨(us 165 []),[.dead]⟩
def L395v4 {ρ:Type} (u:Nat) (x0 x1 x2:Int) (x3:Nat) (x4:FF) (x5 x6 x7:Int):Nat→Int→(Option ρ)→(Option ρ)→Option ρ
 | 0,_,_,_=>none
 | m+1,x8,k0,k1 =>
  (bif (decide (x8<x5)) then (bif (inb x8 x3) then (bif ((decide (x6<(w64 ((x4 x8.toNat 2).int+x2))))==true) then (bif ((decide ((w64 ((w64 (x6+x0))+x2))>(x4 x8.toNat 0).int))==true) then (bif ((decide (x7<(w64 ((x4 x8.toNat 3).int+x2))))==true) then (bif (decide ((w64 ((w64 (x7+x1))+x2))>(x4 x8.toNat 1).int)) then k0 else (L395v4 u x0 x1 x2 x3 x4 x5 x6 x7 m (w64 (x8+1)) k0 k1)) else (L395v4 u x0 x1 x2 x3 x4 x5 x6 x7 m (w64 (x8+1)) k0 k1)) else (L395v4 u x0 x1 x2 x3 x4 x5 x6 x7 m (w64 (x8+1)) k0 k1)) else (L395v4 u x0 x1 x2 x3 x4 x5 x6 x7 m (w64 (x8+1)) k0 k1)) else none) else k1)
theorem nl395v4:∀ (m:Nat) (x0:Int) (k0:Option ρ) (k1:Option ρ),ob (L395v4 u i0 i1 i2 n0 f0 i3 i4 i5 m x0 k0 k1) ng=L395v4 u i0 i1 i2 n0 f0 i3 i4 i5 m x0 (ob k0 ng) (ob k1 ng)
 | 0,_,_,_=>rfl
 | m+1,x0,k0,k1=>by
  simp only [L395v4,ob_bif,ob_ob,ob_none,nl395v4 m]
theorem q395v4:∀ (m:Nat) (x0:Int),
  loopH (eB A21v9 (C44 u) u) N395v4 m (s395v6 n0 f0 i0 i1 i2 i3 x0 i4 i5) k=L395v4 u i0 i1 i2 n0 f0 i3 i4 i5 m x0 (k .ret s395v1) (k (.exit 4) s395v7)
 | 0,_=>rfl
 | m+1,x0=>by
  simp only [L395v4,← q395v4 m]
  kernel_rfl
def F395 (x0 x1:Int) (x2:Nat) (x3:FF) (x4 x5 x6 x7 x8:Int):Option (Bool) :=
 (ob (F389 u x0 0 32768) fun x9=>(bif ((!x9)==false) then (ob (F389 u x1 0 32768) fun xA=>(bif ((!xA)==false) then (ob (F389 u x8 0 500) fun xB=>(bif ((!xB)==false) then (ob (F389 u x6 1 32768) fun xC=>(bif ((!xC)==false) then (ob (F389 u x7 1 32768) fun xD=>(bif ((!xD)==false) then (ob (F389 u x4 (-32768) 32768) fun xE=>(bif ((!xE)==false) then (ob (F389 u x5 (-32768) 32768) fun xF=>(bif (!xF) then (some false) else (L395v3 u x0 x1 x2 x3 x6 x7 x8 (Int.ofNat x2) x4 x5 u 0
  (some false)
  (bif ((decide (x4<x8))==false) then (bif ((decide (x5<x8))==false) then (bif ((decide ((w64 (x4+x6))>(w64 (x0-x8))))==false) then (bif (decide ((w64 (x5+x7))>(w64 (x1-x8)))) then (some false) else (L395v4 u x6 x7 (if 1>x8 then 1 else x8) x2 x3 (Int.ofNat x2) x4 x5 u 0
  (some false)
  (some true))) else (some false)) else (some false)) else (some false))))) else (some false))) else (some false))) else (some false))) else (some false))) else (some false))) else (some false)))
def s395v8:St:=⟨(vxi i0 :: vxi i1 :: .x (.c (ro kE n0 f0)) :: .agg [(vci i2),(vci i3)] :: vxi i4 :: vxi i5 :: vxi i6 :: uu :: uu :: uu :: .x (.ptr 0 0) :: uu :: uu :: uu :: .u :: uu :: uu :: uu :: uu :: uu :: uu :: uu :: (us 35 [.x (.c (ro kE n0 f0)),vxi (Int.ofNat n0),vxi 0,uu,uu,uu,uu,uu,uu,uu,uu,uu,uu,uu,uu,uu,uu,uu,uu,uu,uu,uu,uu,uu,uu,uu,uu,uu,uu,uu,uu,uu,uu,uu,uu,uu,uu,uu,uu,uu,uu,uu,uu,uu,uu,uu,uu,uu,uu,uu,uu,uu,uu,uu,uu,uu,uu,uu,uu,uu,uu,uu,uu,uu,uu,uu,uu,uu,uu,uu,uu,uu,uu,uu,uu,uu,uu,uu,uu,uu,uu,uu,uu,uu,uu,uu,uu,uu,uu,uu,uu,uu,uu,uu,uu,uu,uu,uu,uu,uu,uu,uu,uu,uu,uu,uu,uu,uu])),[.box [(vci i2),(vci i3)]]⟩
theorem t395v4 :
  loopN (eB A21v6 (C44 u) u) N395v3 u (s395v8 n0 f0 i0 i1 i2 i3 i4 i5 i6) k =
  L395v3 u i0 i1 n0 f0 i4 i5 i6 (Int.ofNat n0) i2 i3 u 0 (k .ret s395v1) (k (.exit 0) (s395v4 n0 f0 i0 i1 i4 i5 i6 i2 i3)) :=
 Eq.trans (loopN_at (by kernel_rfl)) (q395v3 ..)
theorem g395v5 :
  (kBlk 0 (kSeq (C44 u) u (14 :: 16 :: 18 :: (rl 57 27 [])) A21v12 (finish A21))) .ret s395v1 =
  (some [.v (.b false)]):=by kernel_rfl
def s395v9:St:=⟨(vxi i0 :: vxi i1 :: .x (.c (ro kE n0 f0)) :: .u :: vxi i2 :: vxi i3 :: vxi i4 :: (us 3 (.x (.ptr 0 0) :: (us 8 (vxi (if 1>i4 then 1 else i4) :: (us 94 (vxi i4 :: vxi (if 1>i4 then 1 else i4) :: .x (.c (ro kE n0 f0)) :: vxi (Int.ofNat n0) :: vxi 0 :: (us 46 [])))))))),[.box [(vci i5),(vci i6)]]⟩
theorem g395v6 :
  (kBlk 0 (kSeq (C44 u) u (14 :: 16 :: 18 :: (rl 57 27 [])) A21v12 (finish A21))) (.exit 0) (s395v4 n0 f0 i0 i1 i2 i3 i4 i5 i6) =
  (bif ((decide (i5<i4))==false) then (bif ((decide (i6<i4))==false) then (bif ((decide ((w64 (i5+i2))>(w64 (i0-i4))))==false) then (bif (decide ((w64 (i6+i3))>(w64 (i1-i4)))) then (some [.v (.b false)]) else (loopN (eB A21v9 (C44 u) u) N395v4 u (s395v9 n0 f0 i0 i1 i2 i3 i4 i5 i6) (kBlk 4 (kSeq (C44 u) u (14 :: 21 :: (rl 116 49 [])) A21v10 (finish A21))))) else (some [.v (.b false)])) else (some [.v (.b false)])) else (some [.v (.b false)])):=by kernel_rfl
theorem t395v7 :
  loopN (eB A21v9 (C44 u) u) N395v4 u (s395v9 n0 f0 i0 i1 i2 i3 i4 i5 i6) k =
  L395v4 u i2 i3 (if 1>i4 then 1 else i4) n0 f0 (Int.ofNat n0) i5 i6 u 0 (k .ret s395v1) (k (.exit 4) s395v7) :=
 Eq.trans (loopN_at (by kernel_rfl)) (q395v4 ..)
theorem g395v8 :
  (kBlk 4 (kSeq (C44 u) u (14 :: 21 :: (rl 116 49 [])) A21v10 (finish A21))) .ret s395v1 =
  (some [.v (.b false)]):=by kernel_rfl
theorem g395v9 :
  (kBlk 4 (kSeq (C44 u) u (14 :: 21 :: (rl 116 49 [])) A21v10 (finish A21))) (.exit 4) s395v7 =
  (some [.v (.b true)]):=by kernel_rfl
theorem e395:evalF (C44 u) u A21 [.v (vi i0),.v (vi i1),.v (ro kE n0 f0),.agg [(vi i2),(vi i3)],.v (vi i4),.v (vi i5),.v (vi i6)]=ob (F395 u i0 i1 n0 f0 i2 i3 i4 i5 i6) fun t=>some [.v (.b t)]:=Eq.trans (b:=(ob (F389 u i0 0 32768) fun x0=>(bif ((!x0)==false) then (ob (F389 u i1 0 32768) fun x1=>(bif ((!x1)==false) then (ob (F389 u i6 0 500) fun x2=>(bif ((!x2)==false) then (ob (F389 u i4 1 32768) fun x3=>(bif ((!x3)==false) then (ob (F389 u i5 1 32768) fun x4=>(bif ((!x4)==false) then (ob (F389 u i2 (-32768) 32768) fun x5=>(bif ((!x5)==false) then (ob (F389 u i3 (-32768) 32768) fun x6=>(bif (!x6) then (some [.v (.b false)]) else (loopN (eB A21v6 (C44 u) u) N395v3 u (s395v8 n0 f0 i0 i1 i2 i3 i4 i5 i6) (kBlk 0 (kSeq (C44 u) u (14 :: 16 :: 18 :: (rl 57 27 [])) A21v12 (finish A21)))))) else (some [.v (.b false)]))) else (some [.v (.b false)]))) else (some [.v (.b false)]))) else (some [.v (.b false)]))) else (some [.v (.b false)]))) else (some [.v (.b false)])))) (by kernel_rfl) (by
 simp only [F395,ob_bif,ob_ob,ob_none,ob_some,nl395v3,nl395v4,t395v4,g395v5,g395v6,t395v7,g395v8,g395v9])
def O395:Ora:=mkO (qc (av ci) (qc (av ci) (qc (av (cL kE)) (qc (ag (tc ci (t1 ci))) (qc (av ci) (qc (av ci) (q1 (av ci)))))))) (fun x=>F395 u x.1 x.2.1 x.2.2.1.1 x.2.2.1.2 x.2.2.2.1.1 x.2.2.2.1.2 x.2.2.2.2.1 x.2.2.2.2.2.1 x.2.2.2.2.2.2) fun t=>[.v (.b t)]
theorem d395:DO (O395 u) (C44 u) 21 A21:=dO u (fun x=>by exact e395 u x.2.2.1.1 x.2.2.1.2 x.1 x.2.1 x.2.2.2.1.1 x.2.2.2.1.2 x.2.2.2.2.1 x.2.2.2.2.2.1 x.2.2.2.2.2.2)
def C45:Oracle:=(C44 u).add 21 (fun _=>true) (O395 u)
def B24:An tT Tryz.f24 [.k (15 :: (rl 29 25 [])),.h [.slot 12 kD,.slot 13 kD],.k (0 :: 2 :: 6 :: 8 :: 9 :: 11 :: (rl 14 15 (rl 32 71 []))),.k [],.k (0 :: 2 :: 6 :: 8 :: 9 :: 11 :: (rl 14 89 [])),.k (11 :: 19 :: (rl 21 4 (rl 64 38 []))),.h [],.k (0 :: 2 :: 6 :: 8 :: 9 :: 11 :: 13 :: 14 :: 15 :: (rl 18 46 (rl 67 36 []))),.k [],.g [0,1,3,4],.k (rl 0 10 (rl 11 92 [])),.k (11 :: 19 :: (rl 21 4 (rl 68 33 []))),.h [],.k (0 :: 2 :: 6 :: 8 :: 9 :: 11 :: 13 :: 14 :: 15 :: 18 :: (rl 20 44 (67 :: 68 :: 69 :: (rl 73 30 [])))),.k [],.k (0 :: 2 :: 6 :: 8 :: 9 :: 11 :: 13 :: 14 :: 15 :: (rl 18 46 (rl 67 36 []))),.k (11 :: (rl 21 4 (rl 74 26 []))),.g (0 :: 1 :: (rl 3 4 [])),.k (rl 0 10 (rl 12 91 [])),.g [0,1,3,4],.k (rl 0 10 (rl 12 91 []))]:=by
 apply Subtype.mk;cbv<;>exact rfl
def A24:AF:=B24.1
def A24v10:AC:=sA A24.body [1,1,1]
def A24v9:AC:=sA A24v10 [1,1,1,1]
def A24v8:AC:=sA A24v10 [1,1,1,0,1,0,0]
def A24v7:AC:=sA A24v8 [1,1]
def A24v6:AC:=sA A24v7 [1]
def A24v5:AC:=sA A24v7 [0,0,1,1,0,0]
def A24v2:AC:=sA A24.body [1,1,0,1,0,0]
def N396v1:St→Option St:=nN 5 (0 :: 2 :: 6 :: 8 :: 9 :: 11 :: (rl 14 15 (rl 32 71 [])))
def s396v0:St:=⟨(.u :: .x (.c (ro kE n0 f0)) :: .u :: vxi i0 :: vxi i1 :: .x (.ptr 0 0) :: .u :: .x (.ptr 1 0) :: .u :: .u :: .x (.ptr 2 0) :: .u :: .x (.own 3 0 n1) :: .x (.own 4 0 n1) :: (us 15 (.x (.c (ro kE n0 f0)) :: vxi i2 :: vxi i3 :: (us 71 [])))),[.box [(vcs w0),(vcs w1),(vci i4),(vci i5),(vci i6),(vcs w2)],.box (pjc kR0 g0),.box [(vci 0),(vci 0)],.arr kD n1 f1,.arr kD n1 f2]⟩
def s396v1:St:=⟨(.u :: .x (.c (ro kE n0 f0)) :: .u :: vxi i0 :: vxi i1 :: .x (.ptr 0 0) :: .u :: .x (.ptr 1 0) :: .u :: .u :: .x (.ptr 2 0) :: .u :: .x (.own 3 0 n1) :: .x (.own 4 0 n1) :: (us 89 [])),[.box [(vcs w0),(vcs w1),(vci i2),(vci i3),(vci i4),(vcs w2)],.box (pjc kR0 g0),.box [(vci 0),(vci 0)],.arr kD n1 f1,.arr kD n1 f2]⟩
def L396v1 {ρ:Type} (u:Nat) (x0:Nat) (x1:FF) (x2 x3 x4:Int) (x5 x6:ByteArray) (x7 x8 x9:Int) (xA:ByteArray) (xB:Nat→CV):Nat→Nat→Int→FF→FF→(Nat→FF→FF→Option ρ)→Option ρ
 | 0,_,_,_,_,_=>none
 | m+1,xC,xD,xE,xF,k0 =>
  (bif (decide (xD<x4)) then (bif (inb xD x0) then (bif (Nat.ble (xC+1) 1073741824) then (bif (Nat.ble (xC+1) 1073741824) then (L396v1 u x0 x1 x2 x3 x4 x5 x6 x7 x8 x9 xA xB m (xC+1) (w64 (xD+1)) (joinF xC xE (rowsF 1 [(.i .i64 (w64 ((x1 xD.toNat 2).int+(if 1>x3 then 1 else x3))))])) (joinF xC xF (rowsF 1 [(.i .i64 (w64 ((x1 xD.toNat 3).int+(if 1>x3 then 1 else x3))))])) k0) else none) else none) else none) else (k0 xC xE xF))
theorem nl396v1:∀ (m:Nat) (x0:Nat) (x1:Int) (x2 x3:FF) (k0:Nat→FF→FF→Option ρ),ob (L396v1 u n0 f0 i0 i1 i2 w0 w1 i3 i4 i5 w2 g0 m x0 x1 x2 x3 k0) ng=L396v1 u n0 f0 i0 i1 i2 w0 w1 i3 i4 i5 w2 g0 m x0 x1 x2 x3 (fun x4 x5 x6=>ob (k0 x4 x5 x6) ng)
 | 0,_,_,_,_,_=>rfl
 | m+1,x0,x1,x2,x3,k0=>by
  simp only [L396v1,ob_bif,ob_ob,ob_none,nl396v1 m]
theorem q396v1:∀ (m:Nat) (x0:Nat) (x1:Int) (x2 x3:FF),
  loopH (eB A24v2 (C45 u) u) N396v1 m (s396v0 n0 x0 f0 x2 x3 i0 i1 i2 x1 i3 i4 i5 w0 w1 w2 g0) k=L396v1 u n0 f0 i0 i1 i2 w0 w1 i3 i4 i5 w2 g0 m x0 x1 x2 x3 (fun x4 x5 x6=>k (.exit 0) (s396v1 n0 x4 f0 x5 x6 i0 i1 i3 i4 i5 w0 w1 w2 g0))
 | 0,_,_,_,_=>rfl
 | m+1,x0,x1,x2,x3=>by
  simp only [L396v1,← q396v1 m]
  kernel_rfl
def N396v3:St→Option St:=nN 5 (0 :: 2 :: 6 :: 8 :: 9 :: 11 :: 13 :: 14 :: 15 :: 18 :: (rl 20 44 (67 :: 68 :: 69 :: (rl 73 30 []))))
def s396v2:St:=⟨(.u :: .x (.c (ro kE n0 f0)) :: .u :: vxi i0 :: vxi i1 :: .x (.ptr 0 0) :: .u :: .x (.ptr 1 0) :: .u :: .u :: .x (.ptr 2 0) :: .u :: .x (.own 3 0 n1) :: (us 3 (vxi i2 :: vxi i3 :: .u :: vxi i4 :: (us 44 (.x (.own 4 0 n1) :: vxi i5 :: vxi i6 :: (us 3 (.x (.own 3 0 n1) :: vxi i7 :: vxi i8 :: (us 30 [])))))))),[.box [(vcs w0),(vcs w1),(vci i9),(vci iA),(vci iB),(vcs w2)],.box (pjc kR0 g0),.box [(vci 0),(vci 0)],.arr kD n1 f1,.arr kD n1 f2]⟩
def s396v3:St:=⟨(us 10 (.x (.ptr 2 0) :: vxb true :: (us 91 []))),[.dead,.dead,.box [(vci i0),(vci i1)],.dead,.dead,.dead,.dead]⟩
def s396v4:St:=⟨(.u :: .x (.c (ro kE n0 f0)) :: .u :: vxi i0 :: vxi i1 :: .x (.ptr 0 0) :: .u :: .x (.ptr 1 0) :: .u :: .u :: .x (.ptr 2 0) :: .u :: .x (.own 3 0 n1) :: (us 3 (vxi i2 :: vxi i3 :: (us 46 (.x (.own 4 0 n1) :: vxi i4 :: vxi i5 :: (us 36 [])))))),[.box [(vcs w0),(vcs w1),(vci i6),(vci i7),(vci i8),(vcs w2)],.box (pjc kR0 g0),.box [(vci 0),(vci 0)],.arr kD n1 f1,.arr kD n1 f2]⟩
def L396v3 {ρ:Type} (u:Nat) (x0:Nat) (x1:FF) (x2 x3:Int) (x4:Nat) (x5 x6 x7 x8 x9 xA:Int) (xB xC:ByteArray) (xD xE xF:Int) (xG:ByteArray) (xH:Nat→CV) (xI xJ:FF):Nat→Int→(Int→Option ρ)→(Option ρ)→Option ρ
 | 0,_,_,_=>none
 | m+1,xK,k0,k1 =>
  (bif (decide (xK<xA)) then (bif (inb xK x4) then (ob (F394 u (listF (pj kR0 xH)) x2 (xI (0+xK.toNat) 0).int x7) fun xL=>(bif (xL.2.2.2.2.2==true) then (ob (F395 u xE xF x0 x1 (xI (0+xK.toNat) 0).int x7 x5 x6 x3) fun xM=>(bif xM then (k0 (xI (0+xK.toNat) 0).int) else (L396v3 u x0 x1 x2 x3 x4 x5 x6 x7 x8 x9 xA xB xC xD xE xF xG xH xI xJ m (w64 (xK+1)) k0 k1))) else (L396v3 u x0 x1 x2 x3 x4 x5 x6 x7 x8 x9 xA xB xC xD xE xF xG xH xI xJ m (w64 (xK+1)) k0 k1))) else none) else k1)
theorem nl396v3:∀ (m:Nat) (x0:Int) (k0:Int→Option ρ) (k1:Option ρ),ob (L396v3 u n0 f0 i0 i1 n1 i2 i3 i4 i5 i6 i7 w0 w1 i8 i9 iA w2 g0 f1 f2 m x0 k0 k1) ng=L396v3 u n0 f0 i0 i1 n1 i2 i3 i4 i5 i6 i7 w0 w1 i8 i9 iA w2 g0 f1 f2 m x0 (fun x1=>ob (k0 x1) ng) (ob k1 ng)
 | 0,_,_,_=>rfl
 | m+1,x0,k0,k1=>by
  simp only [L396v3,ob_bif,ob_ob,ob_none,nl396v3 m]
theorem q396v3:∀ (m:Nat) (x0:Int),
  loopH (eB A24v5 (C45 u) u) N396v3 m (s396v2 n0 n1 f0 f1 f2 i0 i1 i2 i3 i4 i5 i6 i7 x0 i8 i9 iA w0 w1 w2 g0) k=L396v3 u n0 f0 i0 i1 n1 i2 i3 i4 i5 i6 i7 w0 w1 i8 i9 iA w2 g0 f1 f2 m x0 (fun x1=>k .ret (s396v3 x1 i4)) (k (.exit 4) (s396v4 n0 n1 f0 f1 f2 i0 i1 i2 i3 i5 i6 i8 i9 iA w0 w1 w2 g0))
 | 0,_=>rfl
 | m+1,x0=>by
  simp only [L396v3,← q396v3 m]
  kernel_rfl
def N396v4:St→Option St:=nN 5 (0 :: 2 :: 6 :: 8 :: 9 :: 11 :: 13 :: 14 :: 15 :: (rl 18 46 (rl 67 36 [])))
def s396v5:St:=⟨(.u :: .x (.c (ro kE n0 f0)) :: .u :: vxi i0 :: vxi i1 :: .x (.ptr 0 0) :: .u :: .x (.ptr 1 0) :: .u :: .u :: .x (.ptr 2 0) :: .u :: .x (.own 3 0 n1) :: (us 3 (vxi i2 :: vxi i3 :: (us 46 (.x (.own 4 0 n1) :: vxi i4 :: vxi i5 :: (us 36 [])))))),[.box [(vcs w0),(vcs w1),(vci i6),(vci i7),(vci i8),(vcs w2)],.box (pjc kR0 g0),.box [(vci 0),(vci 0)],.arr kD n1 f1,.arr kD n1 f2]⟩
def s396v6:St:=⟨(us 10 (.x (.ptr 2 0) :: vxb true :: (us 91 []))),[.dead,.dead,.box [(vci i0),(vci i1)],.dead,.dead,.dead,.dead]⟩
def s396v7:St:=⟨(us 10 (.x (.ptr 2 0) :: (us 92 []))),[.dead,.dead,.box [(vci 0),(vci 0)],.dead,.dead]⟩
def L396v4 {ρ:Type} (u:Nat) (x0:Nat) (x1:FF) (x2 x3:Int) (x4:Nat) (x5 x6 x7:Int) (x8 x9:ByteArray) (xA xB xC:Int) (xD:ByteArray) (xE:Nat→CV) (xF xG:FF):Nat→Int→(Int→Int→Option ρ)→(Option ρ)→Option ρ
 | 0,_,_,_=>none
 | m+1,xH,k0,k1 =>
  (bif (decide (xH<x7)) then (bif (inb xH x4) then (L396v3 u x0 x1 x2 x3 x4 x5 x6 (xG (0+xH.toNat) 0).int x7 xH (Int.ofNat x4) x8 x9 xA xB xC xD xE xF xG u 0
  (fun xI=>(k0 xI (xG (0+xH.toNat) 0).int))
  (L396v4 u x0 x1 x2 x3 x4 x5 x6 x7 x8 x9 xA xB xC xD xE xF xG m (w64 (xH+1)) k0 k1)) else none) else k1)
theorem nl396v4:∀ (m:Nat) (x0:Int) (k0:Int→Int→Option ρ) (k1:Option ρ),ob (L396v4 u n0 f0 i0 i1 n1 i2 i3 i4 w0 w1 i5 i6 i7 w2 g0 f1 f2 m x0 k0 k1) ng=L396v4 u n0 f0 i0 i1 n1 i2 i3 i4 w0 w1 i5 i6 i7 w2 g0 f1 f2 m x0 (fun x1 x2=>ob (k0 x1 x2) ng) (ob k1 ng)
 | 0,_,_,_=>rfl
 | m+1,x0,k0,k1=>by
  simp only [L396v4,ob_bif,ob_ob,ob_none,nl396v4 m,nl396v3]
def s396v8:St:=⟨(.u :: .x (.c (ro kE n0 f0)) :: .u :: vxi i0 :: vxi i1 :: .x (.ptr 0 0) :: .u :: .x (.ptr 1 0) :: .u :: .u :: .x (.ptr 2 0) :: .u :: .x (.own 3 0 n1) :: (us 3 (vxi i2 :: vxi i3 :: .u :: vxi (f1 (0+i4.toNat) 0).int :: (us 44 (.x (.own 4 0 n1) :: vxi i5 :: vxi i4 :: vxb true :: .x (.aptr 4 (0+i4.toNat) 0) :: vxi (f1 (0+i4.toNat) 0).int :: .x (.own 3 0 n1) :: vxi (Int.ofNat n1) :: vxi 0 :: (us 30 [])))))),[.box [(vcs w0),(vcs w1),(vci i6),(vci i7),(vci i8),(vcs w2)],.box (pjc kR0 g0),.box [(vci 0),(vci 0)],.arr kD n1 f2,.arr kD n1 f1]⟩
theorem r396v4 :
  loopH (eB A24v8 (C45 u) u) N396v4 (m+1) (s396v5 n0 n1 f0 f1 f2 i0 i1 i2 i3 i4 i8 i5 i6 i7 w0 w1 w2 g0) k =
  (bif (decide (i8<i4)) then (bif (inb i8 n1) then (loopN (eB A24v5 (C45 u) u) N396v3 u (s396v8 n0 n1 f0 f2 f1 i0 i1 i2 i3 i8 i4 i5 i6 i7 w0 w1 w2 g0) (kBlk 4 (kBlk 3 (kSeq (C45 u) u (11 :: 19 :: (rl 21 4 (rl 68 33 []))) A24v6 (kLoop (eB A24v8 (C45 u) u) N396v4 m k))))) else none) else (k (.exit 2) s396v7)):=by kernel_rfl
theorem t396v1 :
  loopN (eB A24v5 (C45 u) u) N396v3 u (s396v8 n0 n1 f0 f1 f2 i0 i1 i2 i3 i4 i5 i6 i7 i8 w0 w1 w2 g0) k =
  L396v3 u n0 f0 i0 i1 n1 i2 i3 (f1 (0+i4.toNat) 0).int i5 i4 (Int.ofNat n1) w0 w1 i6 i7 i8 w2 g0 f2 f1 u 0 (fun x0=>k .ret (s396v3 x0 (f1 (0+i4.toNat) 0).int)) (k (.exit 4) (s396v4 n0 n1 f0 f2 f1 i0 i1 i2 i3 i5 i4 i6 i7 i8 w0 w1 w2 g0)) :=
 Eq.trans (loopN_at (by kernel_rfl)) (q396v3 ..)
theorem g396v2 :
  (kBlk 4 (kBlk 3 (kSeq (C45 u) u (11 :: 19 :: (rl 21 4 (rl 68 33 []))) A24v6 (kLoop (eB A24v8 (C45 u) u) N396v4 m k)))) .ret (s396v3 i0 (f0 (0+i1.toNat) 0).int) =
  (k .ret (s396v6 i0 (f0 (0+i1.toNat) 0).int)):=by kernel_rfl
theorem g396v3 :
  (kBlk 4 (kBlk 3 (kSeq (C45 u) u (11 :: 19 :: (rl 21 4 (rl 68 33 []))) A24v6 (kLoop (eB A24v8 (C45 u) u) N396v4 m k)))) (.exit 4) (s396v4 n0 n1 f0 f1 f2 i0 i1 i2 i3 i4 i5 i6 i7 i8 w0 w1 w2 g0) =
  (loopH (eB A24v8 (C45 u) u) N396v4 m (s396v5 n0 n1 f0 f1 f2 i0 i1 i2 i3 i4 (w64 (i5+1)) i6 i7 i8 w0 w1 w2 g0) k):=by kernel_rfl
theorem q396v4:∀ (m:Nat) (x0:Int),
  loopH (eB A24v8 (C45 u) u) N396v4 m (s396v5 n0 n1 f0 f1 f2 i0 i1 i2 i3 i4 x0 i5 i6 i7 w0 w1 w2 g0) k=L396v4 u n0 f0 i0 i1 n1 i2 i3 i4 w0 w1 i5 i6 i7 w2 g0 f1 f2 m x0 (fun x1 x2=>k .ret (s396v6 x1 x2)) (k (.exit 2) s396v7)
 | 0,_=>rfl
 | m+1,x0=>by
  rw [r396v4]
  simp only [L396v4,q396v4 m,t396v1,g396v2,g396v3]
def F396 (x0 x1:ByteArray) (x2 x3 x4:Int) (x5:ByteArray) (x6:Nat) (x7:FF) (x8:Nat→CV) (x9 xA:Int):Option (Int × Int × Bool) :=
 (L396v1 u x6 x7 x9 xA (Int.ofNat x6) x0 x1 x2 x3 x4 x5 x8 u 1 0 (rowsF 1 [(.i .i64 xA)]) (rowsF 1 [(.i .i64 xA)])
  (fun xB xC xD=>(ob (F392 u xB xC) fun xE=>(bif (Nat.beq xB xB) then (bif (Nat.beq xB 0) then (ob (F392 u xB xD) fun xF=>(bif (Nat.beq xB xB) then (bif (Nat.beq xB 0) then (ob (F393 u (listF (pj kR0 x8)) x9) fun xG=>(L396v4 u x6 x7 x9 xA xB xG.1 xG.2 (Int.ofNat xB) x0 x1 x2 x3 x4 x5 x8 xC xD u 0
  (fun xH xI=>(some (xH,xI,true)))
  (some (0,0,false)))) else (ob (F393 u (listF (pj kR0 x8)) x9) fun xJ=>(L396v4 u x6 x7 x9 xA xB xJ.1 xJ.2 (Int.ofNat xB) x0 x1 x2 x3 x4 x5 x8 xC xF u 0
  (fun xK xL=>(some (xK,xL,true)))
  (some (0,0,false))))) else none)) else (ob (F392 u xB xD) fun xM=>(bif (Nat.beq xB xB) then (bif (Nat.beq xB 0) then (ob (F393 u (listF (pj kR0 x8)) x9) fun xN=>(L396v4 u x6 x7 x9 xA xB xN.1 xN.2 (Int.ofNat xB) x0 x1 x2 x3 x4 x5 x8 xE xD u 0
  (fun xO xP=>(some (xO,xP,true)))
  (some (0,0,false)))) else (ob (F393 u (listF (pj kR0 x8)) x9) fun xQ=>(L396v4 u x6 x7 x9 xA xB xQ.1 xQ.2 (Int.ofNat xB) x0 x1 x2 x3 x4 x5 x8 xE xM u 0
  (fun xR xS=>(some (xR,xS,true)))
  (some (0,0,false))))) else none))) else none))))
def s396v9:St:=⟨[.agg [(vcs w0),(vcs w1),(vci i0),(vci i1),(vci i2),(vcs w2)],.x (.c (ro kE n0 f0)),.agg (pjc kR0 g0),vxi i3,vxi i4,.x (.ptr 0 0),uu,.x (.ptr 1 0),uu,uu,.x (.ptr 2 0),vxb false,.x (.own 3 0 1),.x (.own 4 0 1),uu,uu,uu,uu,uu,uu,uu,uu,uu,uu,uu,vxi i4,.x (.own 3 0 1),vxi i4,.x (.own 4 0 1),.x (.c (ro kE n0 f0)),vxi (Int.ofNat n0),vxi 0,uu,uu,uu,uu,uu,uu,uu,uu,uu,uu,uu,uu,uu,uu,uu,uu,uu,uu,uu,uu,uu,uu,uu,uu,uu,uu,uu,uu,uu,uu,uu,uu,uu,uu,uu,uu,uu,uu,uu,uu,uu,uu,uu,uu,uu,uu,uu,uu,uu,uu,uu,uu,uu,uu,uu,uu,uu,uu,uu,uu,uu,uu,uu,uu,uu,uu,uu,uu,uu,uu,uu],[.box [(vcs w0),(vcs w1),(vci i0),(vci i1),(vci i2),(vcs w2)],.box (pjc kR0 g0),.box [(vci 0),(vci 0)],.arr kD 1 (rowsF 1 [(vi i4)]),.arr kD 1 (rowsF 1 [(vi i4)])]⟩
theorem t396v4 :
  loopN (eB A24v2 (C45 u) u) N396v1 u (s396v9 n0 f0 i0 i1 i2 i3 i4 w0 w1 w2 g0) k =
  L396v1 u n0 f0 i3 i4 (Int.ofNat n0) w0 w1 i0 i1 i2 w2 g0 u 1 0 (rowsF 1 [(vi i4)]) (rowsF 1 [(vi i4)]) (fun x0 x1 x2=>k (.exit 0) (s396v1 n0 x0 f0 x1 x2 i3 i4 i0 i1 i2 w0 w1 w2 g0)) :=
 Eq.trans (loopN_at (by kernel_rfl)) (q396v1 ..)
def s396v10 (x0:Int × Int):St:=⟨(.u :: .x (.c (ro kE n0 f0)) :: .u :: vxi i0 :: vxi i1 :: .x (.ptr 0 0) :: .u :: .x (.ptr 1 0) :: .u :: .u :: .x (.ptr 2 0) :: .u :: .x (.own 3 0 n1) :: .x (.own 4 0 n1) :: .u :: .u :: vxi x0.1 :: vxi x0.2 :: (us 36 (.x (.own 3 0 n1) :: .u :: .x (.own 4 0 n1) :: .u :: .tup [.v (vi x0.1),.v (vi x0.2)] :: .agg (pjc kR0 g0) :: vxi i0 :: .tup [.v (vi x0.1),.v (vi x0.2)] :: vxi x0.1 :: vxi x0.2 :: .x (.own 4 0 n1) :: vxi (Int.ofNat n1) :: vxi 0 :: (us 36 [])))),[.box [(vcs w0),(vcs w1),(vci i2),(vci i3),(vci i4),(vcs w2)],.box (pjc kR0 g0),.box [(vci 0),(vci 0)],.arr kD n1 f1,.arr kD n1 f2]⟩
def s396v11 (x0:Int × Int):St:=⟨(.u :: .x (.c (ro kE n0 f0)) :: .u :: vxi i0 :: vxi i1 :: .x (.ptr 0 0) :: .u :: .x (.ptr 1 0) :: .u :: .u :: .x (.ptr 2 0) :: .u :: .x (.own 3 0 n1) :: .x (.own 4 0 n1) :: .u :: .u :: vxi x0.1 :: vxi x0.2 :: (us 36 (.x (.own 3 0 n1) :: .u :: .x (.own 4 0 n1) :: .u :: .tup [.v (vi x0.1),.v (vi x0.2)] :: .agg (pjc kR0 g0) :: vxi i0 :: .tup [.v (vi x0.1),.v (vi x0.2)] :: vxi x0.1 :: vxi x0.2 :: .x (.own 4 0 n1) :: vxi (Int.ofNat n1) :: vxi 0 :: (us 36 [])))),[.box [(vcs w0),(vcs w1),(vci i2),(vci i3),(vci i4),(vcs w2)],.box (pjc kR0 g0),.box [(vci 0),(vci 0)],.arr kD n1 f1,.arr kD n1 f2]⟩
def s396v12 (x0:Int × Int):St:=⟨(.u :: .x (.c (ro kE n0 f0)) :: .u :: vxi i0 :: vxi i1 :: .x (.ptr 0 0) :: .u :: .x (.ptr 1 0) :: .u :: .u :: .x (.ptr 2 0) :: .u :: .x (.own 3 0 n1) :: .x (.own 4 0 n1) :: .u :: .u :: vxi x0.1 :: vxi x0.2 :: (us 36 (.x (.own 3 0 n1) :: .u :: .x (.own 4 0 n1) :: .u :: .tup [.v (vi x0.1),.v (vi x0.2)] :: .agg (pjc kR0 g0) :: vxi i0 :: .tup [.v (vi x0.1),.v (vi x0.2)] :: vxi x0.1 :: vxi x0.2 :: .x (.own 4 0 n1) :: vxi (Int.ofNat n1) :: vxi 0 :: (us 36 [])))),[.box [(vcs w0),(vcs w1),(vci i2),(vci i3),(vci i4),(vcs w2)],.box (pjc kR0 g0),.box [(vci 0),(vci 0)],.arr kD n1 f1,.arr kD n1 f2]⟩
def s396v13 (x0:Int × Int):St:=⟨(.u :: .x (.c (ro kE n0 f0)) :: .u :: vxi i0 :: vxi i1 :: .x (.ptr 0 0) :: .u :: .x (.ptr 1 0) :: .u :: .u :: .x (.ptr 2 0) :: .u :: .x (.own 3 0 n1) :: .x (.own 4 0 n1) :: .u :: .u :: vxi x0.1 :: vxi x0.2 :: (us 36 (.x (.own 3 0 n1) :: .u :: .x (.own 4 0 n1) :: .u :: .tup [.v (vi x0.1),.v (vi x0.2)] :: .agg (pjc kR0 g0) :: vxi i0 :: .tup [.v (vi x0.1),.v (vi x0.2)] :: vxi x0.1 :: vxi x0.2 :: .x (.own 4 0 n1) :: vxi (Int.ofNat n1) :: vxi 0 :: (us 36 [])))),[.box [(vcs w0),(vcs w1),(vci i2),(vci i3),(vci i4),(vcs w2)],.box (pjc kR0 g0),.box [(vci 0),(vci 0)],.arr kD n1 f1,.arr kD n1 f2]⟩
theorem g396v5 :
  (kBlk 0 (kSeq (C45 u) u (15 :: (rl 29 25 [])) A24v10 (finish A24))) (.exit 0) (s396v1 n0 n1 f0 f1 f2 i0 i1 i2 i3 i4 w0 w1 w2 g0) =
  (ob (F392 u n1 f1) fun x0=>(bif (Nat.beq n1 n1) then (bif (Nat.beq n1 0) then (ob (F392 u n1 f2) fun x1=>(bif (Nat.beq n1 n1) then (bif (Nat.beq n1 0) then (ob (F393 u (listF (pj kR0 g0)) i0) fun x2=>(loopN (eB A24v8 (C45 u) u) N396v4 u (s396v10 n0 n1 f0 f1 f2 i0 i1 i2 i3 i4 w0 w1 w2 g0 x2) (kBlk 2 (kSeq (C45 u) u (11 :: 19 :: (rl 21 4 (rl 64 38 []))) A24v9 (finish A24))))) else (ob (F393 u (listF (pj kR0 g0)) i0) fun x3=>(loopN (eB A24v8 (C45 u) u) N396v4 u (s396v11 n0 n1 f0 f1 x1 i0 i1 i2 i3 i4 w0 w1 w2 g0 x3) (kBlk 2 (kSeq (C45 u) u (11 :: 19 :: (rl 21 4 (rl 64 38 []))) A24v9 (finish A24)))))) else none)) else (ob (F392 u n1 f2) fun x4=>(bif (Nat.beq n1 n1) then (bif (Nat.beq n1 0) then (ob (F393 u (listF (pj kR0 g0)) i0) fun x5=>(loopN (eB A24v8 (C45 u) u) N396v4 u (s396v12 n0 n1 f0 x0 f2 i0 i1 i2 i3 i4 w0 w1 w2 g0 x5) (kBlk 2 (kSeq (C45 u) u (11 :: 19 :: (rl 21 4 (rl 64 38 []))) A24v9 (finish A24))))) else (ob (F393 u (listF (pj kR0 g0)) i0) fun x6=>(loopN (eB A24v8 (C45 u) u) N396v4 u (s396v13 n0 n1 f0 x0 x4 i0 i1 i2 i3 i4 w0 w1 w2 g0 x6) (kBlk 2 (kSeq (C45 u) u (11 :: 19 :: (rl 21 4 (rl 64 38 []))) A24v9 (finish A24)))))) else none))) else none)):=by kernel_rfl
theorem t396v6 (x0:Int × Int) :
  loopN (eB A24v8 (C45 u) u) N396v4 u (s396v10 n0 n1 f0 f1 f2 i0 i1 i2 i3 i4 w0 w1 w2 g0 x0) k =
  L396v4 u n0 f0 i0 i1 n1 x0.1 x0.2 (Int.ofNat n1) w0 w1 i2 i3 i4 w2 g0 f1 f2 u 0 (fun x1 x2=>k .ret (s396v6 x1 x2)) (k (.exit 2) s396v7) :=
 Eq.trans (loopN_at (by kernel_rfl)) (q396v4 ..)
theorem g396v7 :
  (kBlk 2 (kSeq (C45 u) u (11 :: 19 :: (rl 21 4 (rl 64 38 []))) A24v9 (finish A24))) .ret (s396v6 i0 i1) =
  (some [.agg [(vi i0),(vi i1)],.v (.b true)]):=by kernel_rfl
theorem g396v8 :
  (kBlk 2 (kSeq (C45 u) u (11 :: 19 :: (rl 21 4 (rl 64 38 []))) A24v9 (finish A24))) (.exit 2) s396v7 =
  (some [.agg [(vi 0),(vi 0)],.v (.b false)]):=by kernel_rfl
theorem t396v9 (x0:Int × Int) :
  loopN (eB A24v8 (C45 u) u) N396v4 u (s396v11 n0 n1 f0 f1 f2 i0 i1 i2 i3 i4 w0 w1 w2 g0 x0) k =
  L396v4 u n0 f0 i0 i1 n1 x0.1 x0.2 (Int.ofNat n1) w0 w1 i2 i3 i4 w2 g0 f1 f2 u 0 (fun x1 x2=>k .ret (s396v6 x1 x2)) (k (.exit 2) s396v7) :=
 Eq.trans (loopN_at (by kernel_rfl)) (q396v4 ..)
theorem g396v10 :
  (kBlk 2 (kSeq (C45 u) u (11 :: 19 :: (rl 21 4 (rl 64 38 []))) A24v9 (finish A24))) .ret (s396v6 i0 i1) =
  (some [.agg [(vi i0),(vi i1)],.v (.b true)]):=by kernel_rfl
theorem g396v11 :
  (kBlk 2 (kSeq (C45 u) u (11 :: 19 :: (rl 21 4 (rl 64 38 []))) A24v9 (finish A24))) (.exit 2) s396v7 =
  (some [.agg [(vi 0),(vi 0)],.v (.b false)]):=by kernel_rfl
theorem t396v12 (x0:Int × Int) :
  loopN (eB A24v8 (C45 u) u) N396v4 u (s396v12 n0 n1 f0 f1 f2 i0 i1 i2 i3 i4 w0 w1 w2 g0 x0) k =
  L396v4 u n0 f0 i0 i1 n1 x0.1 x0.2 (Int.ofNat n1) w0 w1 i2 i3 i4 w2 g0 f1 f2 u 0 (fun x1 x2=>k .ret (s396v6 x1 x2)) (k (.exit 2) s396v7) :=
 Eq.trans (loopN_at (by kernel_rfl)) (q396v4 ..)
theorem g396v13 :
  (kBlk 2 (kSeq (C45 u) u (11 :: 19 :: (rl 21 4 (rl 64 38 []))) A24v9 (finish A24))) .ret (s396v6 i0 i1) =
  (some [.agg [(vi i0),(vi i1)],.v (.b true)]):=by kernel_rfl
theorem g396v14 :
  (kBlk 2 (kSeq (C45 u) u (11 :: 19 :: (rl 21 4 (rl 64 38 []))) A24v9 (finish A24))) (.exit 2) s396v7 =
  (some [.agg [(vi 0),(vi 0)],.v (.b false)]):=by kernel_rfl
theorem t396v15 (x0:Int × Int) :
  loopN (eB A24v8 (C45 u) u) N396v4 u (s396v13 n0 n1 f0 f1 f2 i0 i1 i2 i3 i4 w0 w1 w2 g0 x0) k =
  L396v4 u n0 f0 i0 i1 n1 x0.1 x0.2 (Int.ofNat n1) w0 w1 i2 i3 i4 w2 g0 f1 f2 u 0 (fun x1 x2=>k .ret (s396v6 x1 x2)) (k (.exit 2) s396v7) :=
 Eq.trans (loopN_at (by kernel_rfl)) (q396v4 ..)
theorem g396v16 :
  (kBlk 2 (kSeq (C45 u) u (11 :: 19 :: (rl 21 4 (rl 64 38 []))) A24v9 (finish A24))) .ret (s396v6 i0 i1) =
  (some [.agg [(vi i0),(vi i1)],.v (.b true)]):=by kernel_rfl
theorem g396v17 :
  (kBlk 2 (kSeq (C45 u) u (11 :: 19 :: (rl 21 4 (rl 64 38 []))) A24v9 (finish A24))) (.exit 2) s396v7 =
  (some [.agg [(vi 0),(vi 0)],.v (.b false)]):=by kernel_rfl
theorem e396:evalF (C45 u) u A24 [.agg [(.s w0),(.s w1),(vi i0),(vi i1),(vi i2),(.s w2)],.v (ro kE n0 f0),.agg (pj kR0 g0),.v (vi i3),.v (vi i4)]=ob (F396 u w0 w1 i0 i1 i2 w2 n0 f0 g0 i3 i4) fun t=>some [.agg [(vi t.1),(vi t.2.1)],.v (.b t.2.2)]:=Eq.trans (b:=(loopN (eB A24v2 (C45 u) u) N396v1 u (s396v9 n0 f0 i0 i1 i2 i3 i4 w0 w1 w2 g0) (kBlk 0 (kSeq (C45 u) u (15 :: (rl 29 25 [])) A24v10 (finish A24))))) (by kernel_rfl) (by
 simp only [F396,ob_bif,ob_ob,ob_none,ob_some,nl396v1,nl396v4,t396v4,g396v5,t396v6,g396v7,g396v8,t396v9,g396v10,g396v11,t396v12,g396v13,g396v14,t396v15,g396v16,g396v17])
def O396:Ora:=mkO (qc (ag (tc cS (tc cS (tc ci (tc ci (tc ci (t1 cS))))))) (qc (av (cL kE)) (qc (ar kR0) (qc (av ci) (q1 (av ci)))))) (fun x=>F396 u x.1.1 x.1.2.1 x.1.2.2.1 x.1.2.2.2.1 x.1.2.2.2.2.1 x.1.2.2.2.2.2 x.2.1.1 x.2.1.2 x.2.2.1 x.2.2.2.1 x.2.2.2.2) fun t=>[.agg [(vi t.1),(vi t.2.1)],.v (.b t.2.2)]
theorem d396:DO (O396 u) (C45 u) 24 A24:=dO u (fun x=>by exact e396 u x.2.1.1 x.2.1.2 x.1.2.2.1 x.1.2.2.2.1 x.1.2.2.2.2.1 x.2.2.2.1 x.2.2.2.2 x.1.1 x.1.2.1 x.1.2.2.2.2.2 x.2.2.1)
def C46:Oracle:=(C45 u).add 24 (fun _=>true) (O396 u)
def B26:An tT Tryz.f26 [.g [0,1],.k (rl 0 6 (rl 7 19 []))]:=by
 apply Subtype.mk;cbv<;>exact rfl
def A26:AF:=B26.1
def F397 (x0:Nat→CV) (x1 x2 x3:Int):Option (Int × Int × Int × Int) :=
 (ob (F393 u (listF (pj kR0 x0)) x1) fun x4=>(some (x2,x3,(w64 (x2+x4.1)),(w64 (x3+x4.2)))))
theorem e397:evalF (C46 u) u A26 [.agg (pj kR0 g0),.v (vi i0),.agg [(vi i1),(vi i2)]]=ob (F397 u g0 i0 i1 i2) fun t=>some [.agg [(vi t.1),(vi t.2.1),(vi t.2.2.1),(vi t.2.2.2)]]:=by
 simp only [F397,ob_bif,ob_ob,ob_none,ob_some]
 kernel_rfl
def O397:Ora:=mkO (qc (ar kR0) (qc (av ci) (q1 (ag (tc ci (t1 ci)))))) (fun x=>F397 u x.1 x.2.1 x.2.2.1 x.2.2.2) fun t=>[.agg [(vi t.1),(vi t.2.1),(vi t.2.2.1),(vi t.2.2.2)]]
theorem d397:DO (O397 u) (C46 u) 26 A26:=dO u (fun x=>by exact e397 u x.2.1 x.2.2.1 x.2.2.2 x.1)
def C47:Oracle:=(C46 u).add 26 (fun _=>true) (O397 u)
end Go.Eng.R13
