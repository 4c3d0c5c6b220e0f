/-
 The functions of the program,run on symbols; printed by decomp.py.
-/
import Derived.Test.YtmpnfnngjeojlaaEngS
set_option linter.all false
set_option maxRecDepth 1000000
set_option maxHeartbeats 4000000
namespace Go.Eng.R13
open Go Go.RowKit Go.Eng
abbrev kA : Kd := (.pr .str (.pr (.int .i64) (.pr (.int .i64) (.pr .str (.pr .str (.pr (.int .i64) (.pr (.sl kP) (.pr (.sl (.pr (.sl kP) .nil)) (.pr .str (.pr (.int .i64) (.pr (.int .i64) (.pr (.int .i64) (.pr (.int .i64) (.pr (.int .i64) (.pr (.int .i64) kV)))))))))))))))
abbrev kB : Kd := (.pr (.sl kP) (.pr (.sl (.pr (.sl kP) .nil)) (.pr .str (.pr (.int .i64) (.pr (.int .i64) (.pr (.int .i64) (.pr (.int .i64) (.pr (.int .i64) (.pr (.int .i64) kV)))))))))
abbrev kC : Kd := (.pr .str (.pr (.int .i64) (.pr (.sl (.pr .str (.pr (.int .i64) (.pr (.int .i64) (.pr (.int .i64) (.pr .bool .nil)))))) .nil)))
abbrev kD : Kd := (.pr (.sl (.pr .str (.pr (.int .i64) (.pr (.int .i64) (.pr (.int .i64) (.pr .bool .nil)))))) .nil)
abbrev kE : Kd := (.pr .str (.pr (.int .i64) (.pr (.int .i64) (.pr (.int .i64) (.pr .bool .nil)))))
abbrev kF : Kd := (.pr (.sl kP) (.pr (.sl (.pr (.sl kP) .nil)) .nil))
abbrev kG : Kd := (.pr (.int .i64) (.pr (.int .i64) .bool))
abbrev uu : V := .undef
abbrev ro : Kd → Nat → FF → CV := CV.ro false
variable {ρ σ : Type} (u m : Nat) (k : Ex → St → Option ρ) (ng : ρ → Option σ) (n0 n1 n2 n3 n4 n5 n6 : Nat) (f0 f1 f2 f3 f4 f5 f6 : FF) (i0 i1 i2 i3 i4 i5 i6 i7 i8 i9 iA iB iC iD iE iF iG iH iI iJ iK iL iM : Int) (b0 b1 : Bool) (w0 w1 w2 w3 w4 w5 w6 w7 w8 : ByteArray) (g0 g1 : Nat → CV)
abbrev kR0 : Kd := (.pr .str (.pr (.int .i64) (.pr (.sl (.pr .str (.pr (.int .i64) (.pr (.int .i64) (.pr (.int .i64) (.pr .bool .nil)))))) (.pr .str (.pr .str (.pr (.int .i64) (.pr (.int .i64) (.pr (.int .i64) (.pr .str (.pr (.sl (.pr .str (.pr (.int .i64) (.pr (.int .i64) (.pr .str (.pr .str (.pr (.int .i64) (.pr (.sl (.pr (.int .i64) (.pr (.int .i64) .nil))) (.pr (.sl (.pr (.sl (.pr (.int .i64) (.pr (.int .i64) .nil))) .nil)) (.pr .str (.pr (.int .i64) (.pr (.int .i64) (.pr (.int .i64) (.pr (.int .i64) (.pr (.int .i64) (.pr (.int .i64) (.pr (.int .i64) (.pr (.int .i64) (.pr (.int .i64) .nil))))))))))))))))))) .nil))))))))))
abbrev kR1 : Kd := (.pr .str (.pr (.int .i64) (.pr (.int .i64) (.pr .str (.pr .str (.pr (.int .i64) (.pr (.sl (.pr (.int .i64) (.pr (.int .i64) .nil))) (.pr (.sl (.pr (.sl (.pr (.int .i64) (.pr (.int .i64) .nil))) .nil)) (.pr .str (.pr (.int .i64) (.pr (.int .i64) (.pr (.int .i64) (.pr (.int .i64) (.pr (.int .i64) (.pr (.int .i64) (.pr (.int .i64) (.pr (.int .i64) (.pr (.int .i64) .nil))))))))))))))))))
def C0 (u : Nat) : Oracle := ⟨fun _ _ {_} _ => none,fun _ _ {_} _ => rfl,fun f r n g rest => bif ((Nat.beq f 56 && r.beq kP)) && rest.isEmpty then some (revF n g) else none,fun f r args => match args with | [.v (.ro _ r1 n g)] => bif (false) && r.beq r1 then some (n,g) else none | _ => none⟩
def CE (u : Nat) : Oracle := ⟨fun _ _ {_} _ => none,fun _ _ {_} _ => rfl,fun _ _ _ _ _ => none,fun _ _ _ => none⟩
theorem soundE {P : Program} : Sound P (CE u) := ⟨fun _ _ _ h => (by cases h),fun _ _ _ _ _ _ h => (by cases h),fun _ _ _ _ _ h => (by cases h)⟩
def A56v1 : AC := (.seq (.block 1
 (.region 3 [mv 14 0,mv 15 2,mv 16 0,mv 17 3,mv 18 0,mv 19 3,o1 20 (.indexAddr 47 41 2 (tm 18) (tm 19)),o1 21 (ln 41 2 20),mv 22 0,mv 23 2,o1 24 (.indexAddr 47 41 2 (tm 22) (tm 23)),o1 25 (ln 41 2 24),o1 26 (.indexAddr 47 41 2 (tm 14) (tm 15)),o0 (.store 41 2 (tm 26) (tm 21)),o1 27 (.indexAddr 47 41 2 (tm 16) (tm 17)),o0 (.store 41 2 (tm 27) (tm 25))] 0 (some [[],[],[],[],[],[],[4,5],[4,5,6],[],[],[8,9],[8,9,10],(0 :: 1 :: (rl 4 8 [])),(0 :: 1 :: (rl 4 9 [])),(rl 0 14 []),(rl 0 15 [])]))) []
 (.region 2 [mv 10 2,o1 11 (bk .add 3 10 1),mv 12 3,o1 13 (bk .sub 3 12 1),o1 2 (sg 11),o1 3 (sg 13)] 0 none))
def A56v2 : AC := (.seq (.seq (.region 1 [mv 7 2,mv 8 3,o1 9 (bt .lss 3 7 8)] 0 none) []
 (.cond (tm 9)
 .skip
 (.exit 0 (rl 0 28 [])))) [7,8,9]
 A56v1)
def A56 : AF := ⟨28,[],
 (.seq (.region 0 [mv 4 0,o1 5 (.len 47 false (tm 4)),o1 6 (bk .sub 3 5 1),o1 2 (sk 0),o1 3 (sg 6)] 0 none) []
 (.block 0
 (.loop [] (1 :: (rl 4 24 []))
  A56v2)))⟩
def N52v1 : St → Option St := nN 1 (1 :: (rl 4 24 []))
def s52v0 : St := ⟨(.x (.own 0 0 n0) :: .u :: vxi i0 :: vxi i1 :: (us 24 [])),[.arr kG n0 f0]⟩
def s52v1 : St := ⟨(us 28 []),[.arr kG n0 f0]⟩
def L52v1 {ρ : Type} (u : Nat) (x0 : Nat) : Nat → Int → Int → FF → (FF → Option ρ) → Option ρ
 | 0,_,_,_,_ => none
 | m + 1,x1,x2,x3,k0 =>
  (bif (decide (x1 < x2)) then (bif (inb x2 x0) then (bif (inb x1 x0) then (bif (inb x1 x0) then (bif (inb x2 x0) then (L52v1 u x0 m (w64 (x1 + 1)) (w64 (x2 - 1)) (setF (setF x3 (0 + x1.toNat) 0 2 (listF [(.i .i64 (x3 (0 + x2.toNat) 0).int),(.i .i64 (x3 (0 + x2.toNat) 1).int)])) (0 + x2.toNat) 0 2 (listF [(.i .i64 (x3 (0 + x1.toNat) 0).int),(.i .i64 (x3 (0 + x1.toNat) 1).int)])) k0) else none) else none) else none) else none) else (k0 x3))
theorem r52v1 :
  loopH (eB A56v2 (CE u) u) N52v1 (m + 1) (s52v0 n0 f0 i0 i1) k =
  (bif (decide (i0 < i1)) then (bif (inb i1 n0) then (bif (inb i0 n0) then (bif (inb i0 n0) then (bif (inb i1 n0) then (loopH (eB A56v2 (CE u) u) N52v1 m (s52v0 n0 (setF (setF f0 (0 + i0.toNat) 0 2 (listF [(vi (f0 (0 + i1.toNat) 0).int),(vi (f0 (0 + i1.toNat) 1).int)])) (0 + i1.toNat) 0 2 (listF [(vi (f0 (0 + i0.toNat) 0).int),(vi (f0 (0 + i0.toNat) 1).int)])) (w64 (i0 + 1)) (w64 (i1 - 1))) k) else none) else none) else none) else none) else (k (.exit 0) (s52v1 n0 f0))) := by kernel_rfl
theorem q52v1 : ∀ (m : Nat) (x0 x1 : Int) (x2 : FF),
  loopH (eB A56v2 (CE u) u) N52v1 m (s52v0 n0 x2 x0 x1) k = L52v1 u n0 m x0 x1 x2 (fun x3 => k (.exit 0) (s52v1 n0 x3))
 | 0,_,_,_ => rfl
 | m + 1,x0,x1,x2 => by
  rw [r52v1]
  simp only [L52v1,q52v1 m]
def D52 (x0 : Nat) (x1 : FF) (k : (Nat × FF) → Option ρ) : Option ρ :=
 (L52v1 u x0 u 0 (w64 ((Int.ofNat x0) - 1)) x1
  (fun x2 => (k (x0,x2))))
def F52 (x0 : Nat) (x1 : FF) : Option (Nat × FF) := D52 u x0 x1 some
def s52v2 : St := ⟨[.x (.own 0 0 n0),uu,vxi 0,vxi (w64 ((Int.ofNat n0) - 1)),.x (.own 0 0 n0),vxi (Int.ofNat n0),vxi (w64 ((Int.ofNat n0) - 1)),uu,uu,uu,uu,uu,uu,uu,uu,uu,uu,uu,uu,uu,uu,uu,uu,uu,uu,uu,uu,uu],[.arr kG n0 f0]⟩
theorem walk52 (x0 : Nat) (x1 : FF) :
  evalT (CE u) u A56 kP x0 x1 [] =
  (loopN (eB A56v2 (CE u) u) N52v1 u (s52v2 x0 x1) (kBlk 0 (finishT (Kd.mark kP)))) := by kernel_rfl
theorem t52v1 :
  loopN (eB A56v2 (CE u) u) N52v1 u (s52v2 n0 f0) k =
  L52v1 u n0 u 0 (w64 ((Int.ofNat n0) - 1)) f0 (fun x0 => k (.exit 0) (s52v1 n0 x0)) :=
 Eq.trans (loopN_at (by kernel_rfl)) (q52v1 ..)
theorem g52v2 :
  (kBlk 0 (finishT (Kd.mark kP))) (.exit 0) (s52v1 n0 f0) =
  (some (n0,f0)) := by kernel_rfl
theorem e52 : evalT (CE u) u A56 kP n0 f0 [] = F52 u n0 f0 := by
 rw [walk52]
 simp only [F52,D52,t52v1,g52v2]
def A29v1 : AC := (.region 9 [mv 38 7,o1 39 (bk .add 3 38 1),o1 7 (sg 39)] 0 none)
def A29v2 : AC := (.seq (.block 3
 (.seq (.region 10 [o1 40 (fa 50 6 1 1),o1 41 (lo 48 40),mv 42 7,o1 43 (.indexAddr 48 47 1 (tm 41) (tm 42)),o1 44 (lo 47 43),o1 45 (.len 47 false (tm 44)),o1 46 (bk .gtr 3 45 12)] 0 none) []
  (.cond (tm 46)
  (.seq (.region 11 [o1 4 (sb false)] 0 none) []
   (.ghost [0,1] (.ret (rl 0 4 (rl 5 51 [])))))
  .skip))) (4 :: (rl 40 7 []))
 A29v1)
def A29v3 : AC := (.seq (.seq (.region 8 [mv 33 7,o1 34 (fa 50 6 1 1),o1 35 (lo 48 34),o1 36 (.len 48 false (tm 35)),o1 37 (bt .lss 3 33 36)] 0 none) []
 (.cond (tm 37)
 .skip
 (.ghost [1] (.exit 2 (0 :: 3 :: 4 :: (rl 6 50 [])))))) (rl 33 5 [])
 A29v2)
def A29v4 : AC := (.seq (.region 7 [o1 7 (sk 0)] 0 none) []
 (.block 2
 (.loop [] (0 :: 3 :: 4 :: (rl 8 48 []))
  A29v3)))
def A29v5 : AC := (.region 3 [mv 16 5,o1 17 (bk .add 3 16 1),o1 5 (sg 17)] 0 none)
def A29v6 : AC := (.seq (.block 1
 (.seq (.region 4 [mv 18 1,mv 19 5,o1 20 (.indexAddr 27 56 18 (tm 18) (tm 19)),o1 21 (fa 56 20 6 6),o1 22 (ln 50 2 21),o1 6 (.alloc 0 50 [vcn,vcn]),o0 (.store 50 2 (tm 6) (tm 22))] 1 none) []
  (.seq (.seq (.region 5 [o1 23 (fa 50 6 0 0),o1 24 (lo 47 23),o1 25 (.len 47 false (tm 24)),o1 26 (bk .gtr 3 25 12),mv 27 26,og 28 (fa 50 6 1 1) 27 false,og 29 (lo 48 28) 27 false,og 30 (.len 48 false (tm 29)) 27 false,og 31 (bk .gtr 3 30 4) 27 false,o1 32 (pa 27 31)] 0 none) []
  (.cond (tm 32)
  (.seq (.region 6 [o1 4 (sb false)] 0 none) []
   (.ghost [0,1] (.ret (rl 0 4 (rl 5 51 [])))))
  .skip)) (4 :: (rl 23 10 []))
  A29v4))) (4 :: 6 :: 7 :: (rl 18 29 []))
 A29v5)
def A29v7 : AC := (.seq (.seq (.region 2 [mv 8 5,mv 9 1,o1 10 (.len 27 false (tm 9)),o1 11 (bt .lss 3 8 10),mv 12 11,og 13 (.move (tm 5)) 12 true,og 14 (bk .lss 3 13 21) 12 true,o1 15 (po 12 14)] 0 none) []
 (.cond (tm 15)
 .skip
 (.exit 0 (0 :: (rl 3 53 []))))) (rl 8 8 [])
 A29v6)
def A29v8 : AC := (.seq (.region 12 [o1 47 (fa 24 2 2 2),o1 48 (lo 22 47),o1 49 (.len 22 false (tm 48)),o1 50 (bk .leq 3 49 40),mv 51 50,og 52 (.move (tm 1)) 51 true,og 53 (.len 27 false (tm 52)) 51 true,og 54 (bk .leq 3 53 20) 51 true,o1 55 (po 51 54),o1 4 (sg 55)] 0 none) []
 (.ghost [0] (.ret (rl 0 4 (rl 5 51 [])))))
def A29 : AF := ⟨56,[.tmp 4],
 (.seq (.region 0 [o1 2 (bx 0 24 0),o1 4 (sb false)] 1 none) []
 (.seq (.seq (.region 1 [o1 5 (sk 0)] 0 none) []
 (.block 0
 (.loop [] (0 :: 3 :: 4 :: (rl 6 50 []))
  A29v7))) (rl 4 43 [])
 A29v8))⟩
def N167v2 : St → Option St := nN 2 (0 :: 3 :: 4 :: (rl 8 48 []))
def s167v0 : St := ⟨(.u :: .x (.c (ro kA n0 f0)) :: .x (.ptr 0 0) :: .u :: .u :: vxi i0 :: .x (.ptr 1 0) :: vxi i1 :: (us 48 [])),[.box [(vcs w0),(vci i2),(.c (ro kE n1 f1))],.box [(.c (ro kP n2 f2)),(.c (ro (.pr (.sl kP) .nil) n3 f3))]]⟩
def s167v1 : St := ⟨(us 4 (vxb false :: (us 51 []))),[.dead,.dead]⟩
def s167v2 : St := ⟨(.u :: .x (.c (ro kA n0 f0)) :: .x (.ptr 0 0) :: .u :: .u :: vxi i0 :: (us 50 [])),[.box [(vcs w0),(vci i1),(.c (ro kE n1 f1))],.dead]⟩
def L167v2 {ρ : Type} (u : Nat) (x0 : Nat) (x1 : FF) (x2 : Int) (x3 : ByteArray) (x4 : Int) (x5 : Nat) (x6 : FF) (x7 : Nat) (x8 : FF) (x9 : Nat) (xA : FF) : Nat → Int → (Option ρ) → (Option ρ) → Option ρ
 | 0,_,_,_ => none
 | m + 1,xB,k0,k1 =>
  (bif (decide (xB < (Int.ofNat x9))) then (bif (inb xB x9) then (bif (decide ((Int.ofNat (xA xB.toNat 0).len) > 12)) then k0 else (L167v2 u x0 x1 x2 x3 x4 x5 x6 x7 x8 x9 xA m (w64 (xB + 1)) k0 k1)) else none) else k1)
theorem nl167v2 : ∀ (m : Nat) (x0 : Int) (k0 : Option ρ) (k1 : Option ρ),ob (L167v2 u n0 f0 i0 w0 i1 n1 f1 n2 f2 n3 f3 m x0 k0 k1) ng = L167v2 u n0 f0 i0 w0 i1 n1 f1 n2 f2 n3 f3 m x0 (ob k0 ng) (ob k1 ng)
 | 0,_,_,_ => rfl
 | m + 1,x0,k0,k1 => by
  simp only [L167v2,ob_bif,ob_ob,ob_none,nl167v2 m]
theorem r167v2 :
  loopH (eB A29v3 (C0 u) u) N167v2 (m + 1) (s167v0 n0 n1 n2 n3 f0 f1 f2 f3 i0 i2 i1 w0) k =
  (bif (decide (i2 < (Int.ofNat n3))) then (bif (inb i2 n3) then (bif (decide ((Int.ofNat (f3 i2.toNat 0).len) > 12)) then (k .ret s167v1) else (loopH (eB A29v3 (C0 u) u) N167v2 m (s167v0 n0 n1 n2 n3 f0 f1 f2 f3 i0 (w64 (i2 + 1)) i1 w0) k)) else none) else (k (.exit 2) (s167v2 n0 n1 f0 f1 i0 i1 w0))) := by kernel_rfl
theorem q167v2 : ∀ (m : Nat) (x0 : Int),
  loopH (eB A29v3 (C0 u) u) N167v2 m (s167v0 n0 n1 n2 n3 f0 f1 f2 f3 i0 x0 i1 w0) k = L167v2 u n0 f0 i0 w0 i1 n1 f1 n2 f2 n3 f3 m x0 (k .ret s167v1) (k (.exit 2) (s167v2 n0 n1 f0 f1 i0 i1 w0))
 | 0,_ => rfl
 | m + 1,x0 => by
  rw [r167v2]
  simp only [L167v2,q167v2 m]
def N167v3 : St → Option St := nN 1 (0 :: 3 :: 4 :: (rl 6 50 []))
def s167v3 : St := ⟨(.u :: .x (.c (ro kA n0 f0)) :: .x (.ptr 0 0) :: .u :: .u :: vxi i0 :: (us 50 [])),[.box [(vcs w0),(vci i1),(.c (ro kE n1 f1))]]⟩
def s167v4 : St := ⟨(.u :: .x (.c (ro kA n0 f0)) :: .x (.ptr 0 0) :: (us 53 [])),[.box [(vcs w0),(vci i0),(.c (ro kE n1 f1))]]⟩
def L167v3 {ρ : Type} (u : Nat) (x0 : Nat) (x1 : FF) (x2 : ByteArray) (x3 : Int) (x4 : Nat) (x5 : FF) : Nat → Int → (Option ρ) → (Option ρ) → Option ρ
 | 0,_,_,_ => none
 | m + 1,x6,k0,k1 =>
  (bif ((decide (x6 < (Int.ofNat x0))) == true) then (bif (decide (x6 < 21)) then (bif (inb x6 x0) then (bif ((decide ((Int.ofNat (x1 x6.toNat 6).len) > 12)) == false) then (bif (decide ((Int.ofNat (x1 x6.toNat 7).len) > 4)) then k0 else (L167v2 u x0 x1 x6 x2 x3 x4 x5 (x1 x6.toNat 6).len (x1 x6.toNat 6).el (x1 x6.toNat 7).len (x1 x6.toNat 7).el u 0
  k0
  (L167v3 u x0 x1 x2 x3 x4 x5 m (w64 (x6 + 1)) k0 k1))) else k0) else none) else k1) else k1)
theorem nl167v3 : ∀ (m : Nat) (x0 : Int) (k0 : Option ρ) (k1 : Option ρ),ob (L167v3 u n0 f0 w0 i0 n1 f1 m x0 k0 k1) ng = L167v3 u n0 f0 w0 i0 n1 f1 m x0 (ob k0 ng) (ob k1 ng)
 | 0,_,_,_ => rfl
 | m + 1,x0,k0,k1 => by
  simp only [L167v3,ob_bif,ob_ob,ob_none,nl167v3 m,nl167v2]
def s167v5 : St := ⟨(.u :: .x (.c (ro kA n0 f0)) :: .x (.ptr 0 0) :: .u :: .u :: vxi i0 :: .x (.ptr 1 0) :: vxi 0 :: (us 10 (.x (.c (ro kA n0 f0)) :: vxi i0 :: .x (.c (.rp kA (f0 i0.toNat))) :: .x (.c (.rp kB (fun j => f0 i0.toNat (6 + j)))) :: .agg [(.c (ro kP (f0 i0.toNat 6).len (f0 i0.toNat 6).el)),(.c (ro (.pr (.sl kP) .nil) (f0 i0.toNat 7).len (f0 i0.toNat 7).el))] :: (us 33 [])))),[.box [(vcs w0),(vci i1),(.c (ro kE n1 f1))],.box [(.c (ro kP (f0 i0.toNat 6).len (f0 i0.toNat 6).el)),(.c (ro (.pr (.sl kP) .nil) (f0 i0.toNat 7).len (f0 i0.toNat 7).el))]]⟩
theorem r167v3 :
  loopH (eB A29v7 (C0 u) u) N167v3 (m + 1) (s167v3 n0 n1 f0 f1 i1 i0 w0) k =
  (bif ((decide (i1 < (Int.ofNat n0))) == true) then (bif (decide (i1 < 21)) then (bif (inb i1 n0) then (bif ((decide ((Int.ofNat (f0 i1.toNat 6).len) > 12)) == false) then (bif (decide ((Int.ofNat (f0 i1.toNat 7).len) > 4)) then (k .ret s167v1) else (loopN (eB A29v3 (C0 u) u) N167v2 u (s167v5 n0 n1 f0 f1 i1 i0 w0) (kBlk 2 (kBlk 1 (kSeq (C0 u) u (4 :: 6 :: 7 :: (rl 18 29 [])) A29v5 (kLoop (eB A29v7 (C0 u) u) N167v3 m k)))))) else (k .ret s167v1)) else none) else (k (.exit 0) (s167v4 n0 n1 f0 f1 i0 w0))) else (k (.exit 0) (s167v4 n0 n1 f0 f1 i0 w0))) := by kernel_rfl
theorem t167v1 :
  loopN (eB A29v3 (C0 u) u) N167v2 u (s167v5 n0 n1 f0 f1 i0 i1 w0) k =
  L167v2 u n0 f0 i0 w0 i1 n1 f1 (f0 i0.toNat 6).len (f0 i0.toNat 6).el (f0 i0.toNat 7).len (f0 i0.toNat 7).el u 0 (k .ret s167v1) (k (.exit 2) (s167v2 n0 n1 f0 f1 i0 i1 w0)) :=
 Eq.trans (loopN_at (by kernel_rfl)) (q167v2 ..)
theorem g167v2 :
  (kBlk 2 (kBlk 1 (kSeq (C0 u) u (4 :: 6 :: 7 :: (rl 18 29 [])) A29v5 (kLoop (eB A29v7 (C0 u) u) N167v3 m k)))) .ret s167v1 =
  (k .ret s167v1) := by kernel_rfl
theorem g167v3 :
  (kBlk 2 (kBlk 1 (kSeq (C0 u) u (4 :: 6 :: 7 :: (rl 18 29 [])) A29v5 (kLoop (eB A29v7 (C0 u) u) N167v3 m k)))) (.exit 2) (s167v2 n0 n1 f0 f1 i0 i1 w0) =
  (loopH (eB A29v7 (C0 u) u) N167v3 m (s167v3 n0 n1 f0 f1 (w64 (i0 + 1)) i1 w0) k) := by kernel_rfl
theorem q167v3 : ∀ (m : Nat) (x0 : Int),
  loopH (eB A29v7 (C0 u) u) N167v3 m (s167v3 n0 n1 f0 f1 x0 i0 w0) k = L167v3 u n0 f0 w0 i0 n1 f1 m x0 (k .ret s167v1) (k (.exit 0) (s167v4 n0 n1 f0 f1 i0 w0))
 | 0,_ => rfl
 | m + 1,x0 => by
  rw [r167v3]
  simp only [L167v3,q167v3 m,t167v1,g167v2,g167v3]
def F167 (x0 : ByteArray) (x1 : Int) (x2 : Nat) (x3 : FF) (x4 : Nat) (x5 : FF) : Option (Bool) :=
 (L167v3 u x4 x5 x0 x1 x2 x3 u 0
  (some false)
  (bif ((decide ((Int.ofNat x2) ≤ 40)) == true) then (some (decide ((Int.ofNat x4) ≤ 20))) else (some false)))
def s167v6 : St := ⟨[.agg [(vcs w0),(vci i0),(.c (ro kE n0 f0))],.x (.c (ro kA n1 f1)),.x (.ptr 0 0),uu,vxb false,vxi 0,uu,uu,uu,uu,uu,uu,uu,uu,uu,uu,uu,uu,uu,uu,uu,uu,uu,uu,uu,uu,uu,uu,uu,uu,uu,uu,uu,uu,uu,uu,uu,uu,uu,uu,uu,uu,uu,uu,uu,uu,uu,uu,uu,uu,uu,uu,uu,uu,uu,uu],[.box [(vcs w0),(vci i0),(.c (ro kE n0 f0))]]⟩
theorem t167v4 :
  loopN (eB A29v7 (C0 u) u) N167v3 u (s167v6 n0 n1 f0 f1 i0 w0) k =
  L167v3 u n1 f1 w0 i0 n0 f0 u 0 (k .ret s167v1) (k (.exit 0) (s167v4 n1 n0 f1 f0 i0 w0)) :=
 Eq.trans (loopN_at (by kernel_rfl)) (q167v3 ..)
theorem g167v5 :
  (kBlk 0 (kSeq (C0 u) u (rl 4 43 []) A29v8 (finish A29))) .ret s167v1 =
  (some [.v (.b false)]) := by kernel_rfl
theorem g167v6 :
  (kBlk 0 (kSeq (C0 u) u (rl 4 43 []) A29v8 (finish A29))) (.exit 0) (s167v4 n0 n1 f0 f1 i0 w0) =
  (bif ((decide ((Int.ofNat n1) ≤ 40)) == true) then (some [.v (.b (decide ((Int.ofNat n0) ≤ 20)))]) else (some [.v (.b false)])) := by kernel_rfl
theorem e167 : evalF (C0 u) u A29 [.agg [(.s w0),(vi i0),(ro kE n0 f0)],.v (ro kA n1 f1)] = ob (F167 u w0 i0 n0 f0 n1 f1) fun t => some [.v (.b t)] := Eq.trans (b := (loopN (eB A29v7 (C0 u) u) N167v3 u (s167v6 n0 n1 f0 f1 i0 w0) (kBlk 0 (kSeq (C0 u) u (rl 4 43 []) A29v8 (finish A29))))) (by kernel_rfl) (by
 simp only [F167,ob_bif,ob_ob,ob_none,ob_some,nl167v3,t167v4,g167v5,g167v6])
def O167 : Ora := mkO (qc (ag (tc cS (tc ci (t1 (cL kE))))) (q1 (av (cL kA)))) (fun x => F167 u x.1.1 x.1.2.1 x.1.2.2.1 x.1.2.2.2 x.2.1 x.2.2) fun t => [.v (.b t)]
theorem d167 : DO (O167 u) (C0 u) 29 A29 := dO u (fun x => by exact e167 u x.1.2.2.1 x.2.1 x.1.2.2.2 x.2.2 x.1.2.1 x.1.1)
def C1 : Oracle := (C0 u).add 29 (fun _ => true) (O167 u)
def A10 : AF := ⟨8,[.tmp 2],
 (.seq (.region 0 [o1 1 (bx 0 29 0),o1 2 (sb false)] 1 none) []
 (.seq (.region 1 [o1 3 (fa 29 1 0 0),o1 4 (ln 24 3 3),o1 5 (fa 29 1 2 9),o1 6 (lo 27 5),o1 7 (cs 29 [4,6] [24,27]),o1 2 (sg 7)] 0 none) []
 (.ghost [0] (.ret (0 :: 1 :: (rl 3 5 []))))))⟩
def F168 (x0 : Nat → CV) : Option (Bool) :=
 (ob (F167 u (x0 0).str (x0 1).int (x0 2).len (x0 2).el (x0 9).len (x0 9).el) fun x1 => (some x1))
theorem e168 : evalF (C1 u) u A10 [.agg (pj kR0 g0)] = ob (F168 u g0) fun t => some [.v (.b t)] := Eq.trans (b := (ob (F167 u (g0 0).str (g0 1).int (g0 2).len (g0 2).el (g0 9).len (g0 9).el) fun x0 => (some [.v (.b x0)]))) (by kernel_rfl) (by
 simp only [F168,ob_bif,ob_ob,ob_none,ob_some])
def O168 : Ora := mkO (q1 (ar kR0)) (fun x => F168 u x) fun t => [.v (.b t)]
theorem d168 : DO (O168 u) (C1 u) 10 A10 := dO u (fun x => by exact e168 u x)
def C2 : Oracle := (C1 u).add 10 (fun _ => true) (O168 u)
def A52 : AF := ⟨8,[.tmp 3],
 (.seq (.region 0 [o1 2 (bx 0 56 0),o1 3 (sb false)] 1 none) []
 (.seq (.region 1 [o1 4 (fa 56 2 0 0),o1 5 (lo 9 4),o1 6 (lo 9 1),o1 7 (bt .eql 9 5 6),o1 3 (sg 7)] 0 none) []
 (.ghost [0] (.ret (0 :: 1 :: 2 :: (rl 4 4 []))))))⟩
def F170 (u : Nat) (x0 x1 : Nat → CV) : Option (Bool) :=
 (some (ByteArray.toList (x0 0).str == ByteArray.toList (x1 0).str))
theorem e170 : evalF (C2 u) u A52 [.agg (pj kR1 g0),.v (.rp (.pr .str .nil) g1)] = ob (F170 u g0 g1) fun t => some [.v (.b t)] := Eq.trans (b := (some [.v (.b (ByteArray.toList (g0 0).str == ByteArray.toList (g1 0).str))])) (by kernel_rfl) (by
 simp only [F170,ob_bif,ob_ob,ob_none,ob_some])
def O170 : Ora := mkO (qc (ar kR1) (q1 (av (cP (.pr .str .nil))))) (fun x => F170 u x.1 x.2) fun t => [.v (.b t)]
theorem d170 : DO (O170 u) (C2 u) 52 A52 := dO u (fun x => by exact e170 u x.1 x.2)
def C3 : Oracle := (C2 u).add 52 (fun _ => true) (O170 u)
def A51v1 : AC := (.region 6 [o1 18 (bk .add 3 8 1),mv 8 18] 0 none)
def A51v2 : AC := (.seq (.block 1
 (.seq (.region 3 [mv 10 8,o1 5 (sg 10)] 0 none) []
  (.seq (.region 4 [mv 11 1,mv 12 0,mv 13 5,o1 14 (.indexAddr 27 56 18 (tm 12) (tm 13)),o1 15 (ln 56 18 14),o1 16 (.callv (tm 11) [(tm 15)] [56] .snap)] 0 none) []
  (.cond (tm 16)
  (.seq (.region 5 [mv 17 5,o1 4 (sg 17)] 0 none) []
   (.ret (rl 0 4 (rl 5 14 []))))
  .skip)))) (4 :: 5 :: (rl 10 8 []))
 A51v1)
def A51v3 : AC := (.seq (.region 2 [o1 9 (bt .lss 3 8 7)] 0 none) []
 (.seq (.cond (tm 9)
 .skip
 (.exit 0 (rl 0 19 []))) []
 A51v2))
def A51v4 : AC := (.seq (.region 7 [o1 4 (sk (-1))] 0 none) []
 (.ret (rl 0 4 (rl 5 14 []))))
def A51 : AF := ⟨19,[.tmp 4],
 (.seq (.region 0 [o1 4 (sk 0)] 0 none) []
 (.seq (.seq (.region 1 [mv 6 0,o1 7 (.len 27 false (tm 6)),o1 8 (.move (ic 0))] 0 none) []
 (.block 0
 (.loop [] (rl 2 5 (rl 9 10 []))
  A51v3))) (rl 4 15 [])
 A51v4))⟩
def N171v1 : St → Option St := nN 0 (rl 2 5 (rl 9 10 []))
def s171v0 : St := ⟨(.x (.c (ro kA n0 f0)) :: .x (.c (.fn 52 1 (listF [(.rp (.pr .str .nil) g0)]))) :: (us 5 (vxi i0 :: vxi i1 :: (us 10 [])))),[]⟩
def s171v1 : St := ⟨(us 4 (vxi i0 :: (us 14 []))),[]⟩
def s171v2 : St := ⟨(us 19 []),[]⟩
def L171v1 {ρ : Type} (u : Nat) (x0 : Nat) (x1 : FF) (x2 : Nat → CV) (x3 : Int) : Nat → Int → (Int → Option ρ) → (Option ρ) → Option ρ
 | 0,_,_,_ => none
 | m + 1,x4,k0,k1 =>
  (bif (decide (x4 < x3)) then (bif (inb x4 x0) then (ob (F170 u (listF (pj kR1 (x1 x4.toNat))) x2) fun x5 => (bif x5 then (k0 x4) else (L171v1 u x0 x1 x2 x3 m (w64 (x4 + 1)) k0 k1))) else none) else k1)
theorem nl171v1 : ∀ (m : Nat) (x0 : Int) (k0 : Int → Option ρ) (k1 : Option ρ),ob (L171v1 u n0 f0 g0 i0 m x0 k0 k1) ng = L171v1 u n0 f0 g0 i0 m x0 (fun x1 => ob (k0 x1) ng) (ob k1 ng)
 | 0,_,_,_ => rfl
 | m + 1,x0,k0,k1 => by
  simp only [L171v1,ob_bif,ob_ob,ob_none,nl171v1 m]
theorem r171v1 :
  loopH (eB A51v3 (C3 u) u) N171v1 (m + 1) (s171v0 n0 f0 i0 i1 g0) k =
  (bif (decide (i1 < i0)) then (bif (inb i1 n0) then (ob (F170 u (listF (pj kR1 (f0 i1.toNat))) g0) fun x0 => (bif x0 then (k .ret (s171v1 i1)) else (loopH (eB A51v3 (C3 u) u) N171v1 m (s171v0 n0 f0 i0 (w64 (i1 + 1)) g0) k))) else none) else (k (.exit 0) s171v2)) := by kernel_rfl
theorem q171v1 : ∀ (m : Nat) (x0 : Int),
  loopH (eB A51v3 (C3 u) u) N171v1 m (s171v0 n0 f0 i0 x0 g0) k = L171v1 u n0 f0 g0 i0 m x0 (fun x1 => k .ret (s171v1 x1)) (k (.exit 0) s171v2)
 | 0,_ => rfl
 | m + 1,x0 => by
  rw [r171v1]
  simp only [L171v1,q171v1 m]
def F171 (x0 : Nat) (x1 : FF) (x2 : Nat → CV) : Option (Int) :=
 (L171v1 u x0 x1 x2 (Int.ofNat x0) u 0
  (fun x3 => (some x3))
  (some (-1)))
def s171v3 : St := ⟨[.x (.c (ro kA n0 f0)),.x (.c (.fn 52 1 (listF [(.rp (.pr .str .nil) g0)]))),uu,uu,vxi 0,uu,.x (.c (ro kA n0 f0)),vxi (Int.ofNat n0),vxi 0,uu,uu,uu,uu,uu,uu,uu,uu,uu,uu],[]⟩
theorem t171v1 :
  loopN (eB A51v3 (C3 u) u) N171v1 u (s171v3 n0 f0 g0) k =
  L171v1 u n0 f0 g0 (Int.ofNat n0) u 0 (fun x0 => k .ret (s171v1 x0)) (k (.exit 0) s171v2) :=
 Eq.trans (loopN_at (by kernel_rfl)) (q171v1 ..)
theorem g171v2 :
  (kBlk 0 (kSeq (C3 u) u (rl 4 15 []) A51v4 (finish A51))) .ret (s171v1 i0) =
  (some [.v (vi i0)]) := by kernel_rfl
theorem g171v3 :
  (kBlk 0 (kSeq (C3 u) u (rl 4 15 []) A51v4 (finish A51))) (.exit 0) s171v2 =
  (some [.v (vi (-1))]) := by kernel_rfl
theorem e171 : evalF (C3 u) u A51 [.v (ro kA n0 f0),.v (.fn 52 1 (listF [(.rp (.pr .str .nil) g0)]))] = ob (F171 u n0 f0 g0) fun t => some [.v (vi t)] := Eq.trans (b := (loopN (eB A51v3 (C3 u) u) N171v1 u (s171v3 n0 f0 g0) (kBlk 0 (kSeq (C3 u) u (rl 4 15 []) A51v4 (finish A51))))) (by kernel_rfl) (by
 simp only [F171,ob_bif,ob_ob,ob_none,ob_some,nl171v1,t171v1,g171v2,g171v3])
def O171 : Ora := mkO (qc (av (cL kA)) (q1 (av (cF 52 1 (t1 (cP (.pr .str .nil))))))) (fun x => F171 u x.1.1 x.1.2 x.2) fun t => [.v (vi t)]
theorem d171 : DO (O171 u) (C3 u) 51 A51 := dO u (fun x => by exact e171 u x.1.1 x.1.2 x.2)
def C4 : Oracle := (C3 u).add 51 (fun l => isFn 52 l 1) (O171 u)
def A30v1 : AC := (.seq (.region 4 [mv 13 0,mv 14 6,o1 15 (.indexAddr 27 56 18 (tm 13) (tm 14)),o1 16 (ln 56 18 15),o0 (.store 56 18 (tm 4) (tm 16)),o1 5 (sb true)] 0 none) []
 (.ghost [0] (.ret (rl 0 4 (rl 6 11 [])))))
def A30 : AF := ⟨17,[.cell 4 56 (some 18),.tmp 5],
 (.seq (.region 0 [o1 3 (bx 0 9 1),o1 4 (.alloc 1 56 [vcs ByteArray.empty,vci 0,vci 0,vcs ByteArray.empty,vcs ByteArray.empty,vci 0,vcn,vcn,vcs ByteArray.empty,vci 0,vci 0,vci 0,vci 0,vci 0,vci 0,vci 0,vci 0,vci 0]),o1 5 (sb false)] 2 none) []
 (.seq (.region 1 [mv 7 0,o1 8 (.mkfn 52 [(tm 3)]),o1 9 (cs 51 [7,8] [27,85]),o1 6 (sg 9)] 0 none) []
 (.seq (.seq (.region 2 [mv 10 6,o1 11 (bk .lss 3 10 0)] 0 none) []
 (.cond (tm 11)
 (.seq (.region 3 [o1 12 (.build 56 [vcs ByteArray.empty,vci 0,vci 0,vcs ByteArray.empty,vcs ByteArray.empty,vci 0,vcn,vcn,vcs ByteArray.empty,vci 0,vci 0,vci 0,vci 0,vci 0,vci 0,vci 0,vci 0,vci 0] [(0,1),(1,1),(2,1),(3,1),(4,1),(5,1),(6,2),(8,1),(9,1),(10,1),(11,3),(14,4)] 0 []),o0 (.store 56 18 (tm 4) (tm 12)),o1 5 (sb false)] 0 none) []
  (.ghost [0] (.ret (rl 0 4 (rl 6 11 [])))))
 .skip)) [5,10,11,12]
 A30v1)))⟩
def FT172 (x0 : Nat) (x1 : FF) (x2 : ByteArray) : Option (Bool × ByteArray × Int × Int × ByteArray × ByteArray × Int × Nat × FF × Nat × FF × ByteArray × Int × Int × Int × Int × Int × Int × Int × Int × Int × Bool) :=
 (ob (F171 u x0 x1 (listF [(.s x2)])) fun x3 => (bif (decide (x3 < 0)) then (some (true,ByteArray.empty,0,0,ByteArray.empty,ByteArray.empty,0,0,(fun _ _ => .any),0,(fun _ _ => .any),ByteArray.empty,0,0,0,0,0,0,0,0,0,false)) else (bif (inb x3 x0) then (some (false,(x1 x3.toNat 0).str,(x1 x3.toNat 1).int,(x1 x3.toNat 2).int,(x1 x3.toNat 3).str,(x1 x3.toNat 4).str,(x1 x3.toNat 5).int,(x1 x3.toNat 6).len,(x1 x3.toNat 6).el,(x1 x3.toNat 7).len,(x1 x3.toNat 7).el,(x1 x3.toNat 8).str,(x1 x3.toNat 9).int,(x1 x3.toNat 10).int,(x1 x3.toNat 11).int,(x1 x3.toNat 12).int,(x1 x3.toNat 13).int,(x1 x3.toNat 14).int,(x1 x3.toNat 15).int,(x1 x3.toNat 16).int,(x1 x3.toNat 17).int,true)) else none)))
theorem e172 : evalF (C4 u) u A30 [.v (ro kA n0 f0),.v (.s w0)] = ob (FT172 u n0 f0 w0) fun t => some (bif t.1 then [.agg [(.s ByteArray.empty),(vi 0),(vi 0),(.s ByteArray.empty),(.s ByteArray.empty),(vi 0),(.ro true .nil 0 nilF),(.ro true .nil 0 nilF),(.s ByteArray.empty),(vi 0),(vi 0),(vi 0),(vi 0),(vi 0),(vi 0),(vi 0),(vi 0),(vi 0)],.v (.b false)] else [.agg [(.s t.2.1),(vi t.2.2.1),(vi t.2.2.2.1),(.s t.2.2.2.2.1),(.s t.2.2.2.2.2.1),(vi t.2.2.2.2.2.2.1),(ro kP t.2.2.2.2.2.2.2.1 t.2.2.2.2.2.2.2.2.1),(ro (.pr (.sl kP) .nil) t.2.2.2.2.2.2.2.2.2.1 t.2.2.2.2.2.2.2.2.2.2.1),(.s t.2.2.2.2.2.2.2.2.2.2.2.1),(vi t.2.2.2.2.2.2.2.2.2.2.2.2.1),(vi t.2.2.2.2.2.2.2.2.2.2.2.2.2.1),(vi t.2.2.2.2.2.2.2.2.2.2.2.2.2.2.1),(vi t.2.2.2.2.2.2.2.2.2.2.2.2.2.2.2.1),(vi t.2.2.2.2.2.2.2.2.2.2.2.2.2.2.2.2.1),(vi t.2.2.2.2.2.2.2.2.2.2.2.2.2.2.2.2.2.1),(vi t.2.2.2.2.2.2.2.2.2.2.2.2.2.2.2.2.2.2.1),(vi t.2.2.2.2.2.2.2.2.2.2.2.2.2.2.2.2.2.2.2.1),(vi t.2.2.2.2.2.2.2.2.2.2.2.2.2.2.2.2.2.2.2.2.1)],.v (.b true)]) := Eq.trans (b := (ob (F171 u n0 f0 (listF [(.s w0)])) fun x0 => (bif (decide (x0 < 0)) then (some [.agg [(.s ByteArray.empty),(vi 0),(vi 0),(.s ByteArray.empty),(.s ByteArray.empty),(vi 0),(.ro true .nil 0 nilF),(.ro true .nil 0 nilF),(.s ByteArray.empty),(vi 0),(vi 0),(vi 0),(vi 0),(vi 0),(vi 0),(vi 0),(vi 0),(vi 0)],.v (.b false)]) else (bif (inb x0 n0) then (some [.agg (pj kR1 (f0 x0.toNat)),.v (.b true)]) else none)))) (by kernel_rfl) (by
 simp only [FT172,ob_bif,ob_ob,ob_none,ob_some,cond_true,cond_false] <;> kernel_rfl)
def F172 (x0 : Nat) (x1 : FF) (x2 : ByteArray) : Option (ByteArray × Int × Int × ByteArray × ByteArray × Int × Nat × FF × Nat × FF × ByteArray × Int × Int × Int × Int × Int × Int × Int × Int × Int × Bool) := ob (FT172 u x0 x1 x2) fun t => some (bif t.1 then (ByteArray.empty,0,0,ByteArray.empty,ByteArray.empty,0,0,(fun _ _ => .any),0,(fun _ _ => .any),ByteArray.empty,0,0,0,0,0,0,0,0,0,false) else (t.2.1,t.2.2.1,t.2.2.2.1,t.2.2.2.2.1,t.2.2.2.2.2.1,t.2.2.2.2.2.2.1,t.2.2.2.2.2.2.2.1,t.2.2.2.2.2.2.2.2.1,t.2.2.2.2.2.2.2.2.2.1,t.2.2.2.2.2.2.2.2.2.2.1,t.2.2.2.2.2.2.2.2.2.2.2.1,t.2.2.2.2.2.2.2.2.2.2.2.2.1,t.2.2.2.2.2.2.2.2.2.2.2.2.2.1,t.2.2.2.2.2.2.2.2.2.2.2.2.2.2.1,t.2.2.2.2.2.2.2.2.2.2.2.2.2.2.2.1,t.2.2.2.2.2.2.2.2.2.2.2.2.2.2.2.2.1,t.2.2.2.2.2.2.2.2.2.2.2.2.2.2.2.2.2.1,t.2.2.2.2.2.2.2.2.2.2.2.2.2.2.2.2.2.2.1,t.2.2.2.2.2.2.2.2.2.2.2.2.2.2.2.2.2.2.2.1,t.2.2.2.2.2.2.2.2.2.2.2.2.2.2.2.2.2.2.2.2.1,true))
def O172 : Ora := mkO (qc (av (cL kA)) (q1 (av cS))) (fun x => F172 u x.1.1 x.1.2 x.2) fun t => [.agg [(.s t.1),(vi t.2.1),(vi t.2.2.1),(.s t.2.2.2.1),(.s t.2.2.2.2.1),(vi t.2.2.2.2.2.1),(ro kP t.2.2.2.2.2.2.1 t.2.2.2.2.2.2.2.1),(ro (.pr (.sl kP) .nil) t.2.2.2.2.2.2.2.2.1 t.2.2.2.2.2.2.2.2.2.1),(.s t.2.2.2.2.2.2.2.2.2.2.1),(vi t.2.2.2.2.2.2.2.2.2.2.2.1),(vi t.2.2.2.2.2.2.2.2.2.2.2.2.1),(vi t.2.2.2.2.2.2.2.2.2.2.2.2.2.1),(vi t.2.2.2.2.2.2.2.2.2.2.2.2.2.2.1),(vi t.2.2.2.2.2.2.2.2.2.2.2.2.2.2.2.1),(vi t.2.2.2.2.2.2.2.2.2.2.2.2.2.2.2.2.1),(vi t.2.2.2.2.2.2.2.2.2.2.2.2.2.2.2.2.2.1),(vi t.2.2.2.2.2.2.2.2.2.2.2.2.2.2.2.2.2.2.1),(vi t.2.2.2.2.2.2.2.2.2.2.2.2.2.2.2.2.2.2.2.1)],.v (.b t.2.2.2.2.2.2.2.2.2.2.2.2.2.2.2.2.2.2.2.2)]
theorem d172 : DO (O172 u) (C4 u) 30 A30 := dW u (fun x => by exact e172 u x.1.1 x.1.2 x.2) (fun _ => rfl) fun t => by
 obtain ⟨b,t⟩ := t
 cases b with
 | true => exact (.cons (WkA.agg (.cons (Wk.refl _) (.cons (Wk.refl _) (.cons (Wk.refl _) (.cons (Wk.refl _) (.cons (Wk.refl _) (.cons (Wk.refl _) (.cons (Wk.ro (by rfl)) (.cons (Wk.ro (by rfl)) (.cons (Wk.refl _) (.cons (Wk.refl _) (.cons (Wk.refl _) (.cons (Wk.refl _) (.cons (Wk.refl _) (.cons (Wk.refl _) (.cons (Wk.refl _) (.cons (Wk.refl _) (.cons (Wk.refl _) (.cons (Wk.refl _) .nil))))))))))))))))))) (.cons (WkA.v (Wk.refl _)) .nil))
 | false =>
  exact (.cons (WkA.agg (.cons (Wk.refl _) (.cons (Wk.refl _) (.cons (Wk.refl _) (.cons (Wk.refl _) (.cons (Wk.refl _) (.cons (Wk.refl _) (.cons (Wk.refl _) (.cons (Wk.refl _) (.cons (Wk.refl _) (.cons (Wk.refl _) (.cons (Wk.refl _) (.cons (Wk.refl _) (.cons (Wk.refl _) (.cons (Wk.refl _) (.cons (Wk.refl _) (.cons (Wk.refl _) (.cons (Wk.refl _) (.cons (Wk.refl _) .nil))))))))))))))))))) (.cons (WkA.v (Wk.refl _)) .nil))
def C5 : Oracle := (C4 u).add 30 (fun _ => true) (O172 u)
def A53 : AF := ⟨21,[.tmp 2],
 (.seq (.region 0 [o1 1 (bx 0 41 0),o1 2 (sb false)] 1 none) []
 (.seq (.region 1 [o1 3 (fa 41 1 0 0),o1 4 (lo 3 3),o1 5 (bk .lss 3 4 (-1099511627776)),mv 6 5,og 7 (fa 41 1 0 0) 6 false,og 8 (lo 3 7) 6 false,og 9 (bk .gtr 3 8 1099511627776) 6 false,o1 10 (pa 6 9),mv 11 10,og 12 (fa 41 1 1 1) 11 false,og 13 (lo 3 12) 11 false,og 14 (bk .lss 3 13 (-1099511627776)) 11 false,o1 15 (pa 11 14),mv 16 15,og 17 (fa 41 1 1 1) 16 false,og 18 (lo 3 17) 16 false,og 19 (bk .gtr 3 18 1099511627776) 16 false,o1 20 (pa 16 19),o1 2 (sg 20)] 0 none) []
 (.ret (0 :: 1 :: (rl 3 18 [])))))⟩
def F49 (u : Nat) (x0 x1 : Int) : Option (Bool) :=
 (bif ((decide (x0 < (-1099511627776))) == false) then (bif ((decide (x0 > 1099511627776)) == false) then (bif ((decide (x1 < (-1099511627776))) == false) then (some (decide (x1 > 1099511627776))) else (some true)) else (some true)) else (some true))
theorem e49 : evalF (C5 u) u A53 [.agg [(vi i0),(vi i1)]] = ob (F49 u i0 i1) fun t => some [.v (.b t)] := Eq.trans (b := (bif ((decide (i0 < (-1099511627776))) == false) then (bif ((decide (i0 > 1099511627776)) == false) then (bif ((decide (i1 < (-1099511627776))) == false) then (some [.v (.b (decide (i1 > 1099511627776)))]) else (some [.v (.b true)])) else (some [.v (.b true)])) else (some [.v (.b true)]))) (by kernel_rfl) (by
 simp only [F49,ob_bif,ob_ob,ob_none,ob_some])
def O49 : Ora := mkO (q1 (ag (tc ci (t1 ci)))) (fun x => F49 u x.1 x.2) fun t => [.v (.b t)]
theorem d49 : DO (O49 u) (C5 u) 53 A53 := dO u (fun x => by exact e49 u x.1 x.2)
def C6 : Oracle := (C5 u).add 53 (fun _ => true) (O49 u)
def A44 : AF := ⟨9,[.tmp 2],
 (.seq (.region 0 [o1 1 (bx 0 50 0),o1 2 (.assign (.const (.slice none 0 0)))] 1 none) []
 (.seq (.region 1 [o1 3 (fa 50 1 0 0),o1 4 (lo 47 3),o1 5 (.buildSlice 0 48 47 (.pr (.sl kP) .nil) 1 [vcn] [(0,(tm 4))]),o1 6 (fa 50 1 1 1),o1 7 (lo 48 6),o1 8 (.append 1 48 47 (.pr (.sl kP) .nil) 24 (tm 5) (tm 7)),o1 2 (sg 8)] 2 none) []
 (.ret (0 :: 1 :: (rl 3 6 [])))))⟩
def F42 (u : Nat) (x0 : Nat) (x1 : FF) (x2 : Nat) (x3 : FF) : Option (Nat × FF) :=
 (bif (Nat.ble (1 + x2) 1073741824) then (some ((1 + x2),(joinF 1 (rowsF 1 [(.ro false (.pr (.int .i64) (.pr (.int .i64) .nil)) x0 x1)]) x3))) else none)
theorem e42 : evalF (C6 u) u A44 [.agg [(ro kP n0 f0),(ro (.pr (.sl kP) .nil) n1 f1)]] = ob (F42 u n0 f0 n1 f1) fun t => some [.v (ro (.pr (.sl kP) .nil) t.1 t.2)] := Eq.trans (b := (bif (Nat.ble (1 + n1) 1073741824) then (some [.v (ro (.pr (.sl kP) .nil) (1 + n1) (joinF 1 (rowsF 1 [(ro kP n0 f0)]) f1))]) else none)) (by kernel_rfl) (by
 simp only [F42,ob_bif,ob_ob,ob_none,ob_some])
def O42 : Ora := mkO (q1 (ag (tc (cL kP) (t1 (cL (.pr (.sl kP) .nil)))))) (fun x => F42 u x.1.1 x.1.2 x.2.1 x.2.2) fun t => [.v (ro (.pr (.sl kP) .nil) t.1 t.2)]
theorem d42 : DO (O42 u) (C6 u) 44 A44 := dO u (fun x => by exact e42 u x.1.1 x.2.1 x.1.2 x.2.2)
def C7 : Oracle := (C6 u).add 44 (fun _ => true) (O42 u)
def A76v1 : AC := (.region 6 [o1 18 (bk .add 3 8 1),mv 8 18] 0 none)
def A76v2 : AC := (.seq (.block 1
 (.seq (.region 3 [mv 10 8,o1 5 (sg 10)] 0 none) []
  (.seq (.region 4 [mv 11 1,mv 12 0,mv 13 5,o1 14 (.indexAddr 47 41 2 (tm 12) (tm 13)),o1 15 (ln 41 2 14),o1 16 (.callv (tm 11) [(tm 15)] [41] .snap)] 0 none) []
  (.cond (tm 16)
  (.seq (.region 5 [mv 17 5,o1 4 (sg 17)] 0 none) []
   (.ret (rl 0 4 (rl 5 14 []))))
  .skip)))) (4 :: 5 :: (rl 10 8 []))
 A76v1)
def A76v3 : AC := (.seq (.region 2 [o1 9 (bt .lss 3 8 7)] 0 none) []
 (.seq (.cond (tm 9)
 .skip
 (.exit 0 (rl 0 19 []))) []
 A76v2))
def A76v4 : AC := (.seq (.region 7 [o1 4 (sk (-1))] 0 none) []
 (.ret (rl 0 4 (rl 5 14 []))))
def A76 : AF := ⟨19,[.tmp 4],
 (.seq (.region 0 [o1 4 (sk 0)] 0 none) []
 (.seq (.seq (.region 1 [mv 6 0,o1 7 (.len 47 false (tm 6)),o1 8 (.move (ic 0))] 0 none) []
 (.block 0
 (.loop [] (rl 2 5 (rl 9 10 []))
  A76v3))) (rl 4 15 [])
 A76v4))⟩
def N73cv1 : St → Option St := nN 0 (rl 2 5 (rl 9 10 []))
def s73cv0 : St := ⟨(.x (.c (ro kP n0 f0)) :: .x (.c (.fn 53 0 (listF []))) :: (us 5 (vxi i0 :: vxi i1 :: (us 10 [])))),[]⟩
def s73cv1 : St := ⟨(us 4 (vxi i0 :: (us 14 []))),[]⟩
def s73cv2 : St := ⟨(us 19 []),[]⟩
def L73cv1 {ρ : Type} (u : Nat) (x0 : Nat) (x1 : FF) (x2 : Int) : Nat → Int → (Int → Option ρ) → (Option ρ) → Option ρ
 | 0,_,_,_ => none
 | m + 1,x3,k0,k1 =>
  (bif (decide (x3 < x2)) then (bif (inb x3 x0) then (ob (F49 u (x1 x3.toNat 0).int (x1 x3.toNat 1).int) fun x4 => (bif x4 then (k0 x3) else (L73cv1 u x0 x1 x2 m (w64 (x3 + 1)) k0 k1))) else none) else k1)
theorem nl73cv1 : ∀ (m : Nat) (x0 : Int) (k0 : Int → Option ρ) (k1 : Option ρ),ob (L73cv1 u n0 f0 i0 m x0 k0 k1) ng = L73cv1 u n0 f0 i0 m x0 (fun x1 => ob (k0 x1) ng) (ob k1 ng)
 | 0,_,_,_ => rfl
 | m + 1,x0,k0,k1 => by
  simp only [L73cv1,ob_bif,ob_ob,ob_none,nl73cv1 m]
theorem r73cv1 :
  loopH (eB A76v3 (C7 u) u) N73cv1 (m + 1) (s73cv0 n0 f0 i0 i1) k =
  (bif (decide (i1 < i0)) then (bif (inb i1 n0) then (ob (F49 u (f0 i1.toNat 0).int (f0 i1.toNat 1).int) fun x0 => (bif x0 then (k .ret (s73cv1 i1)) else (loopH (eB A76v3 (C7 u) u) N73cv1 m (s73cv0 n0 f0 i0 (w64 (i1 + 1))) k))) else none) else (k (.exit 0) s73cv2)) := by kernel_rfl
theorem q73cv1 : ∀ (m : Nat) (x0 : Int),
  loopH (eB A76v3 (C7 u) u) N73cv1 m (s73cv0 n0 f0 i0 x0) k = L73cv1 u n0 f0 i0 m x0 (fun x1 => k .ret (s73cv1 x1)) (k (.exit 0) s73cv2)
 | 0,_ => rfl
 | m + 1,x0 => by
  rw [r73cv1]
  simp only [L73cv1,q73cv1 m]
def F73c (x0 : Nat) (x1 : FF) : Option (Int) :=
 (L73cv1 u x0 x1 (Int.ofNat x0) u 0
  (fun x2 => (some x2))
  (some (-1)))
def s73cv3 : St := ⟨[.x (.c (ro kP n0 f0)),.x (.c (.fn 53 0 (listF []))),uu,uu,vxi 0,uu,.x (.c (ro kP n0 f0)),vxi (Int.ofNat n0),vxi 0,uu,uu,uu,uu,uu,uu,uu,uu,uu,uu],[]⟩
theorem t73cv1 :
  loopN (eB A76v3 (C7 u) u) N73cv1 u (s73cv3 n0 f0) k =
  L73cv1 u n0 f0 (Int.ofNat n0) u 0 (fun x0 => k .ret (s73cv1 x0)) (k (.exit 0) s73cv2) :=
 Eq.trans (loopN_at (by kernel_rfl)) (q73cv1 ..)
theorem g73cv2 :
  (kBlk 0 (kSeq (C7 u) u (rl 4 15 []) A76v4 (finish A76))) .ret (s73cv1 i0) =
  (some [.v (vi i0)]) := by kernel_rfl
theorem g73cv3 :
  (kBlk 0 (kSeq (C7 u) u (rl 4 15 []) A76v4 (finish A76))) (.exit 0) s73cv2 =
  (some [.v (vi (-1))]) := by kernel_rfl
theorem e73c : evalF (C7 u) u A76 [.v (ro kP n0 f0),.v (.fn 53 0 (listF []))] = ob (F73c u n0 f0) fun t => some [.v (vi t)] := Eq.trans (b := (loopN (eB A76v3 (C7 u) u) N73cv1 u (s73cv3 n0 f0) (kBlk 0 (kSeq (C7 u) u (rl 4 15 []) A76v4 (finish A76))))) (by kernel_rfl) (by
 simp only [F73c,ob_bif,ob_ob,ob_none,ob_some,nl73cv1,t73cv1,g73cv2,g73cv3])
def O73c : Ora := mkO (qc (av (cL kP)) (q1 (av (cF 53 0 t0)))) (fun x => F73c u x.1.1 x.1.2) fun t => [.v (vi t)]
theorem d73c : DO (O73c u) (C7 u) 76 A76 := dO u (fun x => by exact e73c u x.1.1 x.1.2)
def C8 : Oracle := (C7 u).add 76 (fun l => isFn 53 l 1) (O73c u)
def A54 : AF := ⟨9,[.tmp 4],
 (.seq (.region 0 [o1 4 (sb false)] 0 none) []
 (.seq (.region 1 [mv 5 0,mv 6 1,o1 7 (cs 76 [5,6] [47,86]),o1 8 (bk .geq 3 7 0),o1 4 (sg 8)] 0 none) []
 (.ret (rl 0 4 (rl 5 4 [])))))⟩
def F50c (x0 : Nat) (x1 : FF) : Option (Bool) :=
 (ob (F73c u x0 x1) fun x2 => (some (decide (x2 ≥ 0))))
theorem e50c : evalF (C8 u) u A54 [.v (ro kP n0 f0),.v (.fn 53 0 (listF []))] = ob (F50c u n0 f0) fun t => some [.v (.b t)] := Eq.trans (b := (ob (F73c u n0 f0) fun x0 => (some [.v (.b (decide (x0 ≥ 0)))]))) (by kernel_rfl) (by
 simp only [F50c,ob_bif,ob_ob,ob_none,ob_some])
def O50c : Ora := mkO (qc (av (cL kP)) (q1 (av (cF 53 0 t0)))) (fun x => F50c u x.1.1 x.1.2) fun t => [.v (.b t)]
theorem d50c : DO (O50c u) (C8 u) 54 A54 := dO u (fun x => by exact e50c u x.1.1 x.1.2)
def C9 : Oracle := (C8 u).add 54 (fun l => isFn 53 l 1) (O50c u)
def A55v1 : AC := (.seq (.block 3
 (.region 9 [o1 23 (fa 41 6 1 1),o1 24 (lo 3 23),o1 25 (.unOp .neg 3 (tm 24)),o1 26 (fa 41 6 0 0),o1 27 (lo 3 26),o1 28 (.build 41 [vci 0,vci 0] [(0,1),(1,1)] 0 [(0,(tm 25)),(1,(tm 27))]),o0 (.store 41 2 (tm 6) (tm 28))] 0 none)) []
 (.region 10 [o1 29 (bk .add 3 21 1),mv 21 29] 0 none))
def A55v2 : AC := (.seq (.region 8 [o1 22 (bt .lss 3 21 20)] 0 none) []
 (.seq (.cond (tm 22)
 .skip
 (.exit 2 (0 :: 2 :: 3 :: 5 :: (rl 10 42 [])))) []
 A55v1))
def A55v3 : AC := (.region 11 [mv 30 4,o1 31 (fa 41 6 0 0),o1 32 (lo 3 31),o1 33 (fa 43 1 1 1),o1 34 (fa 41 33 0 0),o1 35 (lo 3 34),o1 36 (bt .add 3 32 35),o1 37 (fa 41 6 1 1),o1 38 (lo 3 37),o1 39 (fa 43 1 1 1),o1 40 (fa 41 39 1 1),o1 41 (lo 3 40),o1 42 (bt .add 3 38 41),o1 43 (.build 41 [vci 0,vci 0] [(0,1),(1,1)] 0 [(0,(tm 36)),(1,(tm 42))]),o1 44 (.buildSlice 0 47 41 kP 1 [vci 0,vci 0] [(0,(tm 43))]),o1 45 (.append 1 47 41 kP 16 (tm 30) (tm 44)),o1 4 (sg 45)] 2 none)
def A55v4 : AC := (.seq (.seq (.region 7 [o1 19 (fa 43 1 2 3),o1 20 (lo 3 19),o1 21 (.move (ic 0))] 0 none) []
 (.block 2
 (.loop [] (0 :: 2 :: 3 :: 5 :: (rl 10 10 (rl 22 30 [])))
  A55v2))) (rl 19 11 [])
 A55v3)
def A55v5 : AC := (.region 12 [o1 46 (bk .add 3 9 1),mv 9 46] 0 none)
def A55v6 : AC := (.seq (.block 1
 (.seq (.region 4 [o1 11 (.indexAddr 47 41 2 (tm 7) (tm 9)),o1 12 (ln 41 2 11),o1 6 (.alloc 0 41 [vci 0,vci 0]),o0 (.store 41 2 (tm 6) (tm 12))] 1 none) []
  (.seq (.seq (.region 5 [o1 13 (fa 43 1 3 4),o1 14 (lo 4 13)] 0 none) []
  (.cond (tm 14)
  (.region 6 [o1 15 (fa 41 6 0 0),o1 16 (lo 3 15),o1 17 (.unOp .neg 3 (tm 16)),o1 18 (fa 41 6 0 0),o0 (.store 3 1 (tm 18) (tm 17))] 0 none)
  .skip)) (rl 13 6 [])
  A55v4))) (6 :: (rl 11 35 []))
 A55v5)
def A55v7 : AC := (.seq (.region 3 [o1 10 (bt .lss 3 9 8)] 0 none) []
 (.seq (.cond (tm 10)
 .skip
 (.exit 0 (0 :: 2 :: 3 :: (rl 5 47 [])))) []
 A55v6))
def A55v8 : AC := (.seq (.region 15 [mv 51 4,o1 3 (sg 51)] 0 none) []
 (.ret (0 :: 1 :: 2 :: (rl 4 48 []))))
def A55v9 : AC := (.seq (.seq (.region 13 [o1 47 (fa 43 1 3 4),o1 48 (lo 4 47)] 0 none) []
 (.cond (tm 48)
 (.region 14 [mv 49 4,o1 50 (.turn 56 (tm 49) [] [47])] 0 none)
 .skip)) (rl 47 4 [])
 A55v8)
def A55 : AF := ⟨52,[.tmp 3],
 (.seq (.region 0 [o1 3 (.assign (.const (.slice none 0 0)))] 0 none) []
 (.seq (.region 1 [o1 4 (.assign (.const (.slice none 0 0)))] 0 none) []
 (.seq (.seq (.region 2 [mv 7 0,o1 8 (.len 47 false (tm 7)),o1 9 (.move (ic 0))] 0 none) []
 (.block 0
 (.loop [.slot 4 kP] (0 :: 2 :: 3 :: 5 :: 6 :: (rl 10 42 []))
  A55v7))) (rl 6 41 [])
 A55v9)))⟩
def N51v2 : St → Option St := nN 2 (0 :: 2 :: 3 :: 5 :: (rl 10 10 (rl 22 30 [])))
def s51v0 : St := ⟨(.u :: .x (.c (.rp kE g0)) :: .u :: .u :: .x (.own 0 0 n0) :: .u :: .x (.ptr 1 0) :: .x (.c (ro kP n1 f0)) :: vxi i0 :: vxi i1 :: (us 10 (vxi (g1 3).int :: vxi i2 :: (us 30 [])))),[.arr kP n0 f1,.box [(vci i3),(vci i4)]]⟩
def s51v1 : St := ⟨(.u :: .x (.c (.rp kE g0)) :: .u :: .u :: .x (.own 0 0 n0) :: .u :: .x (.ptr 1 0) :: .x (.c (ro kP n1 f0)) :: vxi i0 :: vxi i1 :: (us 42 [])),[.arr kP n0 f1,.box [(vci i2),(vci i3)]]⟩
def L51v2 {ρ : Type} (u : Nat) (x0 : Nat → CV) (x1 x2 : Nat) (x3 : FF) (x4 x5 : Int) (x6 : Nat → CV) (x7 : FF) : Nat → Int → Int → Int → (Int → Int → Option ρ) → Option ρ
 | 0,_,_,_,_ => none
 | m + 1,x8,x9,xA,k0 =>
  (bif (decide (x8 < (x6 3).int)) then (L51v2 u x0 x1 x2 x3 x4 x5 x6 x7 m (w64 (x8 + 1)) (w64 (0 - xA)) x9 k0) else (k0 x9 xA))
theorem nl51v2 : ∀ (m : Nat) (x0 x1 x2 : Int) (k0 : Int → Int → Option ρ),ob (L51v2 u g0 n0 n1 f0 i0 i1 g1 f1 m x0 x1 x2 k0) ng = L51v2 u g0 n0 n1 f0 i0 i1 g1 f1 m x0 x1 x2 (fun x3 x4 => ob (k0 x3 x4) ng)
 | 0,_,_,_,_ => rfl
 | m + 1,x0,x1,x2,k0 => by
  simp only [L51v2,ob_bif,ob_ob,ob_none,nl51v2 m]
theorem r51v2 :
  loopH (eB A55v2 (C9 u) u) N51v2 (m + 1) (s51v0 n0 n1 f0 f1 i0 i1 i2 i3 i4 g0 g1) k =
  (bif (decide (i2 < (g1 3).int)) then (loopH (eB A55v2 (C9 u) u) N51v2 m (s51v0 n0 n1 f0 f1 i0 i1 (w64 (i2 + 1)) (w64 (0 - i4)) i3 g0 g1) k) else (k (.exit 2) (s51v1 n0 n1 f0 f1 i0 i1 i3 i4 g0))) := by kernel_rfl
theorem q51v2 : ∀ (m : Nat) (x0 x1 x2 : Int),
  loopH (eB A55v2 (C9 u) u) N51v2 m (s51v0 n0 n1 f0 f1 i0 i1 x0 x1 x2 g0 g1) k = L51v2 u g0 n0 n1 f0 i0 i1 g1 f1 m x0 x1 x2 (fun x3 x4 => k (.exit 2) (s51v1 n0 n1 f0 f1 i0 i1 x3 x4 g0))
 | 0,_,_,_ => rfl
 | m + 1,x0,x1,x2 => by
  rw [r51v2]
  simp only [L51v2,q51v2 m]
def N51v3 : St → Option St := nN 1 (0 :: 2 :: 3 :: 5 :: 6 :: (rl 10 42 []))
def s51v2 : St := ⟨(.u :: .x (.c (.rp kE g0)) :: .u :: .u :: .x (.own 0 0 n0) :: .u :: .u :: .x (.c (ro kP n1 f0)) :: vxi i0 :: vxi i1 :: (us 42 [])),[.arr kP n0 f1]⟩
def s51v3 : St := ⟨(.u :: .x (.c (.rp kE g0)) :: .u :: .u :: .x (.own 0 0 n0) :: (us 47 [])),[.arr kP n0 f0]⟩
def L51v3 {ρ : Type} (u : Nat) (x0 : Nat → CV) (x1 : Nat) (x2 : FF) (x3 : Int) : Nat → Nat → Int → FF → (Nat → FF → Option ρ) → Option ρ
 | 0,_,_,_,_ => none
 | m + 1,x4,x5,x6,k0 =>
  (bif (decide (x5 < x3)) then (bif (inb x5 x1) then (bif (x0 4).bool then (L51v2 u x0 x4 x1 x2 x3 x5 x0 x6 u 0 (w64 (0 - (x2 x5.toNat 0).int)) (x2 x5.toNat 1).int
  (fun x7 x8 => (bif (Nat.ble (x4 + 1) 1073741824) then (L51v3 u x0 x1 x2 x3 m (x4 + 1) (w64 (x5 + 1)) (joinF x4 x6 (rowsF 2 [(.i .i64 (w64 (x7 + (x0 1).int))),(.i .i64 (w64 (x8 + (x0 2).int)))])) k0) else none))) else (L51v2 u x0 x4 x1 x2 x3 x5 x0 x6 u 0 (x2 x5.toNat 0).int (x2 x5.toNat 1).int
  (fun x9 xA => (bif (Nat.ble (x4 + 1) 1073741824) then (L51v3 u x0 x1 x2 x3 m (x4 + 1) (w64 (x5 + 1)) (joinF x4 x6 (rowsF 2 [(.i .i64 (w64 (x9 + (x0 1).int))),(.i .i64 (w64 (xA + (x0 2).int)))])) k0) else none)))) else none) else (k0 x4 x6))
theorem nl51v3 : ∀ (m : Nat) (x0 : Nat) (x1 : Int) (x2 : FF) (k0 : Nat → FF → Option ρ),ob (L51v3 u g0 n0 f0 i0 m x0 x1 x2 k0) ng = L51v3 u g0 n0 f0 i0 m x0 x1 x2 (fun x3 x4 => ob (k0 x3 x4) ng)
 | 0,_,_,_,_ => rfl
 | m + 1,x0,x1,x2,k0 => by
  simp only [L51v3,ob_bif,ob_ob,ob_none,nl51v3 m,nl51v2]
def s51v4 : St := ⟨(.u :: .x (.c (.rp kE g0)) :: .u :: .u :: .x (.own 0 0 n0) :: .u :: .x (.ptr 1 0) :: .x (.c (ro kP n1 f0)) :: vxi i0 :: vxi i1 :: vxb true :: .x (.c (.rp kP (f0 i1.toNat))) :: .agg [(vci (f0 i1.toNat 0).int),(vci (f0 i1.toNat 1).int)] :: (us 6 (.x (.c (.rp (.pr (.int .i64) (.pr .bool .nil)) (fun j => g0 (3 + j)))) :: vxi (g0 3).int :: vxi 0 :: (us 30 [])))),[.arr kP n0 f1,.box [(vci (w64 (0 - (f0 i1.toNat 0).int))),(vci (f0 i1.toNat 1).int)]]⟩
def s51v5 : St := ⟨(.u :: .x (.c (.rp kE g0)) :: .u :: .u :: .x (.own 0 0 n0) :: .u :: .x (.ptr 1 0) :: .x (.c (ro kP n1 f0)) :: vxi i0 :: vxi i1 :: vxb true :: .x (.c (.rp kP (f0 i1.toNat))) :: .agg [(vci (f0 i1.toNat 0).int),(vci (f0 i1.toNat 1).int)] :: (us 6 (.x (.c (.rp (.pr (.int .i64) (.pr .bool .nil)) (fun j => g0 (3 + j)))) :: vxi (g0 3).int :: vxi 0 :: (us 30 [])))),[.arr kP n0 f1,.box [(vci (f0 i1.toNat 0).int),(vci (f0 i1.toNat 1).int)]]⟩
theorem r51v3 :
  loopH (eB A55v7 (C9 u) u) N51v3 (m + 1) (s51v2 n1 n0 f0 f1 i0 i1 g0) k =
  (bif (decide (i1 < i0)) then (bif (inb i1 n0) then (bif (g0 4).bool then (loopN (eB A55v2 (C9 u) u) N51v2 u (s51v4 n1 n0 f0 f1 i0 i1 g0) (kBlk 2 (kSeq (C9 u) u (rl 19 11 []) A55v3 (kBlk 1 (kSeq (C9 u) u (6 :: (rl 11 35 [])) A55v5 (kLoop (eB A55v7 (C9 u) u) N51v3 m k)))))) else (loopN (eB A55v2 (C9 u) u) N51v2 u (s51v5 n1 n0 f0 f1 i0 i1 g0) (kBlk 2 (kSeq (C9 u) u (rl 19 11 []) A55v3 (kBlk 1 (kSeq (C9 u) u (6 :: (rl 11 35 [])) A55v5 (kLoop (eB A55v7 (C9 u) u) N51v3 m k))))))) else none) else (k (.exit 0) (s51v3 n1 f1 g0))) := by kernel_rfl
theorem t51v1 :
  loopN (eB A55v2 (C9 u) u) N51v2 u (s51v4 n0 n1 f0 f1 i0 i1 g0) k =
  L51v2 u g0 n0 n1 f0 i0 i1 g0 f1 u 0 (w64 (0 - (f0 i1.toNat 0).int)) (f0 i1.toNat 1).int (fun x0 x1 => k (.exit 2) (s51v1 n0 n1 f0 f1 i0 i1 x0 x1 g0)) :=
 Eq.trans (loopN_at (by kernel_rfl)) (q51v2 ..)
theorem g51v2 :
  (kBlk 2 (kSeq (C9 u) u (rl 19 11 []) A55v3 (kBlk 1 (kSeq (C9 u) u (6 :: (rl 11 35 [])) A55v5 (kLoop (eB A55v7 (C9 u) u) N51v3 m k))))) (.exit 2) (s51v1 n0 n1 f0 f1 i0 i1 i2 i3 g0) =
  (bif (Nat.ble (n0 + 1) 1073741824) then (loopH (eB A55v7 (C9 u) u) N51v3 m (s51v2 (n0 + 1) n1 f0 (joinF n0 f1 (rowsF 2 [(vi (w64 (i2 + (g0 1).int))),(vi (w64 (i3 + (g0 2).int)))])) i0 (w64 (i1 + 1)) g0) k) else none) := by kernel_rfl
theorem t51v3 :
  loopN (eB A55v2 (C9 u) u) N51v2 u (s51v5 n0 n1 f0 f1 i0 i1 g0) k =
  L51v2 u g0 n0 n1 f0 i0 i1 g0 f1 u 0 (f0 i1.toNat 0).int (f0 i1.toNat 1).int (fun x0 x1 => k (.exit 2) (s51v1 n0 n1 f0 f1 i0 i1 x0 x1 g0)) :=
 Eq.trans (loopN_at (by kernel_rfl)) (q51v2 ..)
theorem g51v4 :
  (kBlk 2 (kSeq (C9 u) u (rl 19 11 []) A55v3 (kBlk 1 (kSeq (C9 u) u (6 :: (rl 11 35 [])) A55v5 (kLoop (eB A55v7 (C9 u) u) N51v3 m k))))) (.exit 2) (s51v1 n0 n1 f0 f1 i0 i1 i2 i3 g0) =
  (bif (Nat.ble (n0 + 1) 1073741824) then (loopH (eB A55v7 (C9 u) u) N51v3 m (s51v2 (n0 + 1) n1 f0 (joinF n0 f1 (rowsF 2 [(vi (w64 (i2 + (g0 1).int))),(vi (w64 (i3 + (g0 2).int)))])) i0 (w64 (i1 + 1)) g0) k) else none) := by kernel_rfl
theorem q51v3 : ∀ (m : Nat) (x0 : Nat) (x1 : Int) (x2 : FF),
  loopH (eB A55v7 (C9 u) u) N51v3 m (s51v2 x0 n0 f0 x2 i0 x1 g0) k = L51v3 u g0 n0 f0 i0 m x0 x1 x2 (fun x3 x4 => k (.exit 0) (s51v3 x3 x4 g0))
 | 0,_,_,_ => rfl
 | m + 1,x0,x1,x2 => by
  rw [r51v3]
  simp only [L51v3,q51v3 m,t51v1,g51v2,t51v3,g51v4]
def F51 (x0 : Nat) (x1 : FF) (x2 : Nat → CV) : Option (Nat × FF) :=
 (L51v3 u x2 x0 x1 (Int.ofNat x0) u 0 0 (fun _ _ => .any)
  (fun x3 x4 => (bif (x2 4).bool then (bif (Nat.beq x3 x3) then (bif (Nat.beq x3 0) then (some (x3,x4)) else (some (x3,(revF x3 x4)))) else none) else (some (x3,x4)))))
def s51v6 : St := ⟨[.x (.c (ro kP n0 f0)),.x (.c (.rp kE g0)),uu,.x (vcn),.x (.own 0 0 0),uu,uu,.x (.c (ro kP n0 f0)),vxi (Int.ofNat n0),vxi 0,uu,uu,uu,uu,uu,uu,uu,uu,uu,uu,uu,uu,uu,uu,uu,uu,uu,uu,uu,uu,uu,uu,uu,uu,uu,uu,uu,uu,uu,uu,uu,uu,uu,uu,uu,uu,uu,uu,uu,uu,uu,uu],[.arr kP 0 nilF]⟩
theorem t51v5 :
  loopN (eB A55v7 (C9 u) u) N51v3 u (s51v6 n0 f0 g0) k =
  L51v3 u g0 n0 f0 (Int.ofNat n0) u 0 0 nilF (fun x0 x1 => k (.exit 0) (s51v3 x0 x1 g0)) :=
 Eq.trans (loopN_at (by kernel_rfl)) (q51v3 ..)
theorem g51v6 :
  (kBlk 0 (kSeq (C9 u) u (rl 6 41 []) A55v9 (finish A55))) (.exit 0) (s51v3 n0 f0 g0) =
  (bif (g0 4).bool then (bif (Nat.beq n0 n0) then (bif (Nat.beq n0 0) then (some [.v (ro kP n0 f0)]) else (some [.v (ro kP n0 (revF n0 f0))])) else none) else (some [.v (ro kP n0 f0)])) := by kernel_rfl
theorem e51 : evalF (C9 u) u A55 [.v (ro kP n0 f0),.v (.rp kE g0)] = ob (F51 u n0 f0 g0) fun t => some [.v (ro kP t.1 t.2)] := Eq.trans (b := (loopN (eB A55v7 (C9 u) u) N51v3 u (s51v6 n0 f0 g0) (kBlk 0 (kSeq (C9 u) u (rl 6 41 []) A55v9 (finish A55))))) (by kernel_rfl) (by
 simp only [F51,ob_bif,ob_ob,ob_none,ob_some,nl51v3,t51v5,g51v6])
def O51 : Ora := mkO (qc (av (cL kP)) (q1 (av (cP kE)))) (fun x => F51 u x.1.1 x.1.2 x.2) fun t => [.v (ro kP t.1 t.2)]
theorem d51 : DO (O51 u) (C9 u) 55 A55 := dO u (fun x => by exact e51 u x.1.1 x.1.2 x.2)
def C10 : Oracle := (C9 u).add 55 (fun _ => true) (O51 u)
def A31v1 : AC := (.region 8 [o1 35 (bk .add 3 28 1),mv 28 35] 0 none)
def A31v2 : AC := (.seq (.block 1
 (.seq (.region 5 [o1 30 (.indexAddr 48 47 1 (tm 26) (tm 28)),o1 31 (lo 47 30),o1 6 (sg 31)] 0 none) []
  (.seq (.region 6 [mv 32 6,o1 33 (.call 54 [(tm 32),(.func 53)] [47,86] .snap)] 0 none) []
  (.cond (tm 33)
  (.seq (.region 7 [o1 34 (.build 50 [vcn,vcn] [(0,1),(1,1)] 0 []),o0 (.store 50 2 (tm 4) (tm 34))] 0 none) []
   (.ret (rl 0 4 (rl 5 54 []))))
  .skip)))) (6 :: (rl 30 5 []))
 A31v1)
def A31v3 : AC := (.seq (.region 4 [o1 29 (bt .lss 3 28 27)] 0 none) []
 (.seq (.cond (tm 29)
 .skip
 (.exit 0 (0 :: 1 :: (rl 5 54 [])))) []
 A31v2))
def A31v4 : AC := (.seq (.block 3
 (.seq (.region 13 [o1 47 (.indexAddr 48 47 1 (tm 43) (tm 45)),o1 48 (lo 47 47),o1 10 (sg 48)] 0 none) []
  (.region 14 [o1 49 (fa 50 8 1 1),o1 50 (lo 48 49),mv 51 7,mv 52 10,o1 53 (.callv (tm 51) [(tm 52)] [47] .freeze),o1 54 (.buildSlice 0 48 47 (.pr (.sl kP) .nil) 1 [vcn] [(0,(tm 53))]),o1 55 (.append 1 48 47 (.pr (.sl kP) .nil) 24 (tm 50) (tm 54)),o1 56 (fa 50 8 1 1),o0 (.store 48 1 (tm 56) (tm 55))] 2 (some [[],[0],[],[],[2,3],[2,3,4],(rl 0 6 []),(rl 0 7 []),(rl 0 8 [])])))) []
 (.region 15 [o1 57 (bk .add 3 45 1),mv 45 57] 0 none))
def A31v5 : AC := (.seq (.region 12 [o1 46 (bt .lss 3 45 44)] 0 none) []
 (.seq (.cond (tm 46)
 .skip
 (.exit 2 (rl 0 4 (5 :: 6 :: 7 :: (rl 9 50 []))))) []
 A31v4))
def A31v6 : AC := (.seq (.region 16 [o1 58 (ln 50 2 8),o0 (.store 50 2 (tm 4) (tm 58))] 0 none) []
 (.ret (rl 0 4 (rl 5 54 []))))
def A31v7 : AC := (.seq (.region 9 [o1 36 (.mkfn 55 [(tm 3)]),o1 7 (sg 36)] 0 none) []
 (.seq (.region 10 [mv 37 7,o1 38 (fa 50 2 0 0),o1 39 (lo 47 38),o1 40 (.callv (tm 37) [(tm 39)] [47] .freeze),o1 41 (.build 50 [vcn,vcn] [(0,1),(1,1)] 0 [(0,(tm 40))]),o1 8 (.alloc 0 50 [vcn,vcn]),o0 (.store 50 2 (tm 8) (tm 41))] 1 none) []
 (.seq (.seq (.region 11 [o1 42 (fa 50 2 1 1),o1 43 (lo 48 42),o1 44 (.len 48 false (tm 43)),o1 45 (.move (ic 0))] 0 none) []
 (.block 2
 (.loop [.cell 8 1 (.pr (.sl kP) .nil)] (rl 0 4 (5 :: 6 :: (rl 9 34 (rl 46 13 []))))
  A31v5))) (10 :: (rl 42 16 []))
 A31v6)))
def A31v8 : AC := (.seq (.seq (.region 3 [o1 25 (ln 50 2 2),o1 26 (cf 44 [25] [50]),o1 27 (.len 48 false (tm 26)),o1 28 (.move (ic 0))] 0 none) []
 (.block 0
 (.loop [] (0 :: 1 :: (rl 5 21 (rl 29 30 [])))
  A31v3))) (6 :: (rl 25 11 []))
 A31v7)
def A31 : AF := ⟨59,[.cell 4 50 (some 2)],
 (.seq (.region 0 [o1 2 (bx 0 50 0),o1 3 (bx 1 43 1),o1 4 (.alloc 2 50 [vcn,vcn])] 3 none) []
 (.seq (.seq (.region 1 [o1 11 (fa 43 3 2 3),o1 12 (lo 3 11),o1 13 (bk .lss 3 12 0),mv 14 13,og 15 (fa 43 3 2 3) 14 false,og 16 (lo 3 15) 14 false,og 17 (bk .gtr 3 16 3) 14 false,o1 18 (pa 14 17),mv 19 18,og 20 (fa 43 3 1 1) 19 false,og 21 (ln 41 2 20) 19 false,og 22 (cs 53 [21] [41]) 19 false,o1 23 (pa 19 22)] 0 none) []
 (.cond (tm 23)
 (.seq (.region 2 [o1 24 (.build 50 [vcn,vcn] [(0,1),(1,1)] 0 []),o0 (.store 50 2 (tm 4) (tm 24))] 0 none) []
  (.ret (rl 0 4 (rl 5 54 []))))
 .skip)) (rl 11 14 [])
 A31v8))⟩
def N25v1 : St → Option St := nN 3 (0 :: 1 :: (rl 5 21 (rl 29 30 [])))
def s25v0 : St := ⟨(.u :: .u :: .x (.ptr 0 0) :: .x (.ptr 1 0) :: .x (.ptr 2 0) :: (us 21 (.x (.c (ro (.pr (.sl kP) .nil) n0 f0)) :: vxi i0 :: vxi i1 :: (us 30 [])))),[.box [(.c (ro kP n1 f1)),(.c (ro (.pr (.sl kP) .nil) n2 f2))],.box [(vcs w0),(vci i2),(vci i3),(vci i4),(vcb b0)],.box [(vcn),(vcn)]]⟩
def s25v1 : St := ⟨(us 4 (.x (.ptr 2 0) :: (us 54 []))),[.box [(.c (ro kP n0 f0)),(.c (ro (.pr (.sl kP) .nil) n1 f1))],.box [(vcs w0),(vci i0),(vci i1),(vci i2),(vcb b0)],.box [(vcn),(vcn)]]⟩
def s25v2 : St := ⟨(.u :: .u :: .x (.ptr 0 0) :: .x (.ptr 1 0) :: .x (.ptr 2 0) :: (us 54 [])),[.box [(.c (ro kP n0 f0)),(.c (ro (.pr (.sl kP) .nil) n1 f1))],.box [(vcs w0),(vci i0),(vci i1),(vci i2),(vcb b0)],.box [(vcn),(vcn)]]⟩
def L25v1 {ρ : Type} (u : Nat) (x0 : Nat) (x1 : FF) (x2 : Int) (x3 : Nat) (x4 : FF) (x5 : Nat) (x6 : FF) (x7 : ByteArray) (x8 x9 xA : Int) (xB : Bool) : Nat → Int → (Option ρ) → (Option ρ) → Option ρ
 | 0,_,_,_ => none
 | m + 1,xC,k0,k1 =>
  (bif (decide (xC < x2)) then (bif (inb xC x0) then (ob (F50c u (x1 xC.toNat 0).len (x1 xC.toNat 0).el) fun xD => (bif xD then k0 else (L25v1 u x0 x1 x2 x3 x4 x5 x6 x7 x8 x9 xA xB m (w64 (xC + 1)) k0 k1))) else none) else k1)
theorem nl25v1 : ∀ (m : Nat) (x0 : Int) (k0 : Option ρ) (k1 : Option ρ),ob (L25v1 u n0 f0 i0 n1 f1 n2 f2 w0 i1 i2 i3 b0 m x0 k0 k1) ng = L25v1 u n0 f0 i0 n1 f1 n2 f2 w0 i1 i2 i3 b0 m x0 (ob k0 ng) (ob k1 ng)
 | 0,_,_,_ => rfl
 | m + 1,x0,k0,k1 => by
  simp only [L25v1,ob_bif,ob_ob,ob_none,nl25v1 m]
theorem r25v1 :
  loopH (eB A31v3 (C10 u) u) N25v1 (m + 1) (s25v0 n0 n1 n2 f0 f1 f2 i0 i4 i1 i2 i3 b0 w0) k =
  (bif (decide (i4 < i0)) then (bif (inb i4 n0) then (ob (F50c u (f0 i4.toNat 0).len (f0 i4.toNat 0).el) fun x0 => (bif x0 then (k .ret (s25v1 n1 n2 f1 f2 i1 i2 i3 b0 w0)) else (loopH (eB A31v3 (C10 u) u) N25v1 m (s25v0 n0 n1 n2 f0 f1 f2 i0 (w64 (i4 + 1)) i1 i2 i3 b0 w0) k))) else none) else (k (.exit 0) (s25v2 n1 n2 f1 f2 i1 i2 i3 b0 w0))) := by kernel_rfl
theorem q25v1 : ∀ (m : Nat) (x0 : Int),
  loopH (eB A31v3 (C10 u) u) N25v1 m (s25v0 n0 n1 n2 f0 f1 f2 i0 x0 i1 i2 i3 b0 w0) k = L25v1 u n0 f0 i0 n1 f1 n2 f2 w0 i1 i2 i3 b0 m x0 (k .ret (s25v1 n1 n2 f1 f2 i1 i2 i3 b0 w0)) (k (.exit 0) (s25v2 n1 n2 f1 f2 i1 i2 i3 b0 w0))
 | 0,_ => rfl
 | m + 1,x0 => by
  rw [r25v1]
  simp only [L25v1,q25v1 m]
def N25v2 : St → Option St := nN 5 (rl 0 4 (5 :: 6 :: (rl 9 34 (rl 46 13 []))))
def s25v3 : St := ⟨(us 4 (.x (.ptr 2 0) :: .u :: .u :: .x (.c (.fn 55 1 (listF [(.rp kE (listF [(.s w0),(vi i0),(vi i1),(vi i2),(.b b0)]))]))) :: .x (.ptr 3 0) :: (us 34 (.x (.c (ro (.pr (.sl kP) .nil) n0 f0)) :: vxi i3 :: vxi i4 :: (us 13 []))))),[.box [(.c (ro kP n1 f1)),(.c (ro (.pr (.sl kP) .nil) n0 f0))],.dead,.box [(vcn),(vcn)],.box [(.c (ro kP n2 f2)),(.own 4 0 n3)],.arr (.pr (.sl kP) .nil) n3 f3]⟩
def s25v4 : St := ⟨(us 4 (.x (.ptr 2 0) :: (us 3 (.x (.ptr 3 0) :: (us 50 []))))),[.box [(.c (ro kP n0 f0)),(.c (ro (.pr (.sl kP) .nil) n1 f1))],.dead,.box [(vcn),(vcn)],.box [(.c (ro kP n2 f2)),(.own 4 0 n3)],.arr (.pr (.sl kP) .nil) n3 f3]⟩
def L25v2 {ρ : Type} (u : Nat) (x0 : ByteArray) (x1 x2 x3 : Int) (x4 : Bool) (x5 : Nat) (x6 : FF) (x7 : Int) (x8 : Nat) (x9 : FF) (xA : Nat) (xB : FF) : Nat → Int → Nat → FF → (Nat → FF → Option ρ) → Option ρ
 | 0,_,_,_,_ => none
 | m + 1,xC,xD,xE,k0 =>
  (bif (decide (xC < x7)) then (bif (inb xC x5) then (ob (F51 u (x6 xC.toNat 0).len (x6 xC.toNat 0).el (listF [(.s x0),(.i .i64 x1),(.i .i64 x2),(.i .i64 x3),(.b x4)])) fun xF => (bif (Nat.ble (xD + 1) 1073741824) then (L25v2 u x0 x1 x2 x3 x4 x5 x6 x7 x8 x9 xA xB m (w64 (xC + 1)) (xD + 1) (joinF xD xE (rowsF 1 [(.ro false (.pr (.int .i64) (.pr (.int .i64) .nil)) xF.1 xF.2)])) k0) else none)) else none) else (k0 xD xE))
theorem nl25v2 : ∀ (m : Nat) (x0 : Int) (x1 : Nat) (x2 : FF) (k0 : Nat → FF → Option ρ),ob (L25v2 u w0 i0 i1 i2 b0 n0 f0 i3 n1 f1 n2 f2 m x0 x1 x2 k0) ng = L25v2 u w0 i0 i1 i2 b0 n0 f0 i3 n1 f1 n2 f2 m x0 x1 x2 (fun x3 x4 => ob (k0 x3 x4) ng)
 | 0,_,_,_,_ => rfl
 | m + 1,x0,x1,x2,k0 => by
  simp only [L25v2,ob_bif,ob_ob,ob_none,nl25v2 m]
theorem r25v2 :
  loopH (eB A31v5 (C10 u) u) N25v2 (m + 1) (s25v3 n0 n1 n2 n3 f0 f1 f2 f3 i0 i1 i2 i3 i4 b0 w0) k =
  (bif (decide (i4 < i3)) then (bif (inb i4 n0) then (ob (F51 u (f0 i4.toNat 0).len (f0 i4.toNat 0).el (listF [(.s w0),(vi i0),(vi i1),(vi i2),(.b b0)])) fun x0 => (bif (Nat.ble (n3 + 1) 1073741824) then (loopH (eB A31v5 (C10 u) u) N25v2 m (s25v3 n0 n1 n2 (n3 + 1) f0 f1 f2 (joinF n3 f3 (rowsF 1 [(ro kP x0.1 x0.2)])) i0 i1 i2 i3 (w64 (i4 + 1)) b0 w0) k) else none)) else none) else (k (.exit 2) (s25v4 n1 n0 n2 n3 f1 f0 f2 f3))) := by kernel_rfl
theorem q25v2 : ∀ (m : Nat) (x0 : Int) (x1 : Nat) (x2 : FF),
  loopH (eB A31v5 (C10 u) u) N25v2 m (s25v3 n0 n1 n2 x1 f0 f1 f2 x2 i0 i1 i2 i3 x0 b0 w0) k = L25v2 u w0 i0 i1 i2 b0 n0 f0 i3 n1 f1 n2 f2 m x0 x1 x2 (fun x3 x4 => k (.exit 2) (s25v4 n1 n0 n2 x3 f1 f0 f2 x4))
 | 0,_,_,_ => rfl
 | m + 1,x0,x1,x2 => by
  rw [r25v2]
  simp only [L25v2,q25v2 m]
def FT25 (x0 : Nat) (x1 : FF) (x2 : Nat) (x3 : FF) (x4 : ByteArray) (x5 x6 x7 : Int) (x8 : Bool) : Option (Bool × Nat × FF × Nat × FF) :=
 (bif ((decide (x7 < 0)) == false) then (bif ((decide (x7 > 3)) == false) then (ob (F49 u x5 x6) fun x9 => (bif x9 then (some (true,0,(fun _ _ => .any),0,(fun _ _ => .any))) else (ob (F42 u x0 x1 x2 x3) fun xA => (L25v1 u xA.1 xA.2 (Int.ofNat xA.1) x0 x1 x2 x3 x4 x5 x6 x7 x8 u 0
  (some (true,0,(fun _ _ => .any),0,(fun _ _ => .any)))
  (ob (F51 u x0 x1 (listF [(.s x4),(.i .i64 x5),(.i .i64 x6),(.i .i64 x7),(.b x8)])) fun xB => (L25v2 u x4 x5 x6 x7 x8 x2 x3 (Int.ofNat x2) x0 x1 xB.1 xB.2 u 0 0 (fun _ _ => .any)
  (fun xC xD => (some (false,xB.1,xB.2,xC,xD))))))))) else (some (true,0,(fun _ _ => .any),0,(fun _ _ => .any)))) else (some (true,0,(fun _ _ => .any),0,(fun _ _ => .any))))
def s25v5 (x0 : Nat × FF) : St := ⟨(.agg [(.c (ro kP n0 f0)),(.c (ro (.pr (.sl kP) .nil) n1 f1))] :: .agg [(vcs w0),(vci i0),(vci i1),(vci i2),(vcb b0)] :: .x (.ptr 0 0) :: .x (.ptr 1 0) :: .x (.ptr 2 0) :: uu :: uu :: uu :: uu :: uu :: uu :: (us 14 [.agg [(.c (ro kP n0 f0)),(.c (ro (.pr (.sl kP) .nil) n1 f1))],.x (.c (ro (.pr (.sl kP) .nil) x0.1 x0.2)),vxi (Int.ofNat x0.1),vxi 0,uu,uu,uu,uu,uu,uu,uu,uu,uu,uu,uu,uu,uu,uu,uu,uu,uu,uu,uu,uu,uu,uu,uu,uu,uu,uu,uu,uu,uu,uu])),[.box [(.c (ro kP n0 f0)),(.c (ro (.pr (.sl kP) .nil) n1 f1))],.box [(vcs w0),(vci i0),(vci i1),(vci i2),(vcb b0)],.box [(vcn),(vcn)]]⟩
theorem t25v1 (x0 : Nat × FF) :
  loopN (eB A31v3 (C10 u) u) N25v1 u (s25v5 n0 n1 f0 f1 i0 i1 i2 b0 w0 x0) k =
  L25v1 u x0.1 x0.2 (Int.ofNat x0.1) n0 f0 n1 f1 w0 i0 i1 i2 b0 u 0 (k .ret (s25v1 n0 n1 f0 f1 i0 i1 i2 b0 w0)) (k (.exit 0) (s25v2 n0 n1 f0 f1 i0 i1 i2 b0 w0)) :=
 Eq.trans (loopN_at (by kernel_rfl)) (q25v1 ..)
theorem g25v2 :
  (kBlk 0 (kSeq (C10 u) u (6 :: (rl 25 11 [])) A31v7 (finish A31))) .ret (s25v1 n0 n1 f0 f1 i0 i1 i2 b0 w0) =
  (some [.agg [(.ro true .nil 0 nilF),(.ro true .nil 0 nilF)]]) := by kernel_rfl
def s25v6 (x0 : Nat × FF) : St := ⟨(.u :: .u :: .x (.ptr 0 0) :: .x (.c (.rp kE (listF [(.s w0),(vi i0),(vi i1),(vi i2),(.b b0)]))) :: .x (.ptr 2 0) :: .u :: .u :: .x (.c (.fn 55 1 (listF [(.rp kE (listF [(.s w0),(vi i0),(vi i1),(vi i2),(.b b0)]))]))) :: .x (.ptr 3 0) :: (us 27 (.x (.c (.fn 55 1 (listF [(.rp kE (listF [(.s w0),(vi i0),(vi i1),(vi i2),(.b b0)]))]))) :: .x (.c (.fn 55 1 (listF [(.rp kE (listF [(.s w0),(vi i0),(vi i1),(vi i2),(.b b0)]))]))) :: .x (.ptr 0 0) :: .x (.c (ro kP n0 f0)) :: .x (.c (ro kP x0.1 x0.2)) :: .agg [(.c (ro kP x0.1 x0.2)),(vcn)] :: .x (.ptr 0 1) :: .x (.c (ro (.pr (.sl kP) .nil) n1 f1)) :: vxi (Int.ofNat n1) :: vxi 0 :: (us 13 [])))),[.box [(.c (ro kP n0 f0)),(.c (ro (.pr (.sl kP) .nil) n1 f1))],.dead,.box [(vcn),(vcn)],.box [(.c (ro kP x0.1 x0.2)),(.own 4 0 0)],.arr (.pr (.sl kP) .nil) 0 nilF]⟩
theorem g25v3 :
  (kBlk 0 (kSeq (C10 u) u (6 :: (rl 25 11 [])) A31v7 (finish A31))) (.exit 0) (s25v2 n0 n1 f0 f1 i0 i1 i2 b0 w0) =
  (ob (F51 u n0 f0 (listF [(.s w0),(vi i0),(vi i1),(vi i2),(.b b0)])) fun x0 => (loopN (eB A31v5 (C10 u) u) N25v2 u (s25v6 n0 n1 f0 f1 i0 i1 i2 b0 w0 x0) (kBlk 2 (kSeq (C10 u) u (10 :: (rl 42 16 [])) A31v6 (finish A31))))) := by kernel_rfl
theorem t25v4 (x0 : Nat × FF) :
  loopN (eB A31v5 (C10 u) u) N25v2 u (s25v6 n0 n1 f0 f1 i0 i1 i2 b0 w0 x0) k =
  L25v2 u w0 i0 i1 i2 b0 n1 f1 (Int.ofNat n1) n0 f0 x0.1 x0.2 u 0 0 nilF (fun x1 x2 => k (.exit 2) (s25v4 n0 n1 x0.1 x1 f0 f1 x0.2 x2)) :=
 Eq.trans (loopN_at (by kernel_rfl)) (q25v2 ..)
theorem g25v5 (x0 : Nat × FF) :
  (kBlk 2 (kSeq (C10 u) u (10 :: (rl 42 16 [])) A31v6 (finish A31))) (.exit 2) (s25v4 n0 n1 x0.1 n2 f0 f1 x0.2 f2) =
  (some [.agg [(ro kP x0.1 x0.2),(ro (.pr (.sl kP) .nil) n2 f2)]]) := by kernel_rfl
theorem e25 : evalF (C10 u) u A31 [.agg [(ro kP n0 f0),(ro (.pr (.sl kP) .nil) n1 f1)],.agg [(.s w0),(vi i0),(vi i1),(vi i2),(.b b0)]] = ob (FT25 u n0 f0 n1 f1 w0 i0 i1 i2 b0) fun t => some (bif t.1 then [.agg [(.ro true .nil 0 nilF),(.ro true .nil 0 nilF)]] else [.agg [(ro kP t.2.1 t.2.2.1),(ro (.pr (.sl kP) .nil) t.2.2.2.1 t.2.2.2.2)]]) := Eq.trans (b := (bif ((decide (i2 < 0)) == false) then (bif ((decide (i2 > 3)) == false) then (ob (F49 u i0 i1) fun x0 => (bif x0 then (some [.agg [(.ro true .nil 0 nilF),(.ro true .nil 0 nilF)]]) else (ob (F42 u n0 f0 n1 f1) fun x1 => (loopN (eB A31v3 (C10 u) u) N25v1 u (s25v5 n0 n1 f0 f1 i0 i1 i2 b0 w0 x1) (kBlk 0 (kSeq (C10 u) u (6 :: (rl 25 11 [])) A31v7 (finish A31))))))) else (some [.agg [(.ro true .nil 0 nilF),(.ro true .nil 0 nilF)]])) else (some [.agg [(.ro true .nil 0 nilF),(.ro true .nil 0 nilF)]]))) (by kernel_rfl) (by
 simp only [FT25,ob_bif,ob_ob,ob_none,ob_some,nl25v1,nl25v2,t25v1,g25v2,g25v3,t25v4,g25v5,cond_true,cond_false])
def F25 (x0 : Nat) (x1 : FF) (x2 : Nat) (x3 : FF) (x4 : ByteArray) (x5 x6 x7 : Int) (x8 : Bool) : Option (Nat × FF × Nat × FF) := ob (FT25 u x0 x1 x2 x3 x4 x5 x6 x7 x8) fun t => some (bif t.1 then (0,(fun _ _ => .any),0,(fun _ _ => .any)) else (t.2.1,t.2.2.1,t.2.2.2.1,t.2.2.2.2))
def O25 : Ora := mkO (qc (ag (tc (cL kP) (t1 (cL (.pr (.sl kP) .nil))))) (q1 (ag (tc cS (tc ci (tc ci (tc ci (t1 cB)))))))) (fun x => F25 u x.1.1.1 x.1.1.2 x.1.2.1 x.1.2.2 x.2.1 x.2.2.1 x.2.2.2.1 x.2.2.2.2.1 x.2.2.2.2.2) fun t => [.agg [(ro kP t.1 t.2.1),(ro (.pr (.sl kP) .nil) t.2.2.1 t.2.2.2)]]
theorem d25 : DO (O25 u) (C10 u) 31 A31 := dW u (fun x => by exact e25 u x.1.1.1 x.1.2.1 x.1.1.2 x.1.2.2 x.2.2.1 x.2.2.2.1 x.2.2.2.2.1 x.2.2.2.2.2 x.2.1) (fun _ => rfl) fun t => by
 obtain ⟨b,t⟩ := t
 cases b with
 | true => exact (.cons (WkA.agg (.cons (Wk.ro (by rfl)) (.cons (Wk.ro (by rfl)) .nil))) .nil)
 | false =>
  exact (.cons (WkA.agg (.cons (Wk.refl _) (.cons (Wk.refl _) .nil))) .nil)
def C11 : Oracle := (C10 u).add 31 (fun _ => true) (O25 u)
def A72 : AF := ⟨21,[.tmp 2],
 (.seq (.region 0 [o1 1 (bx 0 41 0),o1 2 (sb false)] 1 none) []
 (.seq (.region 1 [o1 3 (fa 41 1 0 0),o1 4 (lo 3 3),o1 5 (bk .lss 3 4 (-32768)),mv 6 5,og 7 (fa 41 1 0 0) 6 false,og 8 (lo 3 7) 6 false,og 9 (bk .gtr 3 8 32768) 6 false,o1 10 (pa 6 9),mv 11 10,og 12 (fa 41 1 1 1) 11 false,og 13 (lo 3 12) 11 false,og 14 (bk .lss 3 13 (-32768)) 11 false,o1 15 (pa 11 14),mv 16 15,og 17 (fa 41 1 1 1) 16 false,og 18 (lo 3 17) 16 false,og 19 (bk .gtr 3 18 32768) 16 false,o1 20 (pa 16 19),o1 2 (sg 20)] 0 none) []
 (.ret (0 :: 1 :: (rl 3 18 [])))))⟩
def F61 (u : Nat) (x0 x1 : Int) : Option (Bool) :=
 (bif ((decide (x0 < (-32768))) == false) then (bif ((decide (x0 > 32768)) == false) then (bif ((decide (x1 < (-32768))) == false) then (some (decide (x1 > 32768))) else (some true)) else (some true)) else (some true))
theorem e61 : evalF (C11 u) u A72 [.agg [(vi i0),(vi i1)]] = ob (F61 u i0 i1) fun t => some [.v (.b t)] := Eq.trans (b := (bif ((decide (i0 < (-32768))) == false) then (bif ((decide (i0 > 32768)) == false) then (bif ((decide (i1 < (-32768))) == false) then (some [.v (.b (decide (i1 > 32768)))]) else (some [.v (.b true)])) else (some [.v (.b true)])) else (some [.v (.b true)]))) (by kernel_rfl) (by
 simp only [F61,ob_bif,ob_ob,ob_none,ob_some])
def O61 : Ora := mkO (q1 (ag (tc ci (t1 ci)))) (fun x => F61 u x.1 x.2) fun t => [.v (.b t)]
theorem d61 : DO (O61 u) (C11 u) 72 A72 := dO u (fun x => by exact e61 u x.1 x.2)
def C12 : Oracle := (C11 u).add 72 (fun _ => true) (O61 u)
def N73v1 : St → Option St := nN 0 (rl 2 5 (rl 9 10 []))
def s73v0 : St := ⟨(.x (.c (ro kP n0 f0)) :: .x (.c (.fn 72 0 (listF []))) :: (us 5 (vxi i0 :: vxi i1 :: (us 10 [])))),[]⟩
def s73v1 : St := ⟨(us 4 (vxi i0 :: (us 14 []))),[]⟩
def s73v2 : St := ⟨(us 19 []),[]⟩
def L73v1 {ρ : Type} (u : Nat) (x0 : Nat) (x1 : FF) (x2 : Int) : Nat → Int → (Int → Option ρ) → (Option ρ) → Option ρ
 | 0,_,_,_ => none
 | m + 1,x3,k0,k1 =>
  (bif (decide (x3 < x2)) then (bif (inb x3 x0) then (ob (F61 u (x1 x3.toNat 0).int (x1 x3.toNat 1).int) fun x4 => (bif x4 then (k0 x3) else (L73v1 u x0 x1 x2 m (w64 (x3 + 1)) k0 k1))) else none) else k1)
theorem nl73v1 : ∀ (m : Nat) (x0 : Int) (k0 : Int → Option ρ) (k1 : Option ρ),ob (L73v1 u n0 f0 i0 m x0 k0 k1) ng = L73v1 u n0 f0 i0 m x0 (fun x1 => ob (k0 x1) ng) (ob k1 ng)
 | 0,_,_,_ => rfl
 | m + 1,x0,k0,k1 => by
  simp only [L73v1,ob_bif,ob_ob,ob_none,nl73v1 m]
theorem r73v1 :
  loopH (eB A76v3 (C12 u) u) N73v1 (m + 1) (s73v0 n0 f0 i0 i1) k =
  (bif (decide (i1 < i0)) then (bif (inb i1 n0) then (ob (F61 u (f0 i1.toNat 0).int (f0 i1.toNat 1).int) fun x0 => (bif x0 then (k .ret (s73v1 i1)) else (loopH (eB A76v3 (C12 u) u) N73v1 m (s73v0 n0 f0 i0 (w64 (i1 + 1))) k))) else none) else (k (.exit 0) s73v2)) := by kernel_rfl
theorem q73v1 : ∀ (m : Nat) (x0 : Int),
  loopH (eB A76v3 (C12 u) u) N73v1 m (s73v0 n0 f0 i0 x0) k = L73v1 u n0 f0 i0 m x0 (fun x1 => k .ret (s73v1 x1)) (k (.exit 0) s73v2)
 | 0,_ => rfl
 | m + 1,x0 => by
  rw [r73v1]
  simp only [L73v1,q73v1 m]
def F73 (x0 : Nat) (x1 : FF) : Option (Int) :=
 (L73v1 u x0 x1 (Int.ofNat x0) u 0
  (fun x2 => (some x2))
  (some (-1)))
def s73v3 : St := ⟨[.x (.c (ro kP n0 f0)),.x (.c (.fn 72 0 (listF []))),uu,uu,vxi 0,uu,.x (.c (ro kP n0 f0)),vxi (Int.ofNat n0),vxi 0,uu,uu,uu,uu,uu,uu,uu,uu,uu,uu],[]⟩
theorem t73v1 :
  loopN (eB A76v3 (C12 u) u) N73v1 u (s73v3 n0 f0) k =
  L73v1 u n0 f0 (Int.ofNat n0) u 0 (fun x0 => k .ret (s73v1 x0)) (k (.exit 0) s73v2) :=
 Eq.trans (loopN_at (by kernel_rfl)) (q73v1 ..)
theorem g73v2 :
  (kBlk 0 (kSeq (C12 u) u (rl 4 15 []) A76v4 (finish A76))) .ret (s73v1 i0) =
  (some [.v (vi i0)]) := by kernel_rfl
theorem g73v3 :
  (kBlk 0 (kSeq (C12 u) u (rl 4 15 []) A76v4 (finish A76))) (.exit 0) s73v2 =
  (some [.v (vi (-1))]) := by kernel_rfl
theorem e73 : evalF (C12 u) u A76 [.v (ro kP n0 f0),.v (.fn 72 0 (listF []))] = ob (F73 u n0 f0) fun t => some [.v (vi t)] := Eq.trans (b := (loopN (eB A76v3 (C12 u) u) N73v1 u (s73v3 n0 f0) (kBlk 0 (kSeq (C12 u) u (rl 4 15 []) A76v4 (finish A76))))) (by kernel_rfl) (by
 simp only [F73,ob_bif,ob_ob,ob_none,ob_some,nl73v1,t73v1,g73v2,g73v3])
def O73 : Ora := mkO (qc (av (cL kP)) (q1 (av (cF 72 0 t0)))) (fun x => F73 u x.1.1 x.1.2) fun t => [.v (vi t)]
theorem d73 : DO (O73 u) (C12 u) 76 A76 := dO u (fun x => by exact e73 u x.1.1 x.1.2)
def C13 : Oracle := (C12 u).add 76 (fun l => isFn 72 l 1) (O73 u)
def F50 (x0 : Nat) (x1 : FF) : Option (Bool) :=
 (ob (F73 u x0 x1) fun x2 => (some (decide (x2 ≥ 0))))
theorem e50 : evalF (C13 u) u A54 [.v (ro kP n0 f0),.v (.fn 72 0 (listF []))] = ob (F50 u n0 f0) fun t => some [.v (.b t)] := Eq.trans (b := (ob (F73 u n0 f0) fun x0 => (some [.v (.b (decide (x0 ≥ 0)))]))) (by kernel_rfl) (by
 simp only [F50,ob_bif,ob_ob,ob_none,ob_some])
def O50 : Ora := mkO (qc (av (cL kP)) (q1 (av (cF 72 0 t0)))) (fun x => F50 u x.1.1 x.1.2) fun t => [.v (.b t)]
theorem d50 : DO (O50 u) (C13 u) 54 A54 := dO u (fun x => by exact e50 u x.1.1 x.1.2)
def C14 : Oracle := (C13 u).add 54 (fun l => isFn 72 l 1) (O50 u)
def A84 : AF := ⟨30,[.tmp 6],
 (.seq (.region 0 [o1 3 (bx 0 41 0),o1 4 (bx 1 41 1),o1 5 (bx 2 41 2),o1 6 (sk 0)] 3 none) []
 (.seq (.region 1 [o1 7 (fa 41 4 0 0),o1 8 (lo 3 7),o1 9 (fa 41 3 0 0),o1 10 (lo 3 9),o1 11 (bt .sub 3 8 10),o1 12 (fa 41 5 1 1),o1 13 (lo 3 12),o1 14 (fa 41 3 1 1),o1 15 (lo 3 14),o1 16 (bt .sub 3 13 15),o1 17 (bt .mul 3 11 16),o1 18 (fa 41 4 1 1),o1 19 (lo 3 18),o1 20 (fa 41 3 1 1),o1 21 (lo 3 20),o1 22 (bt .sub 3 19 21),o1 23 (fa 41 5 0 0),o1 24 (lo 3 23),o1 25 (fa 41 3 0 0),o1 26 (lo 3 25),o1 27 (bt .sub 3 24 26),o1 28 (bt .mul 3 22 27),o1 29 (bt .sub 3 17 28),o1 6 (sg 29)] 0 none) []
 (.ret (rl 0 6 (rl 7 23 [])))))⟩
def F79 (u : Nat) (x0 x1 x2 x3 x4 x5 : Int) : Option (Int) :=
 (some (w64 ((w64 ((w64 (x2 - x0)) * (w64 (x5 - x1)))) - (w64 ((w64 (x3 - x1)) * (w64 (x4 - x0)))))))
theorem e79 : evalF (C14 u) u A84 [.agg [(vi i0),(vi i1)],.agg [(vi i2),(vi i3)],.agg [(vi i4),(vi i5)]] = ob (F79 u i0 i1 i2 i3 i4 i5) fun t => some [.v (vi t)] := Eq.trans (b := (some [.v (vi (w64 ((w64 ((w64 (i2 - i0)) * (w64 (i5 - i1)))) - (w64 ((w64 (i3 - i1)) * (w64 (i4 - i0)))))))])) (by kernel_rfl) (by
 simp only [F79,ob_bif,ob_ob,ob_none,ob_some])
def O79 : Ora := mkO (qc (ag (tc ci (t1 ci))) (qc (ag (tc ci (t1 ci))) (q1 (ag (tc ci (t1 ci)))))) (fun x => F79 u x.1.1 x.1.2 x.2.1.1 x.2.1.2 x.2.2.1 x.2.2.2) fun t => [.v (vi t)]
theorem d79 : DO (O79 u) (C14 u) 84 A84 := dO u (fun x => by exact e79 u x.1.1 x.1.2 x.2.1.1 x.2.1.2 x.2.2.1 x.2.2.2)
def C15 : Oracle := (C14 u).add 84 (fun _ => true) (O79 u)
def A94 : AF := ⟨45,[.tmp 6],
 (.seq (.region 0 [o1 3 (bx 0 41 0),o1 4 (bx 1 41 1),o1 5 (bx 2 41 2),o1 6 (sb false)] 3 none) []
 (.seq (.region 1 [o1 7 (fa 41 3 0 0),o1 8 (lo 3 7),o1 9 (fa 41 4 0 0),o1 10 (lo 3 9),o1 11 (.mm false [(tm 8),(tm 10)] [3,3]),o1 12 (fa 41 5 0 0),o1 13 (lo 3 12),o1 14 (bt .leq 3 11 13),mv 15 14,og 16 (fa 41 5 0 0) 15 true,og 17 (lo 3 16) 15 true,og 18 (fa 41 3 0 0) 15 true,og 19 (lo 3 18) 15 true,og 20 (fa 41 4 0 0) 15 true,og 21 (lo 3 20) 15 true,og 22 (.mm true [(tm 19),(tm 21)] [3,3]) 15 true,og 23 (bt .leq 3 17 22) 15 true,o1 24 (po 15 23),mv 25 24,og 26 (fa 41 3 1 1) 25 true,og 27 (lo 3 26) 25 true,og 28 (fa 41 4 1 1) 25 true,og 29 (lo 3 28) 25 true,og 30 (.mm false [(tm 27),(tm 29)] [3,3]) 25 true,og 31 (fa 41 5 1 1) 25 true,og 32 (lo 3 31) 25 true,og 33 (bt .leq 3 30 32) 25 true,o1 34 (po 25 33),mv 35 34,og 36 (fa 41 5 1 1) 35 true,og 37 (lo 3 36) 35 true,og 38 (fa 41 3 1 1) 35 true,og 39 (lo 3 38) 35 true,og 40 (fa 41 4 1 1) 35 true,og 41 (lo 3 40) 35 true,og 42 (.mm true [(tm 39),(tm 41)] [3,3]) 35 true,og 43 (bt .leq 3 37 42) 35 true,o1 44 (po 35 43),o1 6 (sg 44)] 0 none) []
 (.ret (rl 0 6 (rl 7 38 [])))))⟩
def F87 (u : Nat) (x0 x1 x2 x3 x4 x5 : Int) : Option (Bool) :=
 (bif ((decide ((if x2 < x0 then x2 else x0) ≤ x4)) == true) then (bif ((decide (x4 ≤ (if x2 > x0 then x2 else x0))) == true) then (bif ((decide ((if x3 < x1 then x3 else x1) ≤ x5)) == true) then (some (decide (x5 ≤ (if x3 > x1 then x3 else x1)))) else (some false)) else (some false)) else (some false))
theorem e87 : evalF (C15 u) u A94 [.agg [(vi i0),(vi i1)],.agg [(vi i2),(vi i3)],.agg [(vi i4),(vi i5)]] = ob (F87 u i0 i1 i2 i3 i4 i5) fun t => some [.v (.b t)] := Eq.trans (b := (bif ((decide ((if i2 < i0 then i2 else i0) ≤ i4)) == true) then (bif ((decide (i4 ≤ (if i2 > i0 then i2 else i0))) == true) then (bif ((decide ((if i3 < i1 then i3 else i1) ≤ i5)) == true) then (some [.v (.b (decide (i5 ≤ (if i3 > i1 then i3 else i1))))]) else (some [.v (.b false)])) else (some [.v (.b false)])) else (some [.v (.b false)]))) (by kernel_rfl) (by
 simp only [F87,ob_bif,ob_ob,ob_none,ob_some])
def O87 : Ora := mkO (qc (ag (tc ci (t1 ci))) (qc (ag (tc ci (t1 ci))) (q1 (ag (tc ci (t1 ci)))))) (fun x => F87 u x.1.1 x.1.2 x.2.1.1 x.2.1.2 x.2.2.1 x.2.2.2) fun t => [.v (.b t)]
theorem d87 : DO (O87 u) (C15 u) 94 A94 := dO u (fun x => by exact e87 u x.1.1 x.1.2 x.2.1.1 x.2.1.2 x.2.2.1 x.2.2.2)
def C16 : Oracle := (C15 u).add 94 (fun _ => true) (O87 u)
def A83 : AF := ⟨18,[.tmp 6],
 (.seq (.region 0 [o1 3 (bx 0 41 0),o1 4 (bx 1 41 1),o1 5 (bx 2 41 2),o1 6 (sb false)] 3 none) []
 (.seq (.region 1 [o1 7 (ln 41 2 3),o1 8 (ln 41 2 4),o1 9 (ln 41 2 5),o1 10 (cs 84 [7,8,9] [41,41,41]),o1 11 (bk .eql 3 10 0),mv 12 11,og 13 (ln 41 2 3) 12 true,og 14 (ln 41 2 4) 12 true,og 15 (ln 41 2 5) 12 true,og 16 (cs 94 [13,14,15] [41,41,41]) 12 true,o1 17 (po 12 16),o1 6 (sg 17)] 0 none) []
 (.ret (rl 0 6 (rl 7 11 [])))))⟩
def F81 (x0 x1 x2 x3 x4 x5 : Int) : Option (Bool) :=
 (ob (F79 u x0 x1 x2 x3 x4 x5) fun x6 => (bif ((x6 == 0) == true) then (ob (F87 u x0 x1 x2 x3 x4 x5) fun x7 => (some x7)) else (some false)))
theorem e81 : evalF (C16 u) u A83 [.agg [(vi i0),(vi i1)],.agg [(vi i2),(vi i3)],.agg [(vi i4),(vi i5)]] = ob (F81 u i0 i1 i2 i3 i4 i5) fun t => some [.v (.b t)] := Eq.trans (b := (ob (F79 u i0 i1 i2 i3 i4 i5) fun x0 => (bif ((x0 == 0) == true) then (ob (F87 u i0 i1 i2 i3 i4 i5) fun x1 => (some [.v (.b x1)])) else (some [.v (.b false)])))) (by kernel_rfl) (by
 simp only [F81,ob_bif,ob_ob,ob_none,ob_some])
def O81 : Ora := mkO (qc (ag (tc ci (t1 ci))) (qc (ag (tc ci (t1 ci))) (q1 (ag (tc ci (t1 ci)))))) (fun x => F81 u x.1.1 x.1.2 x.2.1.1 x.2.1.2 x.2.2.1 x.2.2.2) fun t => [.v (.b t)]
theorem d81 : DO (O81 u) (C16 u) 83 A83 := dO u (fun x => by exact e81 u x.1.1 x.1.2 x.2.1.1 x.2.1.2 x.2.2.1 x.2.2.2)
def C17 : Oracle := (C16 u).add 83 (fun _ => true) (O81 u)
def A101 : AF := ⟨6,[.tmp 2],
 (.seq (.region 0 [o1 2 (sb false)] 0 none) []
 (.seq (.region 1 [mv 3 0,mv 4 0,o1 5 (bt .neq 3 3 4),o1 2 (sg 5)] 0 none) []
 (.ret [0,1,3,4,5])))⟩
def F90 (u : Nat) (x0 : Int) : Option (Bool) :=
 (some (x0 != x0))
theorem e90 : evalF (C17 u) u A101 [.v (vi i0)] = ob (F90 u i0) fun t => some [.v (.b t)] := Eq.trans (b := (some [.v (.b (i0 != i0))])) (by kernel_rfl) (by
 simp only [F90,ob_bif,ob_ob,ob_none,ob_some])
def O90 : Ora := mkO (q1 (av ci)) (fun x => F90 u x) fun t => [.v (.b t)]
theorem d90 : DO (O90 u) (C17 u) 101 A101 := dO u (fun x => by exact e90 u x)
def C18 : Oracle := (C17 u).add 101 (fun _ => true) (O90 u)
def A99v1 : AC := (.seq (.region 6 [o1 4 (sk (-1))] 0 none) []
 (.ret (rl 0 4 (rl 5 15 []))))
def A99v2 : AC := (.seq (.region 13 [o1 4 (sk 0)] 0 none) []
 (.ret (rl 0 4 (rl 5 15 []))))
def A99v3 : AC := (.seq (.seq (.region 11 [mv 17 0,mv 18 1,o1 19 (bt .gtr 3 17 18)] 0 none) []
 (.cond (tm 19)
 (.seq (.region 12 [o1 4 (sk 1)] 0 none) []
  (.ret (rl 0 4 (rl 5 15 []))))
 .skip)) [4,17,18,19]
 A99v2)
def A99v4 : AC := (.seq (.seq (.region 9 [mv 14 0,mv 15 1,o1 16 (bt .lss 3 14 15)] 0 none) []
 (.cond (tm 16)
 (.seq (.region 10 [o1 4 (sk (-1))] 0 none) []
  (.ret (rl 0 4 (rl 5 15 []))))
 .skip)) [4,14,15,16]
 A99v3)
def A99v5 : AC := (.seq (.seq (.region 7 [mv 13 6] 0 none) []
 (.cond (tm 13)
 (.seq (.region 8 [o1 4 (sk 1)] 0 none) []
  (.ret (rl 0 4 (rl 5 15 []))))
 .skip)) [4,13]
 A99v4)
def A99 : AF := ⟨20,[.tmp 4],
 (.seq (.region 0 [o1 4 (sk 0)] 0 none) []
 (.seq (.region 1 [mv 7 0,o1 8 (cs 101 [7] [3]),o1 5 (sg 8)] 0 none) []
 (.seq (.region 2 [mv 9 1,o1 10 (cs 101 [9] [3]),o1 6 (sg 10)] 0 none) []
 (.seq (.seq (.region 3 [mv 11 5] 0 none) []
 (.cond (tm 11)
 (.seq (.seq (.region 4 [mv 12 6] 0 none) []
  (.cond (tm 12)
  (.seq (.region 5 [o1 4 (sk 0)] 0 none) []
   (.ret (rl 0 4 (rl 5 15 []))))
  .skip)) [4,12]
  A99v1)
 .skip)) [4,11,12]
 A99v5))))⟩
def F89 (x0 x1 : Int) : Option (Int) :=
 (ob (F90 u x0) fun x2 => (ob (F90 u x1) fun x3 => (bif x2 then (bif x3 then (some 0) else (some (-1))) else (bif x3 then (some 1) else (bif (decide (x0 < x1)) then (some (-1)) else (bif (decide (x0 > x1)) then (some 1) else (some 0)))))))
theorem e89 : evalF (C18 u) u A99 [.v (vi i0),.v (vi i1)] = ob (F89 u i0 i1) fun t => some [.v (vi t)] := Eq.trans (b := (ob (F90 u i0) fun x0 => (ob (F90 u i1) fun x1 => (bif x0 then (bif x1 then (some [.v (vi 0)]) else (some [.v (vi (-1))])) else (bif x1 then (some [.v (vi 1)]) else (bif (decide (i0 < i1)) then (some [.v (vi (-1))]) else (bif (decide (i0 > i1)) then (some [.v (vi 1)]) else (some [.v (vi 0)])))))))) (by kernel_rfl) (by
 simp only [F89,ob_bif,ob_ob,ob_none,ob_some])
def O89 : Ora := mkO (qc (av ci) (q1 (av ci))) (fun x => F89 u x.1 x.2) fun t => [.v (vi t)]
theorem d89 : DO (O89 u) (C18 u) 99 A99 := dO u (fun x => by exact e89 u x.1 x.2)
def C19 : Oracle := (C18 u).add 99 (fun _ => true) (O89 u)
def A95 : AF := ⟨5,[.tmp 2],
 (.seq (.region 0 [o1 2 (sk 0)] 0 none) []
 (.seq (.region 1 [mv 3 0,o1 4 (.call 99 [(tm 3),(ic 0)] [3,3] .snap),o1 2 (sg 4)] 0 none) []
 (.ret [0,1,3,4])))⟩
def F86 (x0 : Int) : Option (Int) :=
 (ob (F89 u x0 0) fun x1 => (some x1))
theorem e86 : evalF (C19 u) u A95 [.v (vi i0)] = ob (F86 u i0) fun t => some [.v (vi t)] := Eq.trans (b := (ob (F89 u i0 0) fun x0 => (some [.v (vi x0)]))) (by kernel_rfl) (by
 simp only [F86,ob_bif,ob_ob,ob_none,ob_some])
def O86 : Ora := mkO (q1 (av ci)) (fun x => F86 u x) fun t => [.v (vi t)]
theorem d86 : DO (O86 u) (C19 u) 95 A95 := dO u (fun x => by exact e86 u x)
def C20 : Oracle := (C19 u).add 95 (fun _ => true) (O86 u)
def A86v1 : AC := (.seq (.region 3 [o1 31 (ln 41 2 4),o1 32 (ln 41 2 5),o1 33 (ln 41 2 6),o1 34 (cs 84 [31,32,33] [41,41,41]),o1 35 (cs 95 [34] [3]),o1 36 (ln 41 2 4),o1 37 (ln 41 2 5),o1 38 (ln 41 2 7),o1 39 (cs 84 [36,37,38] [41,41,41]),o1 40 (cs 95 [39] [3]),o1 41 (bt .mul 3 35 40),o1 42 (bk .lss 3 41 0),mv 43 42,og 44 (ln 41 2 6) 43 true,og 45 (ln 41 2 7) 43 true,og 46 (ln 41 2 4) 43 true,og 47 (cs 84 [44,45,46] [41,41,41]) 43 true,og 48 (cs 95 [47] [3]) 43 true,og 49 (ln 41 2 6) 43 true,og 50 (ln 41 2 7) 43 true,og 51 (ln 41 2 5) 43 true,og 52 (cs 84 [49,50,51] [41,41,41]) 43 true,og 53 (cs 95 [52] [3]) 43 true,og 54 (bt .mul 3 48 53) 43 true,og 55 (bk .lss 3 54 0) 43 true,o1 56 (po 43 55),o1 8 (sg 56)] 0 (some [[],[],[],[0,1,2],(rl 0 4 []),[],[],[],(rl 0 8 []),(rl 0 9 []),(rl 0 10 []),(rl 0 11 []),(rl 0 12 []),(rl 0 13 []),(rl 0 13 []),(rl 0 13 []),(rl 0 16 []),(rl 0 17 []),(rl 0 13 []),(rl 0 13 []),(rl 0 13 []),(rl 0 21 []),(rl 0 22 []),(rl 0 23 []),(rl 0 24 []),(rl 0 25 []),(rl 0 26 [])])) []
 (.ret (rl 0 8 (rl 9 48 []))))
def A86 : AF := ⟨57,[.tmp 8],
 (.seq (.region 0 [o1 4 (bx 0 41 0),o1 5 (bx 1 41 1),o1 6 (bx 2 41 2),o1 7 (bx 3 41 3),o1 8 (sb false)] 4 none) []
 (.seq (.seq (.region 1 [o1 9 (ln 41 2 4),o1 10 (ln 41 2 5),o1 11 (ln 41 2 6),o1 12 (cs 83 [9,10,11] [41,41,41]),mv 13 12,og 14 (ln 41 2 4) 13 false,og 15 (ln 41 2 5) 13 false,og 16 (ln 41 2 7) 13 false,og 17 (cs 83 [14,15,16] [41,41,41]) 13 false,o1 18 (pa 13 17),mv 19 18,og 20 (ln 41 2 6) 19 false,og 21 (ln 41 2 7) 19 false,og 22 (ln 41 2 4) 19 false,og 23 (cs 83 [20,21,22] [41,41,41]) 19 false,o1 24 (pa 19 23),mv 25 24,og 26 (ln 41 2 6) 25 false,og 27 (ln 41 2 7) 25 false,og 28 (ln 41 2 5) 25 false,og 29 (cs 83 [26,27,28] [41,41,41]) 25 false,o1 30 (pa 25 29)] 0 none) []
 (.cond (tm 30)
 (.seq (.region 2 [o1 8 (sb true)] 0 none) []
  (.ret (rl 0 8 (rl 9 48 []))))
 .skip)) (rl 8 23 [])
 A86v1))⟩
def F80 (x0 x1 x2 x3 x4 x5 x6 x7 : Int) : Option (Bool) :=
 (ob (F81 u x0 x1 x2 x3 x4 x5) fun x8 => (bif (x8 == false) then (ob (F81 u x0 x1 x2 x3 x6 x7) fun x9 => (bif (x9 == false) then (ob (F81 u x4 x5 x6 x7 x0 x1) fun xA => (bif (xA == false) then (ob (F81 u x4 x5 x6 x7 x2 x3) fun xB => (bif xB then (some true) else (ob (F79 u x0 x1 x2 x3 x4 x5) fun xC => (ob (F86 u xC) fun xD => (ob (F79 u x0 x1 x2 x3 x6 x7) fun xE => (ob (F86 u xE) fun xF => (bif ((decide ((w64 (xD * xF)) < 0)) == true) then (ob (F79 u x4 x5 x6 x7 x0 x1) fun xG => (ob (F86 u xG) fun xH => (ob (F79 u x4 x5 x6 x7 x2 x3) fun xI => (ob (F86 u xI) fun xJ => (some (decide ((w64 (xH * xJ)) < 0))))))) else (some false)))))))) else (some true))) else (some true))) else (some true)))
theorem e80 : evalF (C20 u) u A86 [.agg [(vi i0),(vi i1)],.agg [(vi i2),(vi i3)],.agg [(vi i4),(vi i5)],.agg [(vi i6),(vi i7)]] = ob (F80 u i0 i1 i2 i3 i4 i5 i6 i7) fun t => some [.v (.b t)] := Eq.trans (b := (ob (F81 u i0 i1 i2 i3 i4 i5) fun x0 => (bif (x0 == false) then (ob (F81 u i0 i1 i2 i3 i6 i7) fun x1 => (bif (x1 == false) then (ob (F81 u i4 i5 i6 i7 i0 i1) fun x2 => (bif (x2 == false) then (ob (F81 u i4 i5 i6 i7 i2 i3) fun x3 => (bif x3 then (some [.v (.b true)]) else (ob (F79 u i0 i1 i2 i3 i4 i5) fun x4 => (ob (F86 u x4) fun x5 => (ob (F79 u i0 i1 i2 i3 i6 i7) fun x6 => (ob (F86 u x6) fun x7 => (bif ((decide ((w64 (x5 * x7)) < 0)) == true) then (ob (F79 u i4 i5 i6 i7 i0 i1) fun x8 => (ob (F86 u x8) fun x9 => (ob (F79 u i4 i5 i6 i7 i2 i3) fun xA => (ob (F86 u xA) fun xB => (some [.v (.b (decide ((w64 (x9 * xB)) < 0)))]))))) else (some [.v (.b false)])))))))) else (some [.v (.b true)]))) else (some [.v (.b true)]))) else (some [.v (.b true)])))) (by kernel_rfl) (by
 simp only [F80,ob_bif,ob_ob,ob_none,ob_some])
def O80 : Ora := mkO (qc (ag (tc ci (t1 ci))) (qc (ag (tc ci (t1 ci))) (qc (ag (tc ci (t1 ci))) (q1 (ag (tc ci (t1 ci))))))) (fun x => F80 u x.1.1 x.1.2 x.2.1.1 x.2.1.2 x.2.2.1.1 x.2.2.1.2 x.2.2.2.1 x.2.2.2.2) fun t => [.v (.b t)]
theorem d80 : DO (O80 u) (C20 u) 86 A86 := dO u (fun x => by exact e80 u x.1.1 x.1.2 x.2.1.1 x.2.1.2 x.2.2.1.1 x.2.2.1.2 x.2.2.2.1 x.2.2.2.2)
def C21 : Oracle := (C20 u).add 86 (fun _ => true) (O80 u)
def A73v1 : AC := (.region 13 [mv 73 8,o1 74 (bk .add 3 73 1),o1 8 (sg 74)] 0 none)
def A73v2 : AC := (.seq (.block 3
 (.seq (.region 14 [mv 75 8,o1 76 (bk .add 3 75 1),mv 77 3,o1 78 (bt .rem 3 76 77),mv 79 4,o1 80 (bt .neq 3 78 79),mv 81 80,og 82 (ln 41 2 5) 81 true,og 83 (ln 41 2 6) 81 true,og 84 (.move (tm 0)) 81 true,og 85 (.move (tm 8)) 81 true,og 86 (.indexAddr 47 41 2 (tm 84) (tm 85)) 81 true,og 87 (ln 41 2 86) 81 true,og 88 (.move (tm 0)) 81 true,og 89 (.move (tm 8)) 81 true,og 90 (bk .add 3 89 1) 81 true,og 91 (.move (tm 3)) 81 true,og 92 (bt .rem 3 90 91) 81 true,og 93 (.indexAddr 47 41 2 (tm 88) (tm 92)) 81 true,og 94 (ln 41 2 93) 81 true,og 95 (cs 86 [82,83,87,94] [41,41,41,41]) 81 true,o1 96 (po 81 95)] 0 (some [[],[0],[],[0,1,2],[],(rl 0 5 []),(rl 0 6 []),(rl 0 7 []),(rl 0 7 []),(rl 0 7 []),(rl 0 7 []),(rl 0 7 [9,10]),(rl 0 7 [9,10,11]),(rl 0 7 []),(rl 0 7 []),(rl 0 7 [14]),(rl 0 7 []),(rl 0 7 [14,15,16]),(rl 0 7 (rl 13 5 [])),(rl 0 7 (rl 13 6 [])),(rl 0 20 []),(rl 0 21 [])])) []
  (.cond (tm 96)
  (.seq (.region 15 [o1 2 (sb false)] 0 none) []
   (.ret (0 :: 1 :: (rl 3 95 []))))
  .skip))) (2 :: (rl 75 22 []))
 A73v1)
def A73v3 : AC := (.seq (.seq (.region 12 [mv 70 8,mv 71 3,o1 72 (bt .lss 3 70 71)] 0 none) []
 (.cond (tm 72)
 .skip
 (.exit 2 (1 :: 2 :: (rl 4 8 (rl 14 84 [])))))) [70,71,72]
 A73v2)
def A73v4 : AC := (.seq (.region 11 [mv 68 4,o1 69 (bk .add 3 68 2),o1 8 (sg 69)] 0 none) []
 (.block 2
 (.loop [] (1 :: 2 :: 7 :: 9 :: 10 :: 11 :: (rl 14 84 []))
  A73v3)))
def A73v5 : AC := (.seq (.region 8 [mv 30 0,mv 31 4,o1 32 (bk .add 3 31 2),mv 33 3,o1 34 (bt .rem 3 32 33),o1 35 (.indexAddr 47 41 2 (tm 30) (tm 34)),o1 36 (ln 41 2 35),o1 7 (.alloc 0 41 [vci 0,vci 0]),o0 (.store 41 2 (tm 7) (tm 36))] 1 none) []
 (.seq (.seq (.region 9 [o1 37 (ln 41 2 5),o1 38 (ln 41 2 6),o1 39 (ln 41 2 7),o1 40 (cs 84 [37,38,39] [41,41,41]),o1 41 (bk .eql 3 40 0),mv 42 41,og 43 (fa 41 5 0 0) 42 true,og 44 (lo 3 43) 42 true,og 45 (fa 41 6 0 0) 42 true,og 46 (lo 3 45) 42 true,og 47 (bt .sub 3 44 46) 42 true,og 48 (fa 41 7 0 0) 42 true,og 49 (lo 3 48) 42 true,og 50 (fa 41 6 0 0) 42 true,og 51 (lo 3 50) 42 true,og 52 (bt .sub 3 49 51) 42 true,og 53 (bt .mul 3 47 52) 42 true,og 54 (fa 41 5 1 1) 42 true,og 55 (lo 3 54) 42 true,og 56 (fa 41 6 1 1) 42 true,og 57 (lo 3 56) 42 true,og 58 (bt .sub 3 55 57) 42 true,og 59 (fa 41 7 1 1) 42 true,og 60 (lo 3 59) 42 true,og 61 (fa 41 6 1 1) 42 true,og 62 (lo 3 61) 42 true,og 63 (bt .sub 3 60 62) 42 true,og 64 (bt .mul 3 58 63) 42 true,og 65 (bt .add 3 53 64) 42 true,og 66 (bk .gtr 3 65 0) 42 true,o1 67 (po 42 66)] 0 none) []
 (.cond (tm 67)
 (.seq (.region 10 [o1 2 (sb false)] 0 none) []
  (.ret (0 :: 1 :: (rl 3 95 []))))
 .skip)) (2 :: (rl 37 31 []))
 A73v4))
def A73v6 : AC := (.region 16 [o1 97 (bk .add 3 13 1),mv 13 97] 0 none)
def A73v7 : AC := (.seq (.block 1
 (.seq (.region 4 [mv 15 13,o1 4 (sg 15)] 0 none) []
  (.seq (.region 5 [mv 16 0,mv 17 4,o1 18 (.indexAddr 47 41 2 (tm 16) (tm 17)),o1 19 (ln 41 2 18),mv 20 0,mv 21 4,o1 22 (bk .add 3 21 1),mv 23 3,o1 24 (bt .rem 3 22 23),o1 25 (.indexAddr 47 41 2 (tm 20) (tm 24)),o1 26 (ln 41 2 25),o1 5 (.alloc 0 41 [vci 0,vci 0]),o1 6 (.alloc 1 41 [vci 0,vci 0]),o0 (.store 41 2 (tm 5) (tm 19)),o0 (.store 41 2 (tm 6) (tm 26))] 2 (some [[],[],[0,1],[0,1,2],[],[],[5],[],[5,6,7],(rl 4 5 []),(rl 4 6 []),[],[],(rl 0 4 [11,12]),(rl 0 14 [])])) []
  (.seq (.seq (.region 6 [o1 27 (ln 41 2 5),o1 28 (ln 41 2 6),o1 29 (.eqA false kP 41 (tm 27) (tm 28) 41)] 0 none) []
  (.cond (tm 29)
  (.seq (.region 7 [o1 2 (sb false)] 0 none) []
   (.ret (0 :: 1 :: (rl 3 95 []))))
  .skip)) [2,27,28,29]
  A73v5)))) (2 :: (rl 4 5 (rl 15 82 [])))
 A73v6)
def A73v8 : AC := (.seq (.region 3 [o1 14 (bt .lss 3 13 12)] 0 none) []
 (.seq (.cond (tm 14)
 .skip
 (.exit 0 (rl 0 98 []))) []
 A73v7))
def A73v9 : AC := (.seq (.region 17 [o1 2 (sb true)] 0 none) []
 (.ret (0 :: 1 :: (rl 3 95 []))))
def A73 : AF := ⟨98,[.tmp 2],
 (.seq (.region 0 [o1 2 (sb false)] 0 none) []
 (.seq (.region 1 [mv 9 0,o1 10 (.len 47 false (tm 9)),o1 3 (sg 10)] 0 none) []
 (.seq (.seq (.region 2 [mv 11 0,o1 12 (.len 47 false (tm 11)),o1 13 (.move (ic 0))] 0 none) []
 (.block 0
 (.loop [] (1 :: 2 :: (rl 4 8 (rl 14 84 [])))
  A73v8))) (2 :: (rl 4 5 (rl 11 87 [])))
 A73v9)))⟩
def N62v2 : St → Option St := nN 3 (1 :: 2 :: 7 :: 9 :: 10 :: 11 :: (rl 14 84 []))
def s62v0 : St := ⟨(.x (.c (ro kP n0 f0)) :: .u :: .u :: vxi i0 :: vxi i1 :: .x (.ptr 0 0) :: .x (.ptr 1 0) :: .u :: vxi i2 :: (us 3 (vxi i0 :: vxi i1 :: (us 84 [])))),[.box [(vci i3),(vci i4)],.box [(vci i5),(vci i6)],.box [(vci i7),(vci i8)]]⟩
def s62v1 : St := ⟨(.u :: .u :: vxb false :: (us 95 [])),[.box [(vci i0),(vci i1)],.box [(vci i2),(vci i3)],.box [(vci i4),(vci i5)]]⟩
def s62v2 : St := ⟨(.x (.c (ro kP n0 f0)) :: .u :: .u :: vxi i0 :: (us 8 (vxi i0 :: vxi i1 :: (us 84 [])))),[.box [(vci i2),(vci i3)],.box [(vci i4),(vci i5)],.box [(vci i6),(vci i7)]]⟩
def L62v2 {ρ : Type} (u : Nat) (x0 : Nat) (x1 : FF) (x2 x3 x4 x5 x6 x7 x8 x9 : Int) : Nat → Int → (Option ρ) → (Option ρ) → Option ρ
 | 0,_,_,_ => none
 | m + 1,xA,k0,k1 =>
  (bif (decide (xA < x2)) then (bif (x2 == 0) then none else (bif (((Int.tmod (w64 (xA + 1)) x2) != x3) == true) then (bif (inb xA x0) then (bif (x2 == 0) then none else (bif (inb (Int.tmod (w64 (xA + 1)) x2) x0) then (ob (F80 u x4 x5 x6 x7 (x1 xA.toNat 0).int (x1 xA.toNat 1).int (CV.int (x1 (Int.toNat (Int.tmod (w64 (xA + 1)) x2)) 0)) (CV.int (x1 (Int.toNat (Int.tmod (w64 (xA + 1)) x2)) 1))) fun xB => (bif xB then k0 else (L62v2 u x0 x1 x2 x3 x4 x5 x6 x7 x8 x9 m (w64 (xA + 1)) k0 k1))) else none)) else none) else (L62v2 u x0 x1 x2 x3 x4 x5 x6 x7 x8 x9 m (w64 (xA + 1)) k0 k1))) else k1)
theorem nl62v2 : ∀ (m : Nat) (x0 : Int) (k0 : Option ρ) (k1 : Option ρ),ob (L62v2 u n0 f0 i0 i1 i2 i3 i4 i5 i6 i7 m x0 k0 k1) ng = L62v2 u n0 f0 i0 i1 i2 i3 i4 i5 i6 i7 m x0 (ob k0 ng) (ob k1 ng)
 | 0,_,_,_ => rfl
 | m + 1,x0,k0,k1 => by
  simp only [L62v2,ob_bif,ob_ob,ob_none,nl62v2 m]
theorem r62v2 :
  loopH (eB A73v3 (C21 u) u) N62v2 (m + 1) (s62v0 n0 f0 i0 i1 i8 i2 i3 i4 i5 i6 i7) k =
  (bif (decide (i8 < i0)) then (bif (i0 == 0) then none else (bif (((Int.tmod (w64 (i8 + 1)) i0) != i1) == true) then (bif (inb i8 n0) then (bif (i0 == 0) then none else (bif (inb (Int.tmod (w64 (i8 + 1)) i0) n0) then (ob (F80 u i2 i3 i4 i5 (f0 i8.toNat 0).int (f0 i8.toNat 1).int (CV.int (f0 (Int.toNat (Int.tmod (w64 (i8 + 1)) i0)) 0)) (CV.int (f0 (Int.toNat (Int.tmod (w64 (i8 + 1)) i0)) 1))) fun x0 => (bif x0 then (k .ret (s62v1 i2 i3 i4 i5 i6 i7)) else (loopH (eB A73v3 (C21 u) u) N62v2 m (s62v0 n0 f0 i0 i1 (w64 (i8 + 1)) i2 i3 i4 i5 i6 i7) k))) else none)) else none) else (loopH (eB A73v3 (C21 u) u) N62v2 m (s62v0 n0 f0 i0 i1 (w64 (i8 + 1)) i2 i3 i4 i5 i6 i7) k))) else (k (.exit 2) (s62v2 n0 f0 i0 i1 i2 i3 i4 i5 i6 i7))) := by kernel_rfl
theorem q62v2 : ∀ (m : Nat) (x0 : Int),
  loopH (eB A73v3 (C21 u) u) N62v2 m (s62v0 n0 f0 i0 i1 x0 i2 i3 i4 i5 i6 i7) k = L62v2 u n0 f0 i0 i1 i2 i3 i4 i5 i6 i7 m x0 (k .ret (s62v1 i2 i3 i4 i5 i6 i7)) (k (.exit 2) (s62v2 n0 f0 i0 i1 i2 i3 i4 i5 i6 i7))
 | 0,_ => rfl
 | m + 1,x0 => by
  rw [r62v2]
  simp only [L62v2,q62v2 m]
def N62v3 : St → Option St := nN 0 (1 :: 2 :: (rl 4 8 (rl 14 84 [])))
def s62v3 : St := ⟨(.x (.c (ro kP n0 f0)) :: .u :: .u :: vxi i0 :: (us 8 (vxi i0 :: vxi i1 :: (us 84 [])))),[]⟩
def s62v4 : St := ⟨(.u :: .u :: vxb false :: (us 95 [])),[.box [(vci i0),(vci i1)],.box [(vci i2),(vci i3)]]⟩
def s62v5 : St := ⟨(.u :: .u :: vxb false :: (us 95 [])),[.box [(vci i0),(vci i1)],.box [(vci i2),(vci i3)],.box [(vci i4),(vci i5)]]⟩
def s62v6 : St := ⟨(us 98 []),[]⟩
def L62v3 {ρ : Type} (u : Nat) (x0 : Nat) (x1 : FF) (x2 : Int) : Nat → Int → (Int → Int → Int → Int → Option ρ) → (Int → Int → Int → Int → Int → Int → Option ρ) → (Option ρ) → Option ρ
 | 0,_,_,_,_ => none
 | m + 1,x3,k0,k1,k2 =>
  (bif (decide (x3 < x2)) then (bif (inb x3 x0) then (bif (x2 == 0) then none else (bif (inb (Int.tmod (w64 (x3 + 1)) x2) x0) then (bif (((x1 x3.toNat 0).int == (CV.int (x1 (Int.toNat (Int.tmod (w64 (x3 + 1)) x2)) 0))) && (((x1 x3.toNat 1).int == (CV.int (x1 (Int.toNat (Int.tmod (w64 (x3 + 1)) x2)) 1))) && true)) then (k0 (x1 x3.toNat 0).int (x1 x3.toNat 1).int (CV.int (x1 (Int.toNat (Int.tmod (w64 (x3 + 1)) x2)) 0)) (CV.int (x1 (Int.toNat (Int.tmod (w64 (x3 + 1)) x2)) 1))) else (bif (x2 == 0) then none else (bif (inb (Int.tmod (w64 (x3 + 2)) x2) x0) then (ob (F79 u (x1 x3.toNat 0).int (x1 x3.toNat 1).int (CV.int (x1 (Int.toNat (Int.tmod (w64 (x3 + 1)) x2)) 0)) (CV.int (x1 (Int.toNat (Int.tmod (w64 (x3 + 1)) x2)) 1)) (CV.int (x1 (Int.toNat (Int.tmod (w64 (x3 + 2)) x2)) 0)) (CV.int (x1 (Int.toNat (Int.tmod (w64 (x3 + 2)) x2)) 1))) fun x4 => (bif ((x4 == 0) == true) then (bif (decide ((w64 ((w64 ((w64 ((x1 x3.toNat 0).int - (CV.int (x1 (Int.toNat (Int.tmod (w64 (x3 + 1)) x2)) 0)))) * (w64 ((CV.int (x1 (Int.toNat (Int.tmod (w64 (x3 + 2)) x2)) 0)) - (CV.int (x1 (Int.toNat (Int.tmod (w64 (x3 + 1)) x2)) 0)))))) + (w64 ((w64 ((x1 x3.toNat 1).int - (CV.int (x1 (Int.toNat (Int.tmod (w64 (x3 + 1)) x2)) 1)))) * (w64 ((CV.int (x1 (Int.toNat (Int.tmod (w64 (x3 + 2)) x2)) 1)) - (CV.int (x1 (Int.toNat (Int.tmod (w64 (x3 + 1)) x2)) 1)))))))) > 0)) then (k1 (x1 x3.toNat 0).int (x1 x3.toNat 1).int (CV.int (x1 (Int.toNat (Int.tmod (w64 (x3 + 1)) x2)) 0)) (CV.int (x1 (Int.toNat (Int.tmod (w64 (x3 + 1)) x2)) 1)) (CV.int (x1 (Int.toNat (Int.tmod (w64 (x3 + 2)) x2)) 0)) (CV.int (x1 (Int.toNat (Int.tmod (w64 (x3 + 2)) x2)) 1))) else (L62v2 u x0 x1 x2 x3 (x1 x3.toNat 0).int (x1 x3.toNat 1).int (CV.int (x1 (Int.toNat (Int.tmod (w64 (x3 + 1)) x2)) 0)) (CV.int (x1 (Int.toNat (Int.tmod (w64 (x3 + 1)) x2)) 1)) (CV.int (x1 (Int.toNat (Int.tmod (w64 (x3 + 2)) x2)) 0)) (CV.int (x1 (Int.toNat (Int.tmod (w64 (x3 + 2)) x2)) 1)) u (w64 (x3 + 2))
  (k1 (x1 x3.toNat 0).int (x1 x3.toNat 1).int (CV.int (x1 (Int.toNat (Int.tmod (w64 (x3 + 1)) x2)) 0)) (CV.int (x1 (Int.toNat (Int.tmod (w64 (x3 + 1)) x2)) 1)) (CV.int (x1 (Int.toNat (Int.tmod (w64 (x3 + 2)) x2)) 0)) (CV.int (x1 (Int.toNat (Int.tmod (w64 (x3 + 2)) x2)) 1)))
  (L62v3 u x0 x1 x2 m (w64 (x3 + 1)) k0 k1 k2))) else (L62v2 u x0 x1 x2 x3 (x1 x3.toNat 0).int (x1 x3.toNat 1).int (CV.int (x1 (Int.toNat (Int.tmod (w64 (x3 + 1)) x2)) 0)) (CV.int (x1 (Int.toNat (Int.tmod (w64 (x3 + 1)) x2)) 1)) (CV.int (x1 (Int.toNat (Int.tmod (w64 (x3 + 2)) x2)) 0)) (CV.int (x1 (Int.toNat (Int.tmod (w64 (x3 + 2)) x2)) 1)) u (w64 (x3 + 2))
  (k1 (x1 x3.toNat 0).int (x1 x3.toNat 1).int (CV.int (x1 (Int.toNat (Int.tmod (w64 (x3 + 1)) x2)) 0)) (CV.int (x1 (Int.toNat (Int.tmod (w64 (x3 + 1)) x2)) 1)) (CV.int (x1 (Int.toNat (Int.tmod (w64 (x3 + 2)) x2)) 0)) (CV.int (x1 (Int.toNat (Int.tmod (w64 (x3 + 2)) x2)) 1)))
  (L62v3 u x0 x1 x2 m (w64 (x3 + 1)) k0 k1 k2)))) else none))) else none)) else none) else k2)
theorem nl62v3 : ∀ (m : Nat) (x0 : Int) (k0 : Int → Int → Int → Int → Option ρ) (k1 : Int → Int → Int → Int → Int → Int → Option ρ) (k2 : Option ρ),ob (L62v3 u n0 f0 i0 m x0 k0 k1 k2) ng = L62v3 u n0 f0 i0 m x0 (fun x1 x2 x3 x4 => ob (k0 x1 x2 x3 x4) ng) (fun x5 x6 x7 x8 x9 xA => ob (k1 x5 x6 x7 x8 x9 xA) ng) (ob k2 ng)
 | 0,_,_,_,_ => rfl
 | m + 1,x0,k0,k1,k2 => by
  simp only [L62v3,ob_bif,ob_ob,ob_none,nl62v3 m,nl62v2]
def s62v7 : St := ⟨(.x (.c (ro kP n0 f0)) :: .u :: .u :: vxi i0 :: vxi i1 :: .x (.ptr 0 0) :: .x (.ptr 1 0) :: .x (.ptr 2 0) :: vxi (w64 (i1 + 2)) :: (us 3 (vxi i0 :: vxi i1 :: vxb true :: vxi i1 :: .x (.c (ro kP n0 f0)) :: vxi i1 :: .x (.c (.rp kP (f0 i1.toNat))) :: .agg [(vci (f0 i1.toNat 0).int),(vci (f0 i1.toNat 1).int)] :: .x (.c (ro kP n0 f0)) :: vxi i1 :: vxi (w64 (i1 + 1)) :: vxi i0 :: vxi (Int.tmod (w64 (i1 + 1)) i0) :: .x (.c (.rp kP (f0 (Int.toNat (Int.tmod (w64 (i1 + 1)) i0))))) :: .agg [(vci (CV.int (f0 (Int.toNat (Int.tmod (w64 (i1 + 1)) i0)) 0))),(vci (CV.int (f0 (Int.toNat (Int.tmod (w64 (i1 + 1)) i0)) 1)))] :: (us 3 (.x (.c (ro kP n0 f0)) :: vxi i1 :: vxi (w64 (i1 + 2)) :: vxi i0 :: vxi (Int.tmod (w64 (i1 + 2)) i0) :: .x (.c (.rp kP (f0 (Int.toNat (Int.tmod (w64 (i1 + 2)) i0))))) :: .agg [(vci (CV.int (f0 (Int.toNat (Int.tmod (w64 (i1 + 2)) i0)) 0))),(vci (CV.int (f0 (Int.toNat (Int.tmod (w64 (i1 + 2)) i0)) 1)))] :: (us 31 (vxi i1 :: vxi (w64 (i1 + 2)) :: (us 28 [])))))))),[.box [(vci (f0 i1.toNat 0).int),(vci (f0 i1.toNat 1).int)],.box [(vci (CV.int (f0 (Int.toNat (Int.tmod (w64 (i1 + 1)) i0)) 0))),(vci (CV.int (f0 (Int.toNat (Int.tmod (w64 (i1 + 1)) i0)) 1)))],.box [(vci (CV.int (f0 (Int.toNat (Int.tmod (w64 (i1 + 2)) i0)) 0))),(vci (CV.int (f0 (Int.toNat (Int.tmod (w64 (i1 + 2)) i0)) 1)))]]⟩
theorem r62v3 :
  loopH (eB A73v8 (C21 u) u) N62v3 (m + 1) (s62v3 n0 f0 i0 i1) k =
  (bif (decide (i1 < i0)) then (bif (inb i1 n0) then (bif (i0 == 0) then none else (bif (inb (Int.tmod (w64 (i1 + 1)) i0) n0) then (bif (((f0 i1.toNat 0).int == (CV.int (f0 (Int.toNat (Int.tmod (w64 (i1 + 1)) i0)) 0))) && (((f0 i1.toNat 1).int == (CV.int (f0 (Int.toNat (Int.tmod (w64 (i1 + 1)) i0)) 1))) && true)) then (k .ret (s62v4 (f0 i1.toNat 0).int (f0 i1.toNat 1).int (CV.int (f0 (Int.toNat (Int.tmod (w64 (i1 + 1)) i0)) 0)) (CV.int (f0 (Int.toNat (Int.tmod (w64 (i1 + 1)) i0)) 1)))) else (bif (i0 == 0) then none else (bif (inb (Int.tmod (w64 (i1 + 2)) i0) n0) then (ob (F79 u (f0 i1.toNat 0).int (f0 i1.toNat 1).int (CV.int (f0 (Int.toNat (Int.tmod (w64 (i1 + 1)) i0)) 0)) (CV.int (f0 (Int.toNat (Int.tmod (w64 (i1 + 1)) i0)) 1)) (CV.int (f0 (Int.toNat (Int.tmod (w64 (i1 + 2)) i0)) 0)) (CV.int (f0 (Int.toNat (Int.tmod (w64 (i1 + 2)) i0)) 1))) fun x0 => (bif ((x0 == 0) == true) then (bif (decide ((w64 ((w64 ((w64 ((f0 i1.toNat 0).int - (CV.int (f0 (Int.toNat (Int.tmod (w64 (i1 + 1)) i0)) 0)))) * (w64 ((CV.int (f0 (Int.toNat (Int.tmod (w64 (i1 + 2)) i0)) 0)) - (CV.int (f0 (Int.toNat (Int.tmod (w64 (i1 + 1)) i0)) 0)))))) + (w64 ((w64 ((f0 i1.toNat 1).int - (CV.int (f0 (Int.toNat (Int.tmod (w64 (i1 + 1)) i0)) 1)))) * (w64 ((CV.int (f0 (Int.toNat (Int.tmod (w64 (i1 + 2)) i0)) 1)) - (CV.int (f0 (Int.toNat (Int.tmod (w64 (i1 + 1)) i0)) 1)))))))) > 0)) then (k .ret (s62v5 (f0 i1.toNat 0).int (f0 i1.toNat 1).int (CV.int (f0 (Int.toNat (Int.tmod (w64 (i1 + 1)) i0)) 0)) (CV.int (f0 (Int.toNat (Int.tmod (w64 (i1 + 1)) i0)) 1)) (CV.int (f0 (Int.toNat (Int.tmod (w64 (i1 + 2)) i0)) 0)) (CV.int (f0 (Int.toNat (Int.tmod (w64 (i1 + 2)) i0)) 1)))) else (loopN (eB A73v3 (C21 u) u) N62v2 u (s62v7 n0 f0 i0 i1) (kBlk 2 (kBlk 1 (kSeq (C21 u) u (2 :: (rl 4 5 (rl 15 82 []))) A73v6 (kLoop (eB A73v8 (C21 u) u) N62v3 m k)))))) else (loopN (eB A73v3 (C21 u) u) N62v2 u (s62v7 n0 f0 i0 i1) (kBlk 2 (kBlk 1 (kSeq (C21 u) u (2 :: (rl 4 5 (rl 15 82 []))) A73v6 (kLoop (eB A73v8 (C21 u) u) N62v3 m k))))))) else none))) else none)) else none) else (k (.exit 0) s62v6)) := by kernel_rfl
theorem t62v1 :
  loopN (eB A73v3 (C21 u) u) N62v2 u (s62v7 n0 f0 i0 i1) k =
  L62v2 u n0 f0 i0 i1 (f0 i1.toNat 0).int (f0 i1.toNat 1).int (CV.int (f0 (Int.toNat (Int.tmod (w64 (i1 + 1)) i0)) 0)) (CV.int (f0 (Int.toNat (Int.tmod (w64 (i1 + 1)) i0)) 1)) (CV.int (f0 (Int.toNat (Int.tmod (w64 (i1 + 2)) i0)) 0)) (CV.int (f0 (Int.toNat (Int.tmod (w64 (i1 + 2)) i0)) 1)) u (w64 (i1 + 2)) (k .ret (s62v1 (f0 i1.toNat 0).int (f0 i1.toNat 1).int (CV.int (f0 (Int.toNat (Int.tmod (w64 (i1 + 1)) i0)) 0)) (CV.int (f0 (Int.toNat (Int.tmod (w64 (i1 + 1)) i0)) 1)) (CV.int (f0 (Int.toNat (Int.tmod (w64 (i1 + 2)) i0)) 0)) (CV.int (f0 (Int.toNat (Int.tmod (w64 (i1 + 2)) i0)) 1)))) (k (.exit 2) (s62v2 n0 f0 i0 i1 (f0 i1.toNat 0).int (f0 i1.toNat 1).int (CV.int (f0 (Int.toNat (Int.tmod (w64 (i1 + 1)) i0)) 0)) (CV.int (f0 (Int.toNat (Int.tmod (w64 (i1 + 1)) i0)) 1)) (CV.int (f0 (Int.toNat (Int.tmod (w64 (i1 + 2)) i0)) 0)) (CV.int (f0 (Int.toNat (Int.tmod (w64 (i1 + 2)) i0)) 1)))) :=
 Eq.trans (loopN_at (by kernel_rfl)) (q62v2 ..)
theorem g62v2 :
  (kBlk 2 (kBlk 1 (kSeq (C21 u) u (2 :: (rl 4 5 (rl 15 82 []))) A73v6 (kLoop (eB A73v8 (C21 u) u) N62v3 m k)))) .ret (s62v1 (f0 i0.toNat 0).int (f0 i0.toNat 1).int (CV.int (f0 (Int.toNat (Int.tmod (w64 (i0 + 1)) i1)) 0)) (CV.int (f0 (Int.toNat (Int.tmod (w64 (i0 + 1)) i1)) 1)) (CV.int (f0 (Int.toNat (Int.tmod (w64 (i0 + 2)) i1)) 0)) (CV.int (f0 (Int.toNat (Int.tmod (w64 (i0 + 2)) i1)) 1))) =
  (k .ret (s62v5 (f0 i0.toNat 0).int (f0 i0.toNat 1).int (CV.int (f0 (Int.toNat (Int.tmod (w64 (i0 + 1)) i1)) 0)) (CV.int (f0 (Int.toNat (Int.tmod (w64 (i0 + 1)) i1)) 1)) (CV.int (f0 (Int.toNat (Int.tmod (w64 (i0 + 2)) i1)) 0)) (CV.int (f0 (Int.toNat (Int.tmod (w64 (i0 + 2)) i1)) 1)))) := by kernel_rfl
theorem g62v3 :
  (kBlk 2 (kBlk 1 (kSeq (C21 u) u (2 :: (rl 4 5 (rl 15 82 []))) A73v6 (kLoop (eB A73v8 (C21 u) u) N62v3 m k)))) (.exit 2) (s62v2 n0 f0 i0 i1 (f0 i1.toNat 0).int (f0 i1.toNat 1).int (CV.int (f0 (Int.toNat (Int.tmod (w64 (i1 + 1)) i0)) 0)) (CV.int (f0 (Int.toNat (Int.tmod (w64 (i1 + 1)) i0)) 1)) (CV.int (f0 (Int.toNat (Int.tmod (w64 (i1 + 2)) i0)) 0)) (CV.int (f0 (Int.toNat (Int.tmod (w64 (i1 + 2)) i0)) 1))) =
  (loopH (eB A73v8 (C21 u) u) N62v3 m (s62v3 n0 f0 i0 (w64 (i1 + 1))) k) := by kernel_rfl
theorem t62v4 :
  loopN (eB A73v3 (C21 u) u) N62v2 u (s62v7 n0 f0 i0 i1) k =
  L62v2 u n0 f0 i0 i1 (f0 i1.toNat 0).int (f0 i1.toNat 1).int (CV.int (f0 (Int.toNat (Int.tmod (w64 (i1 + 1)) i0)) 0)) (CV.int (f0 (Int.toNat (Int.tmod (w64 (i1 + 1)) i0)) 1)) (CV.int (f0 (Int.toNat (Int.tmod (w64 (i1 + 2)) i0)) 0)) (CV.int (f0 (Int.toNat (Int.tmod (w64 (i1 + 2)) i0)) 1)) u (w64 (i1 + 2)) (k .ret (s62v1 (f0 i1.toNat 0).int (f0 i1.toNat 1).int (CV.int (f0 (Int.toNat (Int.tmod (w64 (i1 + 1)) i0)) 0)) (CV.int (f0 (Int.toNat (Int.tmod (w64 (i1 + 1)) i0)) 1)) (CV.int (f0 (Int.toNat (Int.tmod (w64 (i1 + 2)) i0)) 0)) (CV.int (f0 (Int.toNat (Int.tmod (w64 (i1 + 2)) i0)) 1)))) (k (.exit 2) (s62v2 n0 f0 i0 i1 (f0 i1.toNat 0).int (f0 i1.toNat 1).int (CV.int (f0 (Int.toNat (Int.tmod (w64 (i1 + 1)) i0)) 0)) (CV.int (f0 (Int.toNat (Int.tmod (w64 (i1 + 1)) i0)) 1)) (CV.int (f0 (Int.toNat (Int.tmod (w64 (i1 + 2)) i0)) 0)) (CV.int (f0 (Int.toNat (Int.tmod (w64 (i1 + 2)) i0)) 1)))) :=
 Eq.trans (loopN_at (by kernel_rfl)) (q62v2 ..)
theorem g62v5 :
  (kBlk 2 (kBlk 1 (kSeq (C21 u) u (2 :: (rl 4 5 (rl 15 82 []))) A73v6 (kLoop (eB A73v8 (C21 u) u) N62v3 m k)))) .ret (s62v1 (f0 i0.toNat 0).int (f0 i0.toNat 1).int (CV.int (f0 (Int.toNat (Int.tmod (w64 (i0 + 1)) i1)) 0)) (CV.int (f0 (Int.toNat (Int.tmod (w64 (i0 + 1)) i1)) 1)) (CV.int (f0 (Int.toNat (Int.tmod (w64 (i0 + 2)) i1)) 0)) (CV.int (f0 (Int.toNat (Int.tmod (w64 (i0 + 2)) i1)) 1))) =
  (k .ret (s62v5 (f0 i0.toNat 0).int (f0 i0.toNat 1).int (CV.int (f0 (Int.toNat (Int.tmod (w64 (i0 + 1)) i1)) 0)) (CV.int (f0 (Int.toNat (Int.tmod (w64 (i0 + 1)) i1)) 1)) (CV.int (f0 (Int.toNat (Int.tmod (w64 (i0 + 2)) i1)) 0)) (CV.int (f0 (Int.toNat (Int.tmod (w64 (i0 + 2)) i1)) 1)))) := by kernel_rfl
theorem g62v6 :
  (kBlk 2 (kBlk 1 (kSeq (C21 u) u (2 :: (rl 4 5 (rl 15 82 []))) A73v6 (kLoop (eB A73v8 (C21 u) u) N62v3 m k)))) (.exit 2) (s62v2 n0 f0 i0 i1 (f0 i1.toNat 0).int (f0 i1.toNat 1).int (CV.int (f0 (Int.toNat (Int.tmod (w64 (i1 + 1)) i0)) 0)) (CV.int (f0 (Int.toNat (Int.tmod (w64 (i1 + 1)) i0)) 1)) (CV.int (f0 (Int.toNat (Int.tmod (w64 (i1 + 2)) i0)) 0)) (CV.int (f0 (Int.toNat (Int.tmod (w64 (i1 + 2)) i0)) 1))) =
  (loopH (eB A73v8 (C21 u) u) N62v3 m (s62v3 n0 f0 i0 (w64 (i1 + 1))) k) := by kernel_rfl
theorem q62v3 : ∀ (m : Nat) (x0 : Int),
  loopH (eB A73v8 (C21 u) u) N62v3 m (s62v3 n0 f0 i0 x0) k = L62v3 u n0 f0 i0 m x0 (fun x1 x2 x3 x4 => k .ret (s62v4 x1 x2 x3 x4)) (fun x5 x6 x7 x8 x9 xA => k .ret (s62v5 x5 x6 x7 x8 x9 xA)) (k (.exit 0) s62v6)
 | 0,_ => rfl
 | m + 1,x0 => by
  rw [r62v3]
  simp only [L62v3,q62v3 m,t62v1,g62v2,g62v3,t62v4,g62v5,g62v6]
def F62 (x0 : Nat) (x1 : FF) : Option (Bool) :=
 (L62v3 u x0 x1 (Int.ofNat x0) u 0
  (fun x2 x3 x4 x5 => (some false))
  (fun x6 x7 x8 x9 xA xB => (some false))
  (some true))
def s62v8 : St := ⟨[.x (.c (ro kP n0 f0)),uu,vxb false,vxi (Int.ofNat n0),uu,uu,uu,uu,uu,.x (.c (ro kP n0 f0)),vxi (Int.ofNat n0),.x (.c (ro kP n0 f0)),vxi (Int.ofNat n0),vxi 0,uu,uu,uu,uu,uu,uu,uu,uu,uu,uu,uu,uu,uu,uu,uu,uu,uu,uu,uu,uu,uu,uu,uu,uu,uu,uu,uu,uu,uu,uu,uu,uu,uu,uu,uu,uu,uu,uu,uu,uu,uu,uu,uu,uu,uu,uu,uu,uu,uu,uu,uu,uu,uu,uu,uu,uu,uu,uu,uu,uu,uu,uu,uu,uu,uu,uu,uu,uu,uu,uu,uu,uu,uu,uu,uu,uu,uu,uu,uu,uu,uu,uu,uu,uu],[]⟩
theorem t62v7 :
  loopN (eB A73v8 (C21 u) u) N62v3 u (s62v8 n0 f0) k =
  L62v3 u n0 f0 (Int.ofNat n0) u 0 (fun x0 x1 x2 x3 => k .ret (s62v4 x0 x1 x2 x3)) (fun x4 x5 x6 x7 x8 x9 => k .ret (s62v5 x4 x5 x6 x7 x8 x9)) (k (.exit 0) s62v6) :=
 Eq.trans (loopN_at (by kernel_rfl)) (q62v3 ..)
theorem g62v8 :
  (kBlk 0 (kSeq (C21 u) u (2 :: (rl 4 5 (rl 11 87 []))) A73v9 (finish A73))) .ret (s62v4 i0 i1 i2 i3) =
  (some [.v (.b false)]) := by kernel_rfl
theorem g62v9 :
  (kBlk 0 (kSeq (C21 u) u (2 :: (rl 4 5 (rl 11 87 []))) A73v9 (finish A73))) .ret (s62v5 i0 i1 i2 i3 i4 i5) =
  (some [.v (.b false)]) := by kernel_rfl
theorem g62v10 :
  (kBlk 0 (kSeq (C21 u) u (2 :: (rl 4 5 (rl 11 87 []))) A73v9 (finish A73))) (.exit 0) s62v6 =
  (some [.v (.b true)]) := by kernel_rfl
theorem e62 : evalF (C21 u) u A73 [.v (ro kP n0 f0)] = ob (F62 u n0 f0) fun t => some [.v (.b t)] := Eq.trans (b := (loopN (eB A73v8 (C21 u) u) N62v3 u (s62v8 n0 f0) (kBlk 0 (kSeq (C21 u) u (2 :: (rl 4 5 (rl 11 87 []))) A73v9 (finish A73))))) (by kernel_rfl) (by
 simp only [F62,ob_bif,ob_ob,ob_none,ob_some,nl62v3,t62v7,g62v8,g62v9,g62v10])
def O62 : Ora := mkO (q1 (av (cL kP))) (fun x => F62 u x.1 x.2) fun t => [.v (.b t)]
theorem d62 : DO (O62 u) (C21 u) 73 A73 := dO u (fun x => by exact e62 u x.1 x.2)
def C22 : Oracle := (C21 u).add 73 (fun _ => true) (O62 u)
def A74v1 : AC := (.seq (.block 1
 (.seq (.region 4 [mv 11 9,o1 12 (.indexAddr 47 41 2 (tm 7) (tm 9)),o1 13 (ln 41 2 12),o1 5 (.alloc 0 41 [vci 0,vci 0]),o1 4 (sg 11),o0 (.store 41 2 (tm 5) (tm 13))] 1 none) []
  (.seq (.region 5 [mv 14 0,mv 15 4,o1 16 (bk .add 3 15 1),mv 17 0,o1 18 (.len 47 false (tm 17)),o1 19 (bt .rem 3 16 18),o1 20 (.indexAddr 47 41 2 (tm 14) (tm 19)),o1 21 (ln 41 2 20),o1 6 (.alloc 0 41 [vci 0,vci 0]),o0 (.store 41 2 (tm 6) (tm 21))] 1 none) []
  (.region 6 [mv 22 3,o1 23 (fa 41 5 0 0),o1 24 (lo 3 23),o1 25 (fa 41 6 1 1),o1 26 (lo 3 25),o1 27 (bt .mul 3 24 26),o1 28 (fa 41 6 0 0),o1 29 (lo 3 28),o1 30 (fa 41 5 1 1),o1 31 (lo 3 30),o1 32 (bt .mul 3 29 31),o1 33 (bt .sub 3 27 32),o1 34 (bt .add 3 22 33),o1 3 (sg 34)] 0 none)))) []
 (.region 7 [o1 35 (bk .add 3 9 1),mv 9 35] 0 none))
def A74v2 : AC := (.seq (.region 3 [o1 10 (bt .lss 3 9 8)] 0 none) []
 (.seq (.cond (tm 10)
 .skip
 (.exit 0 (0 :: 1 :: 2 :: (rl 4 33 [])))) []
 A74v1))
def A74v3 : AC := (.seq (.region 8 [mv 36 3,o1 2 (sg 36)] 0 none) []
 (.ret (0 :: 1 :: (rl 3 34 []))))
def A74 : AF := ⟨37,[.tmp 2],
 (.seq (.region 0 [o1 2 (sk 0)] 0 none) []
 (.seq (.region 1 [o1 3 (sk 0)] 0 none) []
 (.seq (.seq (.region 2 [mv 7 0,o1 8 (.len 47 false (tm 7)),o1 9 (.move (ic 0))] 0 none) []
 (.block 0
 (.loop [] (1 :: 2 :: 4 :: 5 :: 6 :: (rl 10 27 []))
  A74v2))) (rl 4 32 [])
 A74v3)))⟩
def N63v1 : St → Option St := nN 0 (1 :: 2 :: 4 :: 5 :: 6 :: (rl 10 27 []))
def s63v0 : St := ⟨(.x (.c (ro kP n0 f0)) :: .u :: .u :: vxi i0 :: (us 3 (.x (.c (ro kP n0 f0)) :: vxi i1 :: vxi i2 :: (us 27 [])))),[]⟩
def s63v1 : St := ⟨(us 3 (vxi i0 :: (us 33 []))),[]⟩
def L63v1 {ρ : Type} (u : Nat) (x0 : Nat) (x1 : FF) (x2 : Int) : Nat → Int → Int → (Int → Option ρ) → Option ρ
 | 0,_,_,_ => none
 | m + 1,x3,x4,k0 =>
  (bif (decide (x4 < x2)) then (bif (inb x4 x0) then (bif ((Int.ofNat x0) == 0) then none else (bif (inb (Int.tmod (w64 (x4 + 1)) (Int.ofNat x0)) x0) then (L63v1 u x0 x1 x2 m (w64 (x3 + (w64 ((w64 ((x1 x4.toNat 0).int * (CV.int (x1 (Int.toNat (Int.tmod (w64 (x4 + 1)) (Int.ofNat x0))) 1)))) - (w64 ((CV.int (x1 (Int.toNat (Int.tmod (w64 (x4 + 1)) (Int.ofNat x0))) 0)) * (x1 x4.toNat 1).int)))))) (w64 (x4 + 1)) k0) else none)) else none) else (k0 x3))
theorem nl63v1 : ∀ (m : Nat) (x0 x1 : Int) (k0 : Int → Option ρ),ob (L63v1 u n0 f0 i0 m x0 x1 k0) ng = L63v1 u n0 f0 i0 m x0 x1 (fun x2 => ob (k0 x2) ng)
 | 0,_,_,_ => rfl
 | m + 1,x0,x1,k0 => by
  simp only [L63v1,ob_bif,ob_ob,ob_none,nl63v1 m]
theorem r63v1 :
  loopH (eB A74v2 (C22 u) u) N63v1 (m + 1) (s63v0 n0 f0 i1 i0 i2) k =
  (bif (decide (i2 < i0)) then (bif (inb i2 n0) then (bif ((Int.ofNat n0) == 0) then none else (bif (inb (Int.tmod (w64 (i2 + 1)) (Int.ofNat n0)) n0) then (loopH (eB A74v2 (C22 u) u) N63v1 m (s63v0 n0 f0 (w64 (i1 + (w64 ((w64 ((f0 i2.toNat 0).int * (CV.int (f0 (Int.toNat (Int.tmod (w64 (i2 + 1)) (Int.ofNat n0))) 1)))) - (w64 ((CV.int (f0 (Int.toNat (Int.tmod (w64 (i2 + 1)) (Int.ofNat n0))) 0)) * (f0 i2.toNat 1).int)))))) i0 (w64 (i2 + 1))) k) else none)) else none) else (k (.exit 0) (s63v1 i1))) := by kernel_rfl
theorem q63v1 : ∀ (m : Nat) (x0 x1 : Int),
  loopH (eB A74v2 (C22 u) u) N63v1 m (s63v0 n0 f0 x0 i0 x1) k = L63v1 u n0 f0 i0 m x0 x1 (fun x2 => k (.exit 0) (s63v1 x2))
 | 0,_,_ => rfl
 | m + 1,x0,x1 => by
  rw [r63v1]
  simp only [L63v1,q63v1 m]
def F63 (x0 : Nat) (x1 : FF) : Option (Int) :=
 (L63v1 u x0 x1 (Int.ofNat x0) u 0 0
  (fun x2 => (some x2)))
def s63v2 : St := ⟨[.x (.c (ro kP n0 f0)),uu,vxi 0,vxi 0,uu,uu,uu,.x (.c (ro kP n0 f0)),vxi (Int.ofNat n0),vxi 0,uu,uu,uu,uu,uu,uu,uu,uu,uu,uu,uu,uu,uu,uu,uu,uu,uu,uu,uu,uu,uu,uu,uu,uu,uu,uu,uu],[]⟩
theorem t63v1 :
  loopN (eB A74v2 (C22 u) u) N63v1 u (s63v2 n0 f0) k =
  L63v1 u n0 f0 (Int.ofNat n0) u 0 0 (fun x0 => k (.exit 0) (s63v1 x0)) :=
 Eq.trans (loopN_at (by kernel_rfl)) (q63v1 ..)
theorem g63v2 :
  (kBlk 0 (kSeq (C22 u) u (rl 4 32 []) A74v3 (finish A74))) (.exit 0) (s63v1 i0) =
  (some [.v (vi i0)]) := by kernel_rfl
theorem e63 : evalF (C22 u) u A74 [.v (ro kP n0 f0)] = ob (F63 u n0 f0) fun t => some [.v (vi t)] := Eq.trans (b := (loopN (eB A74v2 (C22 u) u) N63v1 u (s63v2 n0 f0) (kBlk 0 (kSeq (C22 u) u (rl 4 32 []) A74v3 (finish A74))))) (by kernel_rfl) (by
 simp only [F63,ob_bif,ob_ob,ob_none,ob_some,nl63v1,t63v1,g63v2])
def O63 : Ora := mkO (q1 (av (cL kP))) (fun x => F63 u x.1 x.2) fun t => [.v (vi t)]
theorem d63 : DO (O63 u) (C22 u) 74 A74 := dO u (fun x => by exact e63 u x.1 x.2)
def C23 : Oracle := (C22 u).add 74 (fun _ => true) (O63 u)
def A46v1 : AC := (.seq (.region 9 [o1 2 (sk 0)] 0 none) []
 (.ret (0 :: 1 :: (rl 3 20 []))))
def A46 : AF := ⟨23,[.tmp 2],
 (.seq (.region 0 [o1 2 (sk 0)] 0 none) []
 (.seq (.block 0
 (.seq (.region 1 [mv 4 0,o1 5 (.len 47 false (tm 4)),o1 6 (bk .lss 3 5 3),o1 3 (sg 6)] 0 none) []
  (.cond (tm 3)
  (.seq (.region 2 [o1 2 (sk 3)] 0 none) []
   (.ret (0 :: 1 :: (rl 3 20 []))))
  (.seq (.region 3 [mv 8 0,o1 9 (.len 47 false (tm 8)),o1 10 (bk .gtr 3 9 32),o1 7 (sg 10)] 0 none) []
   (.cond (tm 7)
   (.seq (.region 4 [o1 2 (sk 4)] 0 none) []
    (.ret (0 :: 1 :: (rl 3 20 []))))
   (.seq (.region 5 [mv 12 0,o1 13 (.call 54 [(tm 12),(.func 72)] [47,86] .snap),o1 11 (sg 13)] 0 none) []
    (.cond (tm 11)
    (.seq (.region 6 [o1 2 (sk 9)] 0 none) []
     (.ret (0 :: 1 :: (rl 3 20 []))))
    (.seq (.region 7 [mv 15 0,o1 16 (cs 73 [15] [47]),o1 17 (.unOp .not 4 (tm 16)),mv 18 17,og 19 (.move (tm 0)) 18 false,og 20 (cs 74 [19] [47]) 18 false,og 21 (bk .eql 3 20 0) 18 false,o1 22 (pa 18 21),o1 14 (sg 22)] 0 none) []
     (.cond (tm 14)
     (.seq (.region 8 [o1 2 (sk 17)] 0 none) []
      (.ret (0 :: 1 :: (rl 3 20 []))))
     .skip))))))))) (rl 2 21 [])
 A46v1))⟩
def F33 (x0 : Nat) (x1 : FF) : Option (Int) :=
 (bif (decide ((Int.ofNat x0) < 3)) then (some 3) else (bif (decide ((Int.ofNat x0) > 32)) then (some 4) else (ob (F50 u x0 x1) fun x2 => (bif x2 then (some 9) else (ob (F62 u x0 x1) fun x3 => (bif ((!x3) == false) then (ob (F63 u x0 x1) fun x4 => (bif (x4 == 0) then (some 17) else (some 0))) else (some 17)))))))
theorem e33 : evalF (C23 u) u A46 [.v (ro kP n0 f0)] = ob (F33 u n0 f0) fun t => some [.v (vi t)] := Eq.trans (b := (bif (decide ((Int.ofNat n0) < 3)) then (some [.v (vi 3)]) else (bif (decide ((Int.ofNat n0) > 32)) then (some [.v (vi 4)]) else (ob (F50 u n0 f0) fun x0 => (bif x0 then (some [.v (vi 9)]) else (ob (F62 u n0 f0) fun x1 => (bif ((!x1) == false) then (ob (F63 u n0 f0) fun x2 => (bif (x2 == 0) then (some [.v (vi 17)]) else (some [.v (vi 0)]))) else (some [.v (vi 17)])))))))) (by kernel_rfl) (by
 simp only [F33,ob_bif,ob_ob,ob_none,ob_some])
def O33 : Ora := mkO (q1 (av (cL kP))) (fun x => F33 u x.1 x.2) fun t => [.v (vi t)]
theorem d33 : DO (O33 u) (C23 u) 46 A46 := dO u (fun x => by exact e33 u x.1 x.2)
def C24 : Oracle := (C23 u).add 46 (fun _ => true) (O33 u)
def A47v1 : AC := (.seq (.region 3 [mv 6 0,o1 7 (cs 74 [6] [47]),o1 2 (sg 7)] 0 none) []
 (.ret (0 :: 1 :: (rl 3 5 []))))
def A47 : AF := ⟨8,[.tmp 2],
 (.seq (.region 0 [o1 2 (sk 0)] 0 none) []
 (.seq (.seq (.region 1 [mv 3 0,o1 4 (cs 46 [3] [47]),o1 5 (bk .neq 31 4 0)] 0 none) []
 (.cond (tm 5)
 (.seq (.region 2 [o1 2 (sk 0)] 0 none) []
  (.ret (0 :: 1 :: (rl 3 5 []))))
 .skip)) (rl 2 4 [])
 A47v1))⟩
def F34 (x0 : Nat) (x1 : FF) : Option (Int) :=
 (ob (F33 u x0 x1) fun x2 => (bif (x2 != 0) then (some 0) else (ob (F63 u x0 x1) fun x3 => (some x3))))
theorem e34 : evalF (C24 u) u A47 [.v (ro kP n0 f0)] = ob (F34 u n0 f0) fun t => some [.v (vi t)] := Eq.trans (b := (ob (F33 u n0 f0) fun x0 => (bif (x0 != 0) then (some [.v (vi 0)]) else (ob (F63 u n0 f0) fun x1 => (some [.v (vi x1)]))))) (by kernel_rfl) (by
 simp only [F34,ob_bif,ob_ob,ob_none,ob_some])
def O34 : Ora := mkO (q1 (av (cL kP))) (fun x => F34 u x.1 x.2) fun t => [.v (vi t)]
theorem d34 : DO (O34 u) (C24 u) 47 A47 := dO u (fun x => by exact e34 u x.1 x.2)
def C25 : Oracle := (C24 u).add 47 (fun _ => true) (O34 u)
def A69 : AF := ⟨30,[.tmp 6],
 (.seq (.region 0 [o1 3 (bx 0 41 0),o1 4 (bx 1 41 1),o1 5 (bx 2 41 2),o1 6 (sk 0)] 3 none) []
 (.seq (.region 1 [o1 7 (fa 41 4 0 0),o1 8 (lo 3 7),o1 9 (fa 41 3 0 0),o1 10 (lo 3 9),o1 11 (bt .sub 3 8 10),o1 12 (fa 41 5 1 1),o1 13 (lo 3 12),o1 14 (fa 41 3 1 1),o1 15 (lo 3 14),o1 16 (bt .sub 3 13 15),o1 17 (bt .mul 3 11 16),o1 18 (fa 41 4 1 1),o1 19 (lo 3 18),o1 20 (fa 41 3 1 1),o1 21 (lo 3 20),o1 22 (bt .sub 3 19 21),o1 23 (fa 41 5 0 0),o1 24 (lo 3 23),o1 25 (fa 41 3 0 0),o1 26 (lo 3 25),o1 27 (bt .sub 3 24 26),o1 28 (bt .mul 3 22 27),o1 29 (bt .sub 3 17 28),o1 6 (sg 29)] 0 none) []
 (.ret (rl 0 6 (rl 7 23 [])))))⟩
def F75 (u : Nat) (x0 x1 x2 x3 x4 x5 : Int) : Option (Int) :=
 (some (w64 ((w64 ((w64 (x2 - x0)) * (w64 (x5 - x1)))) - (w64 ((w64 (x3 - x1)) * (w64 (x4 - x0)))))))
theorem e75 : evalF (C25 u) u A69 [.agg [(vi i0),(vi i1)],.agg [(vi i2),(vi i3)],.agg [(vi i4),(vi i5)]] = ob (F75 u i0 i1 i2 i3 i4 i5) fun t => some [.v (vi t)] := Eq.trans (b := (some [.v (vi (w64 ((w64 ((w64 (i2 - i0)) * (w64 (i5 - i1)))) - (w64 ((w64 (i3 - i1)) * (w64 (i4 - i0)))))))])) (by kernel_rfl) (by
 simp only [F75,ob_bif,ob_ob,ob_none,ob_some])
def O75 : Ora := mkO (qc (ag (tc ci (t1 ci))) (qc (ag (tc ci (t1 ci))) (q1 (ag (tc ci (t1 ci)))))) (fun x => F75 u x.1.1 x.1.2 x.2.1.1 x.2.1.2 x.2.2.1 x.2.2.2) fun t => [.v (vi t)]
theorem d75 : DO (O75 u) (C25 u) 69 A69 := dO u (fun x => by exact e75 u x.1.1 x.1.2 x.2.1.1 x.2.1.2 x.2.2.1 x.2.2.2)
def C26 : Oracle := (C25 u).add 69 (fun _ => true) (O75 u)
def A68 : AF := ⟨6,[.tmp 2],
 (.seq (.region 0 [o1 2 (sk 0)] 0 none) []
 (.seq (.region 1 [mv 3 0,o1 4 (.mm true [(tm 3),(ic (-1))] [3,3]),o1 5 (.mm false [(tm 4),(ic 1)] [3,3]),o1 2 (sg 5)] 0 none) []
 (.ret [0,1,3,4,5])))⟩
def F74 (u : Nat) (x0 : Int) : Option (Int) :=
 (some (if 1 < (if (-1) > x0 then (-1) else x0) then 1 else (if (-1) > x0 then (-1) else x0)))
theorem e74 : evalF (C26 u) u A68 [.v (vi i0)] = ob (F74 u i0) fun t => some [.v (vi t)] := Eq.trans (b := (some [.v (vi (if 1 < (if (-1) > i0 then (-1) else i0) then 1 else (if (-1) > i0 then (-1) else i0)))])) (by kernel_rfl) (by
 simp only [F74,ob_bif,ob_ob,ob_none,ob_some])
def O74 : Ora := mkO (q1 (av ci)) (fun x => F74 u x) fun t => [.v (vi t)]
theorem d74 : DO (O74 u) (C26 u) 68 A68 := dO u (fun x => by exact e74 u x)
def C27 : Oracle := (C26 u).add 68 (fun _ => true) (O74 u)
def A70 : AF := ⟨45,[.tmp 6],
 (.seq (.region 0 [o1 3 (bx 0 41 0),o1 4 (bx 1 41 1),o1 5 (bx 2 41 2),o1 6 (sb false)] 3 none) []
 (.seq (.region 1 [o1 7 (fa 41 5 0 0),o1 8 (lo 3 7),o1 9 (fa 41 3 0 0),o1 10 (lo 3 9),o1 11 (fa 41 4 0 0),o1 12 (lo 3 11),o1 13 (.mm false [(tm 10),(tm 12)] [3,3]),o1 14 (bt .geq 3 8 13),mv 15 14,og 16 (fa 41 5 0 0) 15 true,og 17 (lo 3 16) 15 true,og 18 (fa 41 3 0 0) 15 true,og 19 (lo 3 18) 15 true,og 20 (fa 41 4 0 0) 15 true,og 21 (lo 3 20) 15 true,og 22 (.mm true [(tm 19),(tm 21)] [3,3]) 15 true,og 23 (bt .leq 3 17 22) 15 true,o1 24 (po 15 23),mv 25 24,og 26 (fa 41 5 1 1) 25 true,og 27 (lo 3 26) 25 true,og 28 (fa 41 3 1 1) 25 true,og 29 (lo 3 28) 25 true,og 30 (fa 41 4 1 1) 25 true,og 31 (lo 3 30) 25 true,og 32 (.mm false [(tm 29),(tm 31)] [3,3]) 25 true,og 33 (bt .geq 3 27 32) 25 true,o1 34 (po 25 33),mv 35 34,og 36 (fa 41 5 1 1) 35 true,og 37 (lo 3 36) 35 true,og 38 (fa 41 3 1 1) 35 true,og 39 (lo 3 38) 35 true,og 40 (fa 41 4 1 1) 35 true,og 41 (lo 3 40) 35 true,og 42 (.mm true [(tm 39),(tm 41)] [3,3]) 35 true,og 43 (bt .leq 3 37 42) 35 true,o1 44 (po 35 43),o1 6 (sg 44)] 0 none) []
 (.ret (rl 0 6 (rl 7 38 [])))))⟩
def F76 (u : Nat) (x0 x1 x2 x3 x4 x5 : Int) : Option (Bool) :=
 (bif ((decide (x4 ≥ (if x2 < x0 then x2 else x0))) == true) then (bif ((decide (x4 ≤ (if x2 > x0 then x2 else x0))) == true) then (bif ((decide (x5 ≥ (if x3 < x1 then x3 else x1))) == true) then (some (decide (x5 ≤ (if x3 > x1 then x3 else x1)))) else (some false)) else (some false)) else (some false))
theorem e76 : evalF (C27 u) u A70 [.agg [(vi i0),(vi i1)],.agg [(vi i2),(vi i3)],.agg [(vi i4),(vi i5)]] = ob (F76 u i0 i1 i2 i3 i4 i5) fun t => some [.v (.b t)] := Eq.trans (b := (bif ((decide (i4 ≥ (if i2 < i0 then i2 else i0))) == true) then (bif ((decide (i4 ≤ (if i2 > i0 then i2 else i0))) == true) then (bif ((decide (i5 ≥ (if i3 < i1 then i3 else i1))) == true) then (some [.v (.b (decide (i5 ≤ (if i3 > i1 then i3 else i1))))]) else (some [.v (.b false)])) else (some [.v (.b false)])) else (some [.v (.b false)]))) (by kernel_rfl) (by
 simp only [F76,ob_bif,ob_ob,ob_none,ob_some])
def O76 : Ora := mkO (qc (ag (tc ci (t1 ci))) (qc (ag (tc ci (t1 ci))) (q1 (ag (tc ci (t1 ci)))))) (fun x => F76 u x.1.1 x.1.2 x.2.1.1 x.2.1.2 x.2.2.1 x.2.2.2) fun t => [.v (.b t)]
theorem d76 : DO (O76 u) (C27 u) 70 A70 := dO u (fun x => by exact e76 u x.1.1 x.1.2 x.2.1.1 x.2.1.2 x.2.2.1 x.2.2.2)
def C28 : Oracle := (C27 u).add 70 (fun _ => true) (O76 u)
def A42v1 : AC := (.seq (.region 5 [mv 43 9,o1 44 (bk .eql 3 43 0),mv 45 44,og 46 (ln 41 2 4) 45 true,og 47 (ln 41 2 5) 45 true,og 48 (ln 41 2 6) 45 true,og 49 (cs 70 [46,47,48] [41,41,41]) 45 true,o1 50 (po 45 49),mv 51 50,og 52 (.move (tm 10)) 51 false,og 53 (bk .eql 3 52 0) 51 false,og 54 (.move (tm 53)) 51 false,og 55 (ln 41 2 4) 54 true,og 56 (ln 41 2 5) 54 true,og 57 (ln 41 2 7) 54 true,og 58 (cs 70 [55,56,57] [41,41,41]) 54 true,og 59 (po 54 58) 51 false,o1 60 (pa 51 59),mv 61 60,og 62 (.move (tm 11)) 61 false,og 63 (bk .eql 3 62 0) 61 false,og 64 (.move (tm 63)) 61 false,og 65 (ln 41 2 6) 64 true,og 66 (ln 41 2 7) 64 true,og 67 (ln 41 2 4) 64 true,og 68 (cs 70 [65,66,67] [41,41,41]) 64 true,og 69 (po 64 68) 61 false,o1 70 (pa 61 69),mv 71 70,og 72 (.move (tm 12)) 71 false,og 73 (bk .eql 3 72 0) 71 false,og 74 (.move (tm 73)) 71 false,og 75 (ln 41 2 6) 74 true,og 76 (ln 41 2 7) 74 true,og 77 (ln 41 2 5) 74 true,og 78 (cs 70 [75,76,77] [41,41,41]) 74 true,og 79 (po 74 78) 71 false,o1 80 (pa 71 79),o1 8 (sg 80)] 0 none) []
 (.ret (rl 0 8 (rl 9 72 []))))
def A42 : AF := ⟨81,[.tmp 8],
 (.seq (.region 0 [o1 4 (bx 0 41 0),o1 5 (bx 1 41 1),o1 6 (bx 2 41 2),o1 7 (bx 3 41 3),o1 8 (sb false)] 4 none) []
 (.seq (.region 1 [o1 13 (ln 41 2 4),o1 14 (ln 41 2 5),o1 15 (ln 41 2 6),o1 16 (cs 69 [13,14,15] [41,41,41]),o1 17 (cs 68 [16] [3]),o1 18 (ln 41 2 4),o1 19 (ln 41 2 5),o1 20 (ln 41 2 7),o1 21 (cs 69 [18,19,20] [41,41,41]),o1 22 (cs 68 [21] [3]),o1 9 (sg 17),o1 10 (sg 22)] 0 (some [[],[],[],[0,1,2],(rl 0 4 []),[],[],[],(rl 0 8 []),(rl 0 9 []),(rl 0 10 []),(rl 0 11 [])])) []
 (.seq (.region 2 [o1 23 (ln 41 2 6),o1 24 (ln 41 2 7),o1 25 (ln 41 2 4),o1 26 (cs 69 [23,24,25] [41,41,41]),o1 27 (cs 68 [26] [3]),o1 28 (ln 41 2 6),o1 29 (ln 41 2 7),o1 30 (ln 41 2 5),o1 31 (cs 69 [28,29,30] [41,41,41]),o1 32 (cs 68 [31] [3]),o1 11 (sg 27),o1 12 (sg 32)] 0 (some [[],[],[],[0,1,2],(rl 0 4 []),[],[],[],(rl 0 8 []),(rl 0 9 []),(rl 0 10 []),(rl 0 11 [])])) []
 (.seq (.seq (.region 3 [mv 33 9,mv 34 10,o1 35 (bt .mul 3 33 34),o1 36 (bk .lss 3 35 0),mv 37 36,og 38 (.move (tm 11)) 37 true,og 39 (.move (tm 12)) 37 true,og 40 (bt .mul 3 38 39) 37 true,og 41 (bk .lss 3 40 0) 37 true,o1 42 (po 37 41)] 0 none) []
 (.cond (tm 42)
 (.seq (.region 4 [o1 8 (sb true)] 0 none) []
  (.ret (rl 0 8 (rl 9 72 []))))
 .skip)) (8 :: (rl 33 10 []))
 A42v1))))⟩
def F56 (x0 x1 x2 x3 x4 x5 x6 x7 : Int) : Option (Bool) :=
 (ob (F75 u x0 x1 x2 x3 x4 x5) fun x8 => (ob (F74 u x8) fun x9 => (ob (F75 u x0 x1 x2 x3 x6 x7) fun xA => (ob (F74 u xA) fun xB => (ob (F75 u x4 x5 x6 x7 x0 x1) fun xC => (ob (F74 u xC) fun xD => (ob (F75 u x4 x5 x6 x7 x2 x3) fun xE => (ob (F74 u xE) fun xF => (bif ((decide ((w64 (x9 * xB)) < 0)) == true) then (bif (decide ((w64 (xD * xF)) < 0)) then (some true) else (bif ((x9 == 0) == true) then (ob (F76 u x0 x1 x2 x3 x4 x5) fun xG => (bif (xG == false) then (bif ((xB == 0) == true) then (ob (F76 u x0 x1 x2 x3 x6 x7) fun xH => (bif (xH == false) then (bif ((xD == 0) == true) then (ob (F76 u x4 x5 x6 x7 x0 x1) fun xI => (bif (xI == false) then (bif ((xF == 0) == true) then (ob (F76 u x4 x5 x6 x7 x2 x3) fun xJ => (some xJ)) else (some false)) else (some true))) else (bif ((xF == 0) == true) then (ob (F76 u x4 x5 x6 x7 x2 x3) fun xK => (some xK)) else (some false))) else (some true))) else (bif ((xD == 0) == true) then (ob (F76 u x4 x5 x6 x7 x0 x1) fun xL => (bif (xL == false) then (bif ((xF == 0) == true) then (ob (F76 u x4 x5 x6 x7 x2 x3) fun xM => (some xM)) else (some false)) else (some true))) else (bif ((xF == 0) == true) then (ob (F76 u x4 x5 x6 x7 x2 x3) fun xN => (some xN)) else (some false)))) else (some true))) else (bif ((xB == 0) == true) then (ob (F76 u x0 x1 x2 x3 x6 x7) fun xO => (bif (xO == false) then (bif ((xD == 0) == true) then (ob (F76 u x4 x5 x6 x7 x0 x1) fun xP => (bif (xP == false) then (bif ((xF == 0) == true) then (ob (F76 u x4 x5 x6 x7 x2 x3) fun xQ => (some xQ)) else (some false)) else (some true))) else (bif ((xF == 0) == true) then (ob (F76 u x4 x5 x6 x7 x2 x3) fun xR => (some xR)) else (some false))) else (some true))) else (bif ((xD == 0) == true) then (ob (F76 u x4 x5 x6 x7 x0 x1) fun xS => (bif (xS == false) then (bif ((xF == 0) == true) then (ob (F76 u x4 x5 x6 x7 x2 x3) fun xT => (some xT)) else (some false)) else (some true))) else (bif ((xF == 0) == true) then (ob (F76 u x4 x5 x6 x7 x2 x3) fun xU => (some xU)) else (some false)))))) else (bif ((x9 == 0) == true) then (ob (F76 u x0 x1 x2 x3 x4 x5) fun xV => (bif (xV == false) then (bif ((xB == 0) == true) then (ob (F76 u x0 x1 x2 x3 x6 x7) fun xW => (bif (xW == false) then (bif ((xD == 0) == true) then (ob (F76 u x4 x5 x6 x7 x0 x1) fun xX => (bif (xX == false) then (bif ((xF == 0) == true) then (ob (F76 u x4 x5 x6 x7 x2 x3) fun xY => (some xY)) else (some false)) else (some true))) else (bif ((xF == 0) == true) then (ob (F76 u x4 x5 x6 x7 x2 x3) fun xZ => (some xZ)) else (some false))) else (some true))) else (bif ((xD == 0) == true) then (ob (F76 u x4 x5 x6 x7 x0 x1) fun xa => (bif (xa == false) then (bif ((xF == 0) == true) then (ob (F76 u x4 x5 x6 x7 x2 x3) fun xb => (some xb)) else (some false)) else (some true))) else (bif ((xF == 0) == true) then (ob (F76 u x4 x5 x6 x7 x2 x3) fun xc => (some xc)) else (some false)))) else (some true))) else (bif ((xB == 0) == true) then (ob (F76 u x0 x1 x2 x3 x6 x7) fun xd => (bif (xd == false) then (bif ((xD == 0) == true) then (ob (F76 u x4 x5 x6 x7 x0 x1) fun xe => (bif (xe == false) then (bif ((xF == 0) == true) then (ob (F76 u x4 x5 x6 x7 x2 x3) fun xf => (some xf)) else (some false)) else (some true))) else (bif ((xF == 0) == true) then (ob (F76 u x4 x5 x6 x7 x2 x3) fun xg => (some xg)) else (some false))) else (some true))) else (bif ((xD == 0) == true) then (ob (F76 u x4 x5 x6 x7 x0 x1) fun xh => (bif (xh == false) then (bif ((xF == 0) == true) then (ob (F76 u x4 x5 x6 x7 x2 x3) fun xi => (some xi)) else (some false)) else (some true))) else (bif ((xF == 0) == true) then (ob (F76 u x4 x5 x6 x7 x2 x3) fun xj => (some xj)) else (some false))))))))))))))
theorem e56 : evalF (C28 u) u A42 [.agg [(vi i0),(vi i1)],.agg [(vi i2),(vi i3)],.agg [(vi i4),(vi i5)],.agg [(vi i6),(vi i7)]] = ob (F56 u i0 i1 i2 i3 i4 i5 i6 i7) fun t => some [.v (.b t)] := Eq.trans (b := (ob (F75 u i0 i1 i2 i3 i4 i5) fun x0 => (ob (F74 u x0) fun x1 => (ob (F75 u i0 i1 i2 i3 i6 i7) fun x2 => (ob (F74 u x2) fun x3 => (ob (F75 u i4 i5 i6 i7 i0 i1) fun x4 => (ob (F74 u x4) fun x5 => (ob (F75 u i4 i5 i6 i7 i2 i3) fun x6 => (ob (F74 u x6) fun x7 => (bif ((decide ((w64 (x1 * x3)) < 0)) == true) then (bif (decide ((w64 (x5 * x7)) < 0)) then (some [.v (.b true)]) else (bif ((x1 == 0) == true) then (ob (F76 u i0 i1 i2 i3 i4 i5) fun x8 => (bif (x8 == false) then (bif ((x3 == 0) == true) then (ob (F76 u i0 i1 i2 i3 i6 i7) fun x9 => (bif (x9 == false) then (bif ((x5 == 0) == true) then (ob (F76 u i4 i5 i6 i7 i0 i1) fun xA => (bif (xA == false) then (bif ((x7 == 0) == true) then (ob (F76 u i4 i5 i6 i7 i2 i3) fun xB => (some [.v (.b xB)])) else (some [.v (.b false)])) else (some [.v (.b true)]))) else (bif ((x7 == 0) == true) then (ob (F76 u i4 i5 i6 i7 i2 i3) fun xC => (some [.v (.b xC)])) else (some [.v (.b false)]))) else (some [.v (.b true)]))) else (bif ((x5 == 0) == true) then (ob (F76 u i4 i5 i6 i7 i0 i1) fun xD => (bif (xD == false) then (bif ((x7 == 0) == true) then (ob (F76 u i4 i5 i6 i7 i2 i3) fun xE => (some [.v (.b xE)])) else (some [.v (.b false)])) else (some [.v (.b true)]))) else (bif ((x7 == 0) == true) then (ob (F76 u i4 i5 i6 i7 i2 i3) fun xF => (some [.v (.b xF)])) else (some [.v (.b false)])))) else (some [.v (.b true)]))) else (bif ((x3 == 0) == true) then (ob (F76 u i0 i1 i2 i3 i6 i7) fun xG => (bif (xG == false) then (bif ((x5 == 0) == true) then (ob (F76 u i4 i5 i6 i7 i0 i1) fun xH => (bif (xH == false) then (bif ((x7 == 0) == true) then (ob (F76 u i4 i5 i6 i7 i2 i3) fun xI => (some [.v (.b xI)])) else (some [.v (.b false)])) else (some [.v (.b true)]))) else (bif ((x7 == 0) == true) then (ob (F76 u i4 i5 i6 i7 i2 i3) fun xJ => (some [.v (.b xJ)])) else (some [.v (.b false)]))) else (some [.v (.b true)]))) else (bif ((x5 == 0) == true) then (ob (F76 u i4 i5 i6 i7 i0 i1) fun xK => (bif (xK == false) then (bif ((x7 == 0) == true) then (ob (F76 u i4 i5 i6 i7 i2 i3) fun xL => (some [.v (.b xL)])) else (some [.v (.b false)])) else (some [.v (.b true)]))) else (bif ((x7 == 0) == true) then (ob (F76 u i4 i5 i6 i7 i2 i3) fun xM => (some [.v (.b xM)])) else (some [.v (.b false)])))))) else (bif ((x1 == 0) == true) then (ob (F76 u i0 i1 i2 i3 i4 i5) fun xN => (bif (xN == false) then (bif ((x3 == 0) == true) then (ob (F76 u i0 i1 i2 i3 i6 i7) fun xO => (bif (xO == false) then (bif ((x5 == 0) == true) then (ob (F76 u i4 i5 i6 i7 i0 i1) fun xP => (bif (xP == false) then (bif ((x7 == 0) == true) then (ob (F76 u i4 i5 i6 i7 i2 i3) fun xQ => (some [.v (.b xQ)])) else (some [.v (.b false)])) else (some [.v (.b true)]))) else (bif ((x7 == 0) == true) then (ob (F76 u i4 i5 i6 i7 i2 i3) fun xR => (some [.v (.b xR)])) else (some [.v (.b false)]))) else (some [.v (.b true)]))) else (bif ((x5 == 0) == true) then (ob (F76 u i4 i5 i6 i7 i0 i1) fun xS => (bif (xS == false) then (bif ((x7 == 0) == true) then (ob (F76 u i4 i5 i6 i7 i2 i3) fun xT => (some [.v (.b xT)])) else (some [.v (.b false)])) else (some [.v (.b true)]))) else (bif ((x7 == 0) == true) then (ob (F76 u i4 i5 i6 i7 i2 i3) fun xU => (some [.v (.b xU)])) else (some [.v (.b false)])))) else (some [.v (.b true)]))) else (bif ((x3 == 0) == true) then (ob (F76 u i0 i1 i2 i3 i6 i7) fun xV => (bif (xV == false) then (bif ((x5 == 0) == true) then (ob (F76 u i4 i5 i6 i7 i0 i1) fun xW => (bif (xW == false) then (bif ((x7 == 0) == true) then (ob (F76 u i4 i5 i6 i7 i2 i3) fun xX => (some [.v (.b xX)])) else (some [.v (.b false)])) else (some [.v (.b true)]))) else (bif ((x7 == 0) == true) then (ob (F76 u i4 i5 i6 i7 i2 i3) fun xY => (some [.v (.b xY)])) else (some [.v (.b false)]))) else (some [.v (.b true)]))) else (bif ((x5 == 0) == true) then (ob (F76 u i4 i5 i6 i7 i0 i1) fun xZ => (bif (xZ == false) then (bif ((x7 == 0) == true) then (ob (F76 u i4 i5 i6 i7 i2 i3) fun xa => (some [.v (.b xa)])) else (some [.v (.b false)])) else (some [.v (.b true)]))) else (bif ((x7 == 0) == true) then (ob (F76 u i4 i5 i6 i7 i2 i3) fun xb => (some [.v (.b xb)])) else (some [.v (.b false)]))))))))))))))) (by kernel_rfl) (by
 simp only [F56,ob_bif,ob_ob,ob_none,ob_some])
def O56 : Ora := mkO (qc (ag (tc ci (t1 ci))) (qc (ag (tc ci (t1 ci))) (qc (ag (tc ci (t1 ci))) (q1 (ag (tc ci (t1 ci))))))) (fun x => F56 u x.1.1 x.1.2 x.2.1.1 x.2.1.2 x.2.2.1.1 x.2.2.1.2 x.2.2.2.1 x.2.2.2.2) fun t => [.v (.b t)]
theorem d56 : DO (O56 u) (C28 u) 42 A42 := dO u (fun x => by exact e56 u x.1.1 x.1.2 x.2.1.1 x.2.1.2 x.2.2.1.1 x.2.2.1.2 x.2.2.2.1 x.2.2.2.2)
def C29 : Oracle := (C28 u).add 42 (fun _ => true) (O56 u)
def A45v1 : AC := (.region 9 [o1 45 (bk .add 3 20 1),mv 20 45] 0 none)
def A45v2 : AC := (.seq (.block 3
 (.seq (.region 6 [mv 22 20,o1 23 (.indexAddr 47 41 2 (tm 18) (tm 20)),o1 24 (ln 41 2 23),o1 10 (.alloc 0 41 [vci 0,vci 0]),o1 9 (sg 22),o0 (.store 41 2 (tm 10) (tm 24))] 1 none) []
  (.seq (.region 7 [mv 25 2,o1 26 (ln 41 2 8),mv 27 0,mv 28 7,o1 29 (bk .add 3 28 1),mv 30 0,o1 31 (.len 47 false (tm 30)),o1 32 (bt .rem 3 29 31),o1 33 (.indexAddr 47 41 2 (tm 27) (tm 32)),o1 34 (ln 41 2 33),o1 35 (ln 41 2 10),mv 36 1,mv 37 9,o1 38 (bk .add 3 37 1),mv 39 1,o1 40 (.len 47 false (tm 39)),o1 41 (bt .rem 3 38 40),o1 42 (.indexAddr 47 41 2 (tm 36) (tm 41)),o1 43 (ln 41 2 42),o1 44 (.callv (tm 25) [(tm 26),(tm 34),(tm 35),(tm 43)] [41,41,41,41] .snap)] 0 (some [[],[],[],[],[3],[],[5],(rl 3 4 []),(rl 2 6 []),(rl 2 7 []),[],[],[],[12],[],[14],(rl 12 4 []),(rl 11 6 []),(rl 11 7 []),(rl 0 19 [])])) []
  (.cond (tm 44)
  (.seq (.region 8 [o1 6 (sb true)] 0 none) []
   (.ret (rl 0 6 (rl 7 40 []))))
  .skip)))) (6 :: 9 :: 10 :: (rl 22 23 []))
 A45v1)
def A45v3 : AC := (.seq (.region 5 [o1 21 (bt .lss 3 20 19)] 0 none) []
 (.seq (.cond (tm 21)
 .skip
 (.exit 2 (rl 3 8 (rl 14 33 [])))) []
 A45v2))
def A45v4 : AC := (.region 10 [o1 46 (bk .add 3 13 1),mv 13 46] 0 none)
def A45v5 : AC := (.seq (.block 1
 (.seq (.region 3 [mv 15 13,o1 16 (.indexAddr 47 41 2 (tm 11) (tm 13)),o1 17 (ln 41 2 16),o1 8 (.alloc 0 41 [vci 0,vci 0]),o1 7 (sg 15),o0 (.store 41 2 (tm 8) (tm 17))] 1 none) []
  (.seq (.region 4 [mv 18 1,o1 19 (.len 47 false (tm 18)),o1 20 (.move (ic 0))] 0 none) []
  (.block 2
  (.loop [] (rl 3 4 (9 :: 10 :: (rl 14 4 (rl 21 26 []))))
   A45v3))))) (rl 6 5 (rl 15 31 []))
 A45v4)
def A45v6 : AC := (.seq (.region 2 [o1 14 (bt .lss 3 13 12)] 0 none) []
 (.seq (.cond (tm 14)
 .skip
 (.exit 0 (rl 0 47 []))) []
 A45v5))
def A45v7 : AC := (.seq (.region 11 [o1 6 (sb false)] 0 none) []
 (.ret (rl 0 6 (rl 7 40 []))))
def A45 : AF := ⟨47,[.tmp 6],
 (.seq (.region 0 [o1 6 (sb false)] 0 none) []
 (.seq (.seq (.region 1 [mv 11 0,o1 12 (.len 47 false (tm 11)),o1 13 (.move (ic 0))] 0 none) []
 (.block 0
 (.loop [] (rl 3 8 (rl 14 33 []))
  A45v6))) (rl 6 41 [])
 A45v7))⟩
def N58v2 : St → Option St := nN 1 (rl 3 4 (9 :: 10 :: (rl 14 4 (rl 21 26 []))))
def s58v0 : St := ⟨(.x (.c (ro kP n0 f0)) :: .x (.c (ro kP n1 f1)) :: .x (.c (.fn 42 0 (listF []))) :: (us 4 (vxi i0 :: .x (.ptr 0 0) :: .u :: .u :: .x (.c (ro kP n0 f0)) :: vxi i1 :: vxi i0 :: (us 4 (.x (.c (ro kP n1 f1)) :: vxi i2 :: vxi i3 :: (us 26 [])))))),[.box [(vci i4),(vci i5)]]⟩
def s58v1 : St := ⟨(us 6 (vxb true :: (us 40 []))),[.box [(vci i0),(vci i1)],.box [(vci i2),(vci i3)]]⟩
def s58v2 : St := ⟨(.x (.c (ro kP n0 f0)) :: .x (.c (ro kP n1 f1)) :: .x (.c (.fn 42 0 (listF []))) :: (us 8 (.x (.c (ro kP n0 f0)) :: vxi i0 :: vxi i1 :: (us 33 [])))),[.box [(vci i2),(vci i3)]]⟩
def L58v2 {ρ : Type} (u : Nat) (x0 : Nat) (x1 : FF) (x2 : Nat) (x3 : FF) (x4 x5 x6 x7 x8 : Int) : Nat → Int → (Int → Int → Option ρ) → (Option ρ) → Option ρ
 | 0,_,_,_ => none
 | m + 1,x9,k0,k1 =>
  (bif (decide (x9 < x6)) then (bif (inb x9 x2) then (bif ((Int.ofNat x0) == 0) then none else (bif (inb (Int.tmod (w64 (x4 + 1)) (Int.ofNat x0)) x0) then (bif ((Int.ofNat x2) == 0) then none else (bif (inb (Int.tmod (w64 (x9 + 1)) (Int.ofNat x2)) x2) then (ob (F56 u x7 x8 (CV.int (x1 (Int.toNat (Int.tmod (w64 (x4 + 1)) (Int.ofNat x0))) 0)) (CV.int (x1 (Int.toNat (Int.tmod (w64 (x4 + 1)) (Int.ofNat x0))) 1)) (x3 x9.toNat 0).int (x3 x9.toNat 1).int (CV.int (x3 (Int.toNat (Int.tmod (w64 (x9 + 1)) (Int.ofNat x2))) 0)) (CV.int (x3 (Int.toNat (Int.tmod (w64 (x9 + 1)) (Int.ofNat x2))) 1))) fun xA => (bif xA then (k0 (x3 x9.toNat 0).int (x3 x9.toNat 1).int) else (L58v2 u x0 x1 x2 x3 x4 x5 x6 x7 x8 m (w64 (x9 + 1)) k0 k1))) else none)) else none)) else none) else k1)
theorem nl58v2 : ∀ (m : Nat) (x0 : Int) (k0 : Int → Int → Option ρ) (k1 : Option ρ),ob (L58v2 u n0 f0 n1 f1 i0 i1 i2 i3 i4 m x0 k0 k1) ng = L58v2 u n0 f0 n1 f1 i0 i1 i2 i3 i4 m x0 (fun x1 x2 => ob (k0 x1 x2) ng) (ob k1 ng)
 | 0,_,_,_ => rfl
 | m + 1,x0,k0,k1 => by
  simp only [L58v2,ob_bif,ob_ob,ob_none,nl58v2 m]
theorem r58v2 :
  loopH (eB A45v3 (C29 u) u) N58v2 (m + 1) (s58v0 n0 n1 f0 f1 i0 i1 i2 i5 i3 i4) k =
  (bif (decide (i5 < i2)) then (bif (inb i5 n1) then (bif ((Int.ofNat n0) == 0) then none else (bif (inb (Int.tmod (w64 (i0 + 1)) (Int.ofNat n0)) n0) then (bif ((Int.ofNat n1) == 0) then none else (bif (inb (Int.tmod (w64 (i5 + 1)) (Int.ofNat n1)) n1) then (ob (F56 u i3 i4 (CV.int (f0 (Int.toNat (Int.tmod (w64 (i0 + 1)) (Int.ofNat n0))) 0)) (CV.int (f0 (Int.toNat (Int.tmod (w64 (i0 + 1)) (Int.ofNat n0))) 1)) (f1 i5.toNat 0).int (f1 i5.toNat 1).int (CV.int (f1 (Int.toNat (Int.tmod (w64 (i5 + 1)) (Int.ofNat n1))) 0)) (CV.int (f1 (Int.toNat (Int.tmod (w64 (i5 + 1)) (Int.ofNat n1))) 1))) fun x0 => (bif x0 then (k .ret (s58v1 i3 i4 (f1 i5.toNat 0).int (f1 i5.toNat 1).int)) else (loopH (eB A45v3 (C29 u) u) N58v2 m (s58v0 n0 n1 f0 f1 i0 i1 i2 (w64 (i5 + 1)) i3 i4) k))) else none)) else none)) else none) else (k (.exit 2) (s58v2 n0 n1 f0 f1 i1 i0 i3 i4))) := by kernel_rfl
theorem q58v2 : ∀ (m : Nat) (x0 : Int),
  loopH (eB A45v3 (C29 u) u) N58v2 m (s58v0 n0 n1 f0 f1 i0 i1 i2 x0 i3 i4) k = L58v2 u n0 f0 n1 f1 i0 i1 i2 i3 i4 m x0 (fun x1 x2 => k .ret (s58v1 i3 i4 x1 x2)) (k (.exit 2) (s58v2 n0 n1 f0 f1 i1 i0 i3 i4))
 | 0,_ => rfl
 | m + 1,x0 => by
  rw [r58v2]
  simp only [L58v2,q58v2 m]
def N58v3 : St → Option St := nN 0 (rl 3 8 (rl 14 33 []))
def s58v3 : St := ⟨(.x (.c (ro kP n0 f0)) :: .x (.c (ro kP n1 f1)) :: .x (.c (.fn 42 0 (listF []))) :: (us 8 (.x (.c (ro kP n0 f0)) :: vxi i0 :: vxi i1 :: (us 33 [])))),[]⟩
def s58v4 : St := ⟨(us 6 (vxb true :: (us 40 []))),[.box [(vci i0),(vci i1)],.box [(vci i2),(vci i3)]]⟩
def s58v5 : St := ⟨(us 47 []),[]⟩
def L58v3 {ρ : Type} (u : Nat) (x0 : Nat) (x1 : FF) (x2 : Nat) (x3 : FF) (x4 : Int) : Nat → Int → (Int → Int → Int → Int → Option ρ) → (Option ρ) → Option ρ
 | 0,_,_,_ => none
 | m + 1,x5,k0,k1 =>
  (bif (decide (x5 < x4)) then (bif (inb x5 x0) then (L58v2 u x0 x1 x2 x3 x5 x4 (Int.ofNat x2) (x1 x5.toNat 0).int (x1 x5.toNat 1).int u 0
  (fun x6 x7 => (k0 (x1 x5.toNat 0).int (x1 x5.toNat 1).int x6 x7))
  (L58v3 u x0 x1 x2 x3 x4 m (w64 (x5 + 1)) k0 k1)) else none) else k1)
theorem nl58v3 : ∀ (m : Nat) (x0 : Int) (k0 : Int → Int → Int → Int → Option ρ) (k1 : Option ρ),ob (L58v3 u n0 f0 n1 f1 i0 m x0 k0 k1) ng = L58v3 u n0 f0 n1 f1 i0 m x0 (fun x1 x2 x3 x4 => ob (k0 x1 x2 x3 x4) ng) (ob k1 ng)
 | 0,_,_,_ => rfl
 | m + 1,x0,k0,k1 => by
  simp only [L58v3,ob_bif,ob_ob,ob_none,nl58v3 m,nl58v2]
def s58v6 : St := ⟨(.x (.c (ro kP n0 f0)) :: .x (.c (ro kP n1 f1)) :: .x (.c (.fn 42 0 (listF []))) :: (us 4 (vxi i0 :: .x (.ptr 0 0) :: .u :: .u :: .x (.c (ro kP n0 f0)) :: vxi i1 :: vxi i0 :: vxb true :: vxi i0 :: .x (.c (.rp kP (f0 i0.toNat))) :: .agg [(vci (f0 i0.toNat 0).int),(vci (f0 i0.toNat 1).int)] :: .x (.c (ro kP n1 f1)) :: vxi (Int.ofNat n1) :: vxi 0 :: (us 26 [])))),[.box [(vci (f0 i0.toNat 0).int),(vci (f0 i0.toNat 1).int)]]⟩
theorem r58v3 :
  loopH (eB A45v6 (C29 u) u) N58v3 (m + 1) (s58v3 n0 n1 f0 f1 i0 i1) k =
  (bif (decide (i1 < i0)) then (bif (inb i1 n0) then (loopN (eB A45v3 (C29 u) u) N58v2 u (s58v6 n0 n1 f0 f1 i1 i0) (kBlk 2 (kBlk 1 (kSeq (C29 u) u (rl 6 5 (rl 15 31 [])) A45v4 (kLoop (eB A45v6 (C29 u) u) N58v3 m k))))) else none) else (k (.exit 0) s58v5)) := by kernel_rfl
theorem t58v1 :
  loopN (eB A45v3 (C29 u) u) N58v2 u (s58v6 n0 n1 f0 f1 i0 i1) k =
  L58v2 u n0 f0 n1 f1 i0 i1 (Int.ofNat n1) (f0 i0.toNat 0).int (f0 i0.toNat 1).int u 0 (fun x0 x1 => k .ret (s58v1 (f0 i0.toNat 0).int (f0 i0.toNat 1).int x0 x1)) (k (.exit 2) (s58v2 n0 n1 f0 f1 i1 i0 (f0 i0.toNat 0).int (f0 i0.toNat 1).int)) :=
 Eq.trans (loopN_at (by kernel_rfl)) (q58v2 ..)
theorem g58v2 :
  (kBlk 2 (kBlk 1 (kSeq (C29 u) u (rl 6 5 (rl 15 31 [])) A45v4 (kLoop (eB A45v6 (C29 u) u) N58v3 m k)))) .ret (s58v1 (f0 i0.toNat 0).int (f0 i0.toNat 1).int i1 i2) =
  (k .ret (s58v4 (f0 i0.toNat 0).int (f0 i0.toNat 1).int i1 i2)) := by kernel_rfl
theorem g58v3 :
  (kBlk 2 (kBlk 1 (kSeq (C29 u) u (rl 6 5 (rl 15 31 [])) A45v4 (kLoop (eB A45v6 (C29 u) u) N58v3 m k)))) (.exit 2) (s58v2 n0 n1 f0 f1 i0 i1 (f0 i1.toNat 0).int (f0 i1.toNat 1).int) =
  (loopH (eB A45v6 (C29 u) u) N58v3 m (s58v3 n0 n1 f0 f1 i0 (w64 (i1 + 1))) k) := by kernel_rfl
theorem q58v3 : ∀ (m : Nat) (x0 : Int),
  loopH (eB A45v6 (C29 u) u) N58v3 m (s58v3 n0 n1 f0 f1 i0 x0) k = L58v3 u n0 f0 n1 f1 i0 m x0 (fun x1 x2 x3 x4 => k .ret (s58v4 x1 x2 x3 x4)) (k (.exit 0) s58v5)
 | 0,_ => rfl
 | m + 1,x0 => by
  rw [r58v3]
  simp only [L58v3,q58v3 m,t58v1,g58v2,g58v3]
def F58 (x0 : Nat) (x1 : FF) (x2 : Nat) (x3 : FF) : Option (Bool) :=
 (L58v3 u x0 x1 x2 x3 (Int.ofNat x0) u 0
  (fun x4 x5 x6 x7 => (some true))
  (some false))
def s58v7 : St := ⟨[.x (.c (ro kP n0 f0)),.x (.c (ro kP n1 f1)),.x (.c (.fn 42 0 (listF []))),uu,uu,uu,vxb false,uu,uu,uu,uu,.x (.c (ro kP n0 f0)),vxi (Int.ofNat n0),vxi 0,uu,uu,uu,uu,uu,uu,uu,uu,uu,uu,uu,uu,uu,uu,uu,uu,uu,uu,uu,uu,uu,uu,uu,uu,uu,uu,uu,uu,uu,uu,uu,uu,uu],[]⟩
theorem t58v4 :
  loopN (eB A45v6 (C29 u) u) N58v3 u (s58v7 n0 n1 f0 f1) k =
  L58v3 u n0 f0 n1 f1 (Int.ofNat n0) u 0 (fun x0 x1 x2 x3 => k .ret (s58v4 x0 x1 x2 x3)) (k (.exit 0) s58v5) :=
 Eq.trans (loopN_at (by kernel_rfl)) (q58v3 ..)
theorem g58v5 :
  (kBlk 0 (kSeq (C29 u) u (rl 6 41 []) A45v7 (finish A45))) .ret (s58v4 i0 i1 i2 i3) =
  (some [.v (.b true)]) := by kernel_rfl
theorem g58v6 :
  (kBlk 0 (kSeq (C29 u) u (rl 6 41 []) A45v7 (finish A45))) (.exit 0) s58v5 =
  (some [.v (.b false)]) := by kernel_rfl
theorem e58 : evalF (C29 u) u A45 [.v (ro kP n0 f0),.v (ro kP n1 f1),.v (.fn 42 0 (listF []))] = ob (F58 u n0 f0 n1 f1) fun t => some [.v (.b t)] := Eq.trans (b := (loopN (eB A45v6 (C29 u) u) N58v3 u (s58v7 n0 n1 f0 f1) (kBlk 0 (kSeq (C29 u) u (rl 6 41 []) A45v7 (finish A45))))) (by kernel_rfl) (by
 simp only [F58,ob_bif,ob_ob,ob_none,ob_some,nl58v3,t58v4,g58v5,g58v6])
def O58 : Ora := mkO (qc (av (cL kP)) (qc (av (cL kP)) (q1 (av (cF 42 0 t0))))) (fun x => F58 u x.1.1 x.1.2 x.2.1.1 x.2.1.2) fun t => [.v (.b t)]
theorem d58 : DO (O58 u) (C29 u) 45 A45 := dO u (fun x => by exact e58 u x.1.1 x.2.1.1 x.1.2 x.2.1.2)
def C30 : Oracle := (C29 u).add 45 (fun l => isFn 42 l 2) (O58 u)
def A67v1 : AC := (.seq (.region 11 [o1 47 (ln 41 2 7),o1 48 (ln 41 2 8),o1 49 (ln 41 2 3),o1 50 (cs 84 [47,48,49] [41,41,41]),o1 51 (bk .gtr 3 50 0),o1 9 (sg 51)] 0 none) []
 (.seq (.region 12 [mv 52 9,o1 53 (fa 41 8 1 1),o1 54 (lo 3 53),o1 55 (fa 41 7 1 1),o1 56 (lo 3 55),o1 57 (bt .gtr 3 54 56),o1 58 (.eqB false 4 (tm 52) (tm 57) 4)] 0 none) []
 (.cond (tm 58)
 (.region 13 [mv 59 5,o1 60 (.unOp .not 4 (tm 59)),o1 5 (sg 60)] 0 none)
 .skip)))
def A67v2 : AC := (.seq (.seq (.region 10 [o1 36 (fa 41 7 1 1),o1 37 (lo 3 36),o1 38 (fa 41 3 1 1),o1 39 (lo 3 38),o1 40 (bt .gtr 3 37 39),o1 41 (fa 41 8 1 1),o1 42 (lo 3 41),o1 43 (fa 41 3 1 1),o1 44 (lo 3 43),o1 45 (bt .gtr 3 42 44),o1 46 (.eqB false 4 (tm 40) (tm 45) 4)] 0 none) []
 (.cond (tm 46)
 (.exit 1 (1 :: 2 :: 4 :: (rl 6 11 (rl 20 43 []))))
 .skip)) (rl 36 11 [])
 A67v1)
def A67v3 : AC := (.region 14 [o1 61 (bk .add 3 19 1),mv 19 61] 0 none)
def A67v4 : AC := (.seq (.block 1
 (.seq (.region 6 [mv 21 19,o1 22 (.indexAddr 47 41 2 (tm 17) (tm 19)),o1 23 (ln 41 2 22),o1 7 (.alloc 0 41 [vci 0,vci 0]),o1 6 (sg 21),o0 (.store 41 2 (tm 7) (tm 23))] 1 none) []
  (.seq (.region 7 [mv 24 0,mv 25 6,o1 26 (bk .add 3 25 1),mv 27 0,o1 28 (.len 47 false (tm 27)),o1 29 (bt .rem 3 26 28),o1 30 (.indexAddr 47 41 2 (tm 24) (tm 29)),o1 31 (ln 41 2 30),o1 8 (.alloc 0 41 [vci 0,vci 0]),o0 (.store 41 2 (tm 8) (tm 31))] 1 none) []
  (.seq (.seq (.region 8 [o1 32 (ln 41 2 7),o1 33 (ln 41 2 8),o1 34 (ln 41 2 3),o1 35 (cs 83 [32,33,34] [41,41,41])] 0 none) []
  (.cond (tm 35)
  (.seq (.region 9 [o1 4 (sk 0)] 0 none) []
   (.ret (rl 0 4 (rl 5 58 []))))
  .skip)) (4 :: (rl 32 4 []))
  A67v2)))) (4 :: (rl 6 4 (rl 21 40 [])))
 A67v3)
def A67v5 : AC := (.seq (.region 5 [o1 20 (bt .lss 3 19 18)] 0 none) []
 (.seq (.cond (tm 20)
 .skip
 (.exit 0 (rl 0 5 (rl 6 57 [])))) []
 A67v4))
def A67v6 : AC := (.seq (.region 17 [o1 4 (sk (-1))] 0 none) []
 (.ret (rl 0 4 (rl 5 58 []))))
def A67v7 : AC := (.seq (.seq (.region 15 [mv 62 5] 0 none) []
 (.cond (tm 62)
 (.seq (.region 16 [o1 4 (sk 1)] 0 none) []
  (.ret (rl 0 4 (rl 5 58 []))))
 .skip)) [4,62]
 A67v6)
def A67v8 : AC := (.seq (.region 3 [o1 5 (sb false)] 0 none) []
 (.seq (.seq (.region 4 [mv 17 0,o1 18 (.len 47 false (tm 17)),o1 19 (.move (ic 0))] 0 none) []
 (.block 0
 (.loop [] (1 :: 2 :: 4 :: (rl 6 11 (rl 20 43 [])))
  A67v5))) (4 :: (rl 6 4 (rl 17 45 [])))
 A67v7))
def A67 : AF := ⟨63,[.tmp 4],
 (.seq (.region 0 [o1 3 (bx 0 41 1),o1 4 (sk 0)] 1 none) []
 (.seq (.seq (.region 1 [o1 10 (ln 41 2 3),o1 11 (cs 72 [10] [41]),mv 12 11,og 13 (.move (tm 0)) 12 false,og 14 (cs 46 [13] [47]) 12 false,og 15 (bk .neq 31 14 0) 12 false,o1 16 (pa 12 15)] 0 none) []
 (.cond (tm 16)
 (.seq (.region 2 [o1 4 (sk (-1))] 0 none) []
  (.ret (rl 0 4 (rl 5 58 []))))
 .skip)) (4 :: (rl 10 7 []))
 A67v8))⟩
def N65v1 : St → Option St := nN 1 (1 :: 2 :: 4 :: (rl 6 11 (rl 20 43 [])))
def s65v0 : St := ⟨(.x (.c (ro kP n0 f0)) :: .u :: .u :: .x (.ptr 0 0) :: .u :: vxb b0 :: (us 11 (.x (.c (ro kP n0 f0)) :: vxi i0 :: vxi i1 :: (us 43 [])))),[.box [(vci i2),(vci i3)]]⟩
def s65v1 : St := ⟨(us 4 (vxi 0 :: (us 58 []))),[.box [(vci i0),(vci i1)],.box [(vci i2),(vci i3)],.box [(vci i4),(vci i5)]]⟩
def s65v2 : St := ⟨(us 5 (vxb b0 :: (us 57 []))),[.box [(vci i0),(vci i1)]]⟩
def L65v1 {ρ : Type} (u : Nat) (x0 : Nat) (x1 : FF) (x2 x3 x4 : Int) : Nat → Bool → Int → (Int → Int → Int → Int → Option ρ) → (Bool → Option ρ) → Option ρ
 | 0,_,_,_,_ => none
 | m + 1,x5,x6,k0,k1 =>
  (bif (decide (x6 < x2)) then (bif (inb x6 x0) then (bif ((Int.ofNat x0) == 0) then none else (bif (inb (Int.tmod (w64 (x6 + 1)) (Int.ofNat x0)) x0) then (ob (F81 u (x1 x6.toNat 0).int (x1 x6.toNat 1).int (CV.int (x1 (Int.toNat (Int.tmod (w64 (x6 + 1)) (Int.ofNat x0))) 0)) (CV.int (x1 (Int.toNat (Int.tmod (w64 (x6 + 1)) (Int.ofNat x0))) 1)) x3 x4) fun x7 => (bif x7 then (k0 (x1 x6.toNat 0).int (x1 x6.toNat 1).int (CV.int (x1 (Int.toNat (Int.tmod (w64 (x6 + 1)) (Int.ofNat x0))) 0)) (CV.int (x1 (Int.toNat (Int.tmod (w64 (x6 + 1)) (Int.ofNat x0))) 1))) else (bif ((decide ((x1 x6.toNat 1).int > x4)) == (decide ((CV.int (x1 (Int.toNat (Int.tmod (w64 (x6 + 1)) (Int.ofNat x0))) 1)) > x4))) then (L65v1 u x0 x1 x2 x3 x4 m x5 (w64 (x6 + 1)) k0 k1) else (ob (F79 u (x1 x6.toNat 0).int (x1 x6.toNat 1).int (CV.int (x1 (Int.toNat (Int.tmod (w64 (x6 + 1)) (Int.ofNat x0))) 0)) (CV.int (x1 (Int.toNat (Int.tmod (w64 (x6 + 1)) (Int.ofNat x0))) 1)) x3 x4) fun x8 => (bif ((decide (x8 > 0)) == (decide ((CV.int (x1 (Int.toNat (Int.tmod (w64 (x6 + 1)) (Int.ofNat x0))) 1)) > (x1 x6.toNat 1).int))) then (L65v1 u x0 x1 x2 x3 x4 m (!x5) (w64 (x6 + 1)) k0 k1) else (L65v1 u x0 x1 x2 x3 x4 m x5 (w64 (x6 + 1)) k0 k1)))))) else none)) else none) else (k1 x5))
theorem nl65v1 : ∀ (m : Nat) (x0 : Bool) (x1 : Int) (k0 : Int → Int → Int → Int → Option ρ) (k1 : Bool → Option ρ),ob (L65v1 u n0 f0 i0 i1 i2 m x0 x1 k0 k1) ng = L65v1 u n0 f0 i0 i1 i2 m x0 x1 (fun x2 x3 x4 x5 => ob (k0 x2 x3 x4 x5) ng) (fun x6 => ob (k1 x6) ng)
 | 0,_,_,_,_ => rfl
 | m + 1,x0,x1,k0,k1 => by
  simp only [L65v1,ob_bif,ob_ob,ob_none,nl65v1 m]
theorem r65v1 :
  loopH (eB A67v5 (C30 u) u) N65v1 (m + 1) (s65v0 n0 f0 i0 i3 i1 i2 b0) k =
  (bif (decide (i3 < i0)) then (bif (inb i3 n0) then (bif ((Int.ofNat n0) == 0) then none else (bif (inb (Int.tmod (w64 (i3 + 1)) (Int.ofNat n0)) n0) then (ob (F81 u (f0 i3.toNat 0).int (f0 i3.toNat 1).int (CV.int (f0 (Int.toNat (Int.tmod (w64 (i3 + 1)) (Int.ofNat n0))) 0)) (CV.int (f0 (Int.toNat (Int.tmod (w64 (i3 + 1)) (Int.ofNat n0))) 1)) i1 i2) fun x0 => (bif x0 then (k .ret (s65v1 i1 i2 (f0 i3.toNat 0).int (f0 i3.toNat 1).int (CV.int (f0 (Int.toNat (Int.tmod (w64 (i3 + 1)) (Int.ofNat n0))) 0)) (CV.int (f0 (Int.toNat (Int.tmod (w64 (i3 + 1)) (Int.ofNat n0))) 1)))) else (bif ((decide ((f0 i3.toNat 1).int > i2)) == (decide ((CV.int (f0 (Int.toNat (Int.tmod (w64 (i3 + 1)) (Int.ofNat n0))) 1)) > i2))) then (loopH (eB A67v5 (C30 u) u) N65v1 m (s65v0 n0 f0 i0 (w64 (i3 + 1)) i1 i2 b0) k) else (ob (F79 u (f0 i3.toNat 0).int (f0 i3.toNat 1).int (CV.int (f0 (Int.toNat (Int.tmod (w64 (i3 + 1)) (Int.ofNat n0))) 0)) (CV.int (f0 (Int.toNat (Int.tmod (w64 (i3 + 1)) (Int.ofNat n0))) 1)) i1 i2) fun x1 => (bif ((decide (x1 > 0)) == (decide ((CV.int (f0 (Int.toNat (Int.tmod (w64 (i3 + 1)) (Int.ofNat n0))) 1)) > (f0 i3.toNat 1).int))) then (loopH (eB A67v5 (C30 u) u) N65v1 m (s65v0 n0 f0 i0 (w64 (i3 + 1)) i1 i2 (!b0)) k) else (loopH (eB A67v5 (C30 u) u) N65v1 m (s65v0 n0 f0 i0 (w64 (i3 + 1)) i1 i2 b0) k)))))) else none)) else none) else (k (.exit 0) (s65v2 i1 i2 b0))) := by kernel_rfl
theorem q65v1 : ∀ (m : Nat) (x0 : Bool) (x1 : Int),
  loopH (eB A67v5 (C30 u) u) N65v1 m (s65v0 n0 f0 i0 x1 i1 i2 x0) k = L65v1 u n0 f0 i0 i1 i2 m x0 x1 (fun x2 x3 x4 x5 => k .ret (s65v1 i1 i2 x2 x3 x4 x5)) (fun x6 => k (.exit 0) (s65v2 i1 i2 x6))
 | 0,_,_ => rfl
 | m + 1,x0,x1 => by
  rw [r65v1]
  simp only [L65v1,q65v1 m]
def F65 (x0 : Nat) (x1 : FF) (x2 x3 : Int) : Option (Int) :=
 (ob (F61 u x2 x3) fun x4 => (bif (x4 == false) then (ob (F33 u x0 x1) fun x5 => (bif (x5 != 0) then (some (-1)) else (L65v1 u x0 x1 (Int.ofNat x0) x2 x3 u false 0
  (fun x6 x7 x8 x9 => (some 0))
  (fun xA => (bif xA then (some 1) else (some (-1))))))) else (some (-1))))
def s65v3 : St := ⟨(.x (.c (ro kP n0 f0)) :: .agg [(vci i0),(vci i1)] :: uu :: .x (.ptr 0 0) :: .u :: vxb false :: uu :: uu :: uu :: uu :: (us 7 [.x (.c (ro kP n0 f0)),vxi (Int.ofNat n0),vxi 0,uu,uu,uu,uu,uu,uu,uu,uu,uu,uu,uu,uu,uu,uu,uu,uu,uu,uu,uu,uu,uu,uu,uu,uu,uu,uu,uu,uu,uu,uu,uu,uu,uu,uu,uu,uu,uu,uu,uu,uu,uu,uu,uu])),[.box [(vci i0),(vci i1)]]⟩
theorem t65v1 :
  loopN (eB A67v5 (C30 u) u) N65v1 u (s65v3 n0 f0 i0 i1) k =
  L65v1 u n0 f0 (Int.ofNat n0) i0 i1 u false 0 (fun x0 x1 x2 x3 => k .ret (s65v1 i0 i1 x0 x1 x2 x3)) (fun x4 => k (.exit 0) (s65v2 i0 i1 x4)) :=
 Eq.trans (loopN_at (by kernel_rfl)) (q65v1 ..)
theorem g65v2 :
  (kBlk 0 (kSeq (C30 u) u (4 :: (rl 6 4 (rl 17 45 []))) A67v7 (finish A67))) .ret (s65v1 i0 i1 i2 i3 i4 i5) =
  (some [.v (vi 0)]) := by kernel_rfl
theorem g65v3 :
  (kBlk 0 (kSeq (C30 u) u (4 :: (rl 6 4 (rl 17 45 []))) A67v7 (finish A67))) (.exit 0) (s65v2 i0 i1 b0) =
  (bif b0 then (some [.v (vi 1)]) else (some [.v (vi (-1))])) := by kernel_rfl
theorem e65 : evalF (C30 u) u A67 [.v (ro kP n0 f0),.agg [(vi i0),(vi i1)]] = ob (F65 u n0 f0 i0 i1) fun t => some [.v (vi t)] := Eq.trans (b := (ob (F61 u i0 i1) fun x0 => (bif (x0 == false) then (ob (F33 u n0 f0) fun x1 => (bif (x1 != 0) then (some [.v (vi (-1))]) else (loopN (eB A67v5 (C30 u) u) N65v1 u (s65v3 n0 f0 i0 i1) (kBlk 0 (kSeq (C30 u) u (4 :: (rl 6 4 (rl 17 45 []))) A67v7 (finish A67)))))) else (some [.v (vi (-1))])))) (by kernel_rfl) (by
 simp only [F65,ob_bif,ob_ob,ob_none,ob_some,nl65v1,t65v1,g65v2,g65v3])
def O65 : Ora := mkO (qc (av (cL kP)) (q1 (ag (tc ci (t1 ci))))) (fun x => F65 u x.1.1 x.1.2 x.2.1 x.2.2) fun t => [.v (vi t)]
theorem d65 : DO (O65 u) (C30 u) 67 A67 := dO u (fun x => by exact e65 u x.1.1 x.1.2 x.2.1 x.2.2)
def C31 : Oracle := (C30 u).add 67 (fun _ => true) (O65 u)
def A75 : AF := ⟨8,[.tmp 3],
 (.seq (.region 0 [o1 2 (bx 0 41 0),o1 3 (sb false)] 1 none) []
 (.seq (.region 1 [o1 4 (lo 47 1),o1 5 (ln 41 2 2),o1 6 (cs 67 [4,5] [47,41]),o1 7 (bk .neq 3 6 1),o1 3 (sg 7)] 0 none) []
 (.ret (0 :: 1 :: 2 :: (rl 4 4 [])))))⟩
def F64 (x0 x1 : Int) (x2 : Nat → CV) : Option (Bool) :=
 (ob (F65 u (x2 0).len (x2 0).el x0 x1) fun x3 => (some (x3 != 1)))
theorem e64 : evalF (C31 u) u A75 [.agg [(vi i0),(vi i1)],.v (.rp (.pr (.sl kP) .nil) g0)] = ob (F64 u i0 i1 g0) fun t => some [.v (.b t)] := Eq.trans (b := (ob (F65 u (g0 0).len (g0 0).el i0 i1) fun x0 => (some [.v (.b (x0 != 1))]))) (by kernel_rfl) (by
 simp only [F64,ob_bif,ob_ob,ob_none,ob_some])
def O64 : Ora := mkO (qc (ag (tc ci (t1 ci))) (q1 (av (cP (.pr (.sl kP) .nil))))) (fun x => F64 u x.1.1 x.1.2 x.2) fun t => [.v (.b t)]
theorem d64 : DO (O64 u) (C31 u) 75 A75 := dO u (fun x => by exact e64 u x.1.1 x.1.2 x.2)
def C32 : Oracle := (C31 u).add 75 (fun _ => true) (O64 u)
def N73bv1 : St → Option St := nN 0 (rl 2 5 (rl 9 10 []))
def s73bv0 : St := ⟨(.x (.c (ro kP n0 f0)) :: .x (.c (.fn 75 1 (listF [(.rp (.pr (.sl kP) .nil) g0)]))) :: (us 5 (vxi i0 :: vxi i1 :: (us 10 [])))),[]⟩
def s73bv1 : St := ⟨(us 4 (vxi i0 :: (us 14 []))),[]⟩
def s73bv2 : St := ⟨(us 19 []),[]⟩
def L73bv1 {ρ : Type} (u : Nat) (x0 : Nat) (x1 : FF) (x2 : Nat → CV) (x3 : Int) : Nat → Int → (Int → Option ρ) → (Option ρ) → Option ρ
 | 0,_,_,_ => none
 | m + 1,x4,k0,k1 =>
  (bif (decide (x4 < x3)) then (bif (inb x4 x0) then (ob (F64 u (x1 x4.toNat 0).int (x1 x4.toNat 1).int x2) fun x5 => (bif x5 then (k0 x4) else (L73bv1 u x0 x1 x2 x3 m (w64 (x4 + 1)) k0 k1))) else none) else k1)
theorem nl73bv1 : ∀ (m : Nat) (x0 : Int) (k0 : Int → Option ρ) (k1 : Option ρ),ob (L73bv1 u n0 f0 g0 i0 m x0 k0 k1) ng = L73bv1 u n0 f0 g0 i0 m x0 (fun x1 => ob (k0 x1) ng) (ob k1 ng)
 | 0,_,_,_ => rfl
 | m + 1,x0,k0,k1 => by
  simp only [L73bv1,ob_bif,ob_ob,ob_none,nl73bv1 m]
theorem r73bv1 :
  loopH (eB A76v3 (C32 u) u) N73bv1 (m + 1) (s73bv0 n0 f0 i0 i1 g0) k =
  (bif (decide (i1 < i0)) then (bif (inb i1 n0) then (ob (F64 u (f0 i1.toNat 0).int (f0 i1.toNat 1).int g0) fun x0 => (bif x0 then (k .ret (s73bv1 i1)) else (loopH (eB A76v3 (C32 u) u) N73bv1 m (s73bv0 n0 f0 i0 (w64 (i1 + 1)) g0) k))) else none) else (k (.exit 0) s73bv2)) := by kernel_rfl
theorem q73bv1 : ∀ (m : Nat) (x0 : Int),
  loopH (eB A76v3 (C32 u) u) N73bv1 m (s73bv0 n0 f0 i0 x0 g0) k = L73bv1 u n0 f0 g0 i0 m x0 (fun x1 => k .ret (s73bv1 x1)) (k (.exit 0) s73bv2)
 | 0,_ => rfl
 | m + 1,x0 => by
  rw [r73bv1]
  simp only [L73bv1,q73bv1 m]
def F73b (x0 : Nat) (x1 : FF) (x2 : Nat → CV) : Option (Int) :=
 (L73bv1 u x0 x1 x2 (Int.ofNat x0) u 0
  (fun x3 => (some x3))
  (some (-1)))
def s73bv3 : St := ⟨[.x (.c (ro kP n0 f0)),.x (.c (.fn 75 1 (listF [(.rp (.pr (.sl kP) .nil) g0)]))),uu,uu,vxi 0,uu,.x (.c (ro kP n0 f0)),vxi (Int.ofNat n0),vxi 0,uu,uu,uu,uu,uu,uu,uu,uu,uu,uu],[]⟩
theorem t73bv1 :
  loopN (eB A76v3 (C32 u) u) N73bv1 u (s73bv3 n0 f0 g0) k =
  L73bv1 u n0 f0 g0 (Int.ofNat n0) u 0 (fun x0 => k .ret (s73bv1 x0)) (k (.exit 0) s73bv2) :=
 Eq.trans (loopN_at (by kernel_rfl)) (q73bv1 ..)
theorem g73bv2 :
  (kBlk 0 (kSeq (C32 u) u (rl 4 15 []) A76v4 (finish A76))) .ret (s73bv1 i0) =
  (some [.v (vi i0)]) := by kernel_rfl
theorem g73bv3 :
  (kBlk 0 (kSeq (C32 u) u (rl 4 15 []) A76v4 (finish A76))) (.exit 0) s73bv2 =
  (some [.v (vi (-1))]) := by kernel_rfl
theorem e73b : evalF (C32 u) u A76 [.v (ro kP n0 f0),.v (.fn 75 1 (listF [(.rp (.pr (.sl kP) .nil) g0)]))] = ob (F73b u n0 f0 g0) fun t => some [.v (vi t)] := Eq.trans (b := (loopN (eB A76v3 (C32 u) u) N73bv1 u (s73bv3 n0 f0 g0) (kBlk 0 (kSeq (C32 u) u (rl 4 15 []) A76v4 (finish A76))))) (by kernel_rfl) (by
 simp only [F73b,ob_bif,ob_ob,ob_none,ob_some,nl73bv1,t73bv1,g73bv2,g73bv3])
def O73b : Ora := mkO (qc (av (cL kP)) (q1 (av (cF 75 1 (t1 (cP (.pr (.sl kP) .nil))))))) (fun x => F73b u x.1.1 x.1.2 x.2) fun t => [.v (vi t)]
theorem d73b : DO (O73b u) (C32 u) 76 A76 := dO u (fun x => by exact e73b u x.1.1 x.1.2 x.2)
def C33 : Oracle := (C32 u).add 76 (fun l => isFn 75 l 1) (O73b u)
def F50b (x0 : Nat) (x1 : FF) (x2 : Nat → CV) : Option (Bool) :=
 (ob (F73b u x0 x1 x2) fun x3 => (some (decide (x3 ≥ 0))))
theorem e50b : evalF (C33 u) u A54 [.v (ro kP n0 f0),.v (.fn 75 1 (listF [(.rp (.pr (.sl kP) .nil) g0)]))] = ob (F50b u n0 f0 g0) fun t => some [.v (.b t)] := Eq.trans (b := (ob (F73b u n0 f0 g0) fun x0 => (some [.v (.b (decide (x0 ≥ 0)))]))) (by kernel_rfl) (by
 simp only [F50b,ob_bif,ob_ob,ob_none,ob_some])
def O50b : Ora := mkO (qc (av (cL kP)) (q1 (av (cF 75 1 (t1 (cP (.pr (.sl kP) .nil))))))) (fun x => F50b u x.1.1 x.1.2 x.2) fun t => [.v (.b t)]
theorem d50b : DO (O50b u) (C33 u) 54 A54 := dO u (fun x => by exact e50b u x.1.1 x.1.2 x.2)
def C34 : Oracle := (C33 u).add 54 (fun l => isFn 75 l 1) (O50b u)
def A48 : AF := ⟨15,[.tmp 4],
 (.seq (.region 0 [o1 3 (bx 0 47 1),o1 4 (sb false)] 1 none) []
 (.seq (.region 1 [mv 5 0,o1 6 (lo 47 3),o1 7 (.call 45 [(tm 5),(tm 6),(.func 42)] [47,47,77] .snap),o1 8 (.unOp .not 4 (tm 7)),mv 9 8,og 10 (.move (tm 0)) 9 true,og 11 (.mkfn 75 [(tm 3)]) 9 true,og 12 (cs 54 [10,11] [47,86]) 9 true,og 13 (.unOp .not 4 (tm 12)) 9 true,o1 14 (po 9 13),o1 4 (sg 14)] 0 none) []
 (.ret (rl 0 4 (rl 5 10 [])))))⟩
def F35 (x0 : Nat) (x1 : FF) (x2 : Nat) (x3 : FF) : Option (Bool) :=
 (ob (F58 u x0 x1 x2 x3) fun x4 => (bif ((!x4) == true) then (ob (F50b u x0 x1 (listF [(.ro false (.pr (.int .i64) (.pr (.int .i64) .nil)) x2 x3)])) fun x5 => (some (!x5))) else (some false)))
theorem e35 : evalF (C34 u) u A48 [.v (ro kP n0 f0),.v (ro kP n1 f1)] = ob (F35 u n0 f0 n1 f1) fun t => some [.v (.b t)] := Eq.trans (b := (ob (F58 u n0 f0 n1 f1) fun x0 => (bif ((!x0) == true) then (ob (F50b u n0 f0 (listF [(ro kP n1 f1)])) fun x1 => (some [.v (.b (!x1))])) else (some [.v (.b false)])))) (by kernel_rfl) (by
 simp only [F35,ob_bif,ob_ob,ob_none,ob_some])
def O35 : Ora := mkO (qc (av (cL kP)) (q1 (av (cL kP)))) (fun x => F35 u x.1.1 x.1.2 x.2.1 x.2.2) fun t => [.v (.b t)]
theorem d35 : DO (O35 u) (C34 u) 48 A48 := dO u (fun x => by exact e35 u x.1.1 x.2.1 x.1.2 x.2.2)
def C35 : Oracle := (C34 u).add 48 (fun _ => true) (O35 u)
def A49 : AF := ⟨25,[.tmp 4],
 (.seq (.region 0 [o1 4 (sb false)] 0 none) []
 (.seq (.region 1 [mv 5 0,mv 6 1,o1 7 (.call 45 [(tm 5),(tm 6),(.func 42)] [47,47,77] .snap),o1 8 (.unOp .not 4 (tm 7)),mv 9 8,og 10 (.move (tm 0)) 9 true,og 11 (.move (tm 1)) 9 true,og 12 (.indexAddr 47 41 2 (tm 11) (ic 0)) 9 true,og 13 (ln 41 2 12) 9 true,og 14 (cs 67 [10,13] [47,41]) 9 true,og 15 (bk .lss 3 14 0) 9 true,o1 16 (po 9 15),mv 17 16,og 18 (.move (tm 1)) 17 true,og 19 (.move (tm 0)) 17 true,og 20 (.indexAddr 47 41 2 (tm 19) (ic 0)) 17 true,og 21 (ln 41 2 20) 17 true,og 22 (cs 67 [18,21] [47,41]) 17 true,og 23 (bk .lss 3 22 0) 17 true,o1 24 (po 17 23),o1 4 (sg 24)] 0 none) []
 (.ret (rl 0 4 (rl 5 20 [])))))⟩
def F36 (x0 : Nat) (x1 : FF) (x2 : Nat) (x3 : FF) : Option (Bool) :=
 (ob (F58 u x0 x1 x2 x3) fun x4 => (bif ((!x4) == true) then (bif (inb 0 x2) then (ob (F65 u x0 x1 (x3 0 0).int (x3 0 1).int) fun x5 => (bif ((decide (x5 < 0)) == true) then (bif (inb 0 x0) then (ob (F65 u x2 x3 (x1 0 0).int (x1 0 1).int) fun x6 => (some (decide (x6 < 0)))) else none) else (some false))) else none) else (some false)))
theorem e36 : evalF (C35 u) u A49 [.v (ro kP n0 f0),.v (ro kP n1 f1)] = ob (F36 u n0 f0 n1 f1) fun t => some [.v (.b t)] := Eq.trans (b := (ob (F58 u n0 f0 n1 f1) fun x0 => (bif ((!x0) == true) then (bif (inb 0 n1) then (ob (F65 u n0 f0 (f1 0 0).int (f1 0 1).int) fun x1 => (bif ((decide (x1 < 0)) == true) then (bif (inb 0 n0) then (ob (F65 u n1 f1 (f0 0 0).int (f0 0 1).int) fun x2 => (some [.v (.b (decide (x2 < 0)))])) else none) else (some [.v (.b false)]))) else none) else (some [.v (.b false)])))) (by kernel_rfl) (by
 simp only [F36,ob_bif,ob_ob,ob_none,ob_some])
def O36 : Ora := mkO (qc (av (cL kP)) (q1 (av (cL kP)))) (fun x => F36 u x.1.1 x.1.2 x.2.1 x.2.2) fun t => [.v (.b t)]
theorem d36 : DO (O36 u) (C35 u) 49 A49 := dO u (fun x => by exact e36 u x.1.1 x.2.1 x.1.2 x.2.2)
def C36 : Oracle := (C35 u).add 49 (fun _ => true) (O36 u)
def A24v1 : AC := (.region 21 [o1 59 (bk .add 3 51 1),mv 51 59] 0 none)
def A24v2 : AC := (.seq (.block 3
 (.seq (.region 18 [o1 53 (.indexAddr 48 47 1 (tm 49) (tm 51)),o1 54 (lo 47 53),o1 8 (sg 54)] 0 none) []
  (.seq (.region 19 [mv 55 5,mv 56 8,o1 57 (cs 49 [55,56] [47,47]),o1 58 (.unOp .not 4 (tm 57))] 0 none) []
  (.cond (tm 58)
  (.seq (.region 20 [o1 2 (sk 17)] 0 none) []
   (.ret (0 :: 1 :: (rl 3 58 []))))
  .skip)))) (2 :: 8 :: (rl 53 6 []))
 A24v1)
def A24v3 : AC := (.seq (.region 17 [o1 52 (bt .lss 3 51 50)] 0 none) []
 (.seq (.cond (tm 52)
 .skip
 (.exit 2 (0 :: (rl 2 22 (rl 27 34 []))))) []
 A24v2))
def A24v4 : AC := (.seq (.region 16 [o1 46 (fa 50 1 1 1),o1 47 (lo 48 46),mv 48 4,o1 49 (.slice 48 47 1 (tm 47) none (some (tm 48)) none),o1 50 (.len 48 false (tm 49)),o1 51 (.move (ic 0))] 0 none) []
 (.block 2
 (.loop [] (0 :: 2 :: 3 :: 4 :: (rl 6 18 (rl 27 22 (rl 52 9 []))))
  A24v3)))
def A24v5 : AC := (.seq (.seq (.region 14 [mv 36 5,o1 37 (cs 47 [36] [47]),o1 38 (bk .geq 3 37 0),mv 39 38,og 40 (.move (tm 5)) 39 false,og 41 (fa 50 1 0 0) 39 false,og 42 (lo 47 41) 39 false,og 43 (cs 48 [40,42] [47,47]) 39 false,og 44 (.unOp .not 4 (tm 43)) 39 false,o1 45 (pa 39 44)] 0 none) []
 (.cond (tm 45)
 (.seq (.region 15 [o1 2 (sk 17)] 0 none) []
  (.ret (0 :: 1 :: (rl 3 58 []))))
 .skip)) (2 :: (rl 36 10 []))
 A24v4)
def A24v6 : AC := (.region 22 [o1 60 (bk .add 3 26 1),mv 26 60] 0 none)
def A24v7 : AC := (.seq (.block 1
 (.seq (.region 10 [mv 28 26,o1 29 (.indexAddr 48 47 1 (tm 24) (tm 26)),o1 30 (lo 47 29),o1 4 (sg 28),o1 5 (sg 30)] 0 none) []
  (.seq (.seq (.region 11 [mv 31 5,o1 32 (cs 46 [31] [47]),o1 6 (sg 32)] 0 none) []
  (.seq (.region 12 [mv 33 6,o1 34 (bk .neq 31 33 0)] 0 none) []
  (.cond (tm 34)
  (.seq (.region 13 [mv 35 6,o1 2 (sg 35)] 0 none) []
   (.ret (0 :: 1 :: (rl 3 58 []))))
  .skip))) (2 :: 6 :: (rl 31 5 []))
  A24v5))) (2 :: 4 :: 5 :: 6 :: 8 :: (rl 28 32 []))
 A24v6)
def A24v8 : AC := (.seq (.region 9 [o1 27 (bt .lss 3 26 25)] 0 none) []
 (.seq (.cond (tm 27)
 .skip
 (.exit 0 (rl 0 61 []))) []
 A24v7))
def A24v9 : AC := (.seq (.region 23 [o1 2 (sk 0)] 0 none) []
 (.ret (0 :: 1 :: (rl 3 58 []))))
def A24v10 : AC := (.seq (.seq (.region 8 [o1 23 (fa 50 1 1 1),o1 24 (lo 48 23),o1 25 (.len 48 false (tm 24)),o1 26 (.move (ic 0))] 0 none) []
 (.block 0
 (.loop [] (0 :: (rl 2 22 (rl 27 34 [])))
  A24v8))) (2 :: 4 :: 5 :: 6 :: 8 :: (rl 23 38 []))
 A24v9)
def A24v11 : AC := (.seq (.seq (.region 6 [o1 19 (fa 50 1 0 0),o1 20 (lo 47 19),o1 21 (cs 47 [20] [47]),o1 22 (bk .leq 3 21 0)] 0 none) []
 (.cond (tm 22)
 (.seq (.region 7 [o1 2 (sk 17)] 0 none) []
  (.ret (0 :: 1 :: (rl 3 58 []))))
 .skip)) (2 :: (rl 19 4 []))
 A24v10)
def A24v12 : AC := (.seq (.seq (.region 3 [o1 13 (fa 50 1 0 0),o1 14 (lo 47 13),o1 15 (cs 46 [14] [47]),o1 3 (sg 15)] 0 none) []
 (.seq (.region 4 [mv 16 3,o1 17 (bk .neq 31 16 0)] 0 none) []
 (.cond (tm 17)
 (.seq (.region 5 [mv 18 3,o1 2 (sg 18)] 0 none) []
  (.ret (0 :: 1 :: (rl 3 58 []))))
 .skip))) (2 :: 3 :: (rl 13 6 []))
 A24v11)
def A24 : AF := ⟨61,[.tmp 2],
 (.seq (.region 0 [o1 1 (bx 0 50 0),o1 2 (sk 0)] 1 none) []
 (.seq (.seq (.region 1 [o1 9 (fa 50 1 1 1),o1 10 (lo 48 9),o1 11 (.len 48 false (tm 10)),o1 12 (bk .gtr 3 11 8)] 0 none) []
 (.cond (tm 12)
 (.seq (.region 2 [o1 2 (sk 12)] 0 none) []
  (.ret (0 :: 1 :: (rl 3 58 []))))
 .skip)) (2 :: (rl 9 4 []))
 A24v12))⟩
def N13v2 : St → Option St := nN 1 (0 :: 2 :: 3 :: 4 :: (rl 6 18 (rl 27 22 (rl 52 9 []))))
def s13v0 : St := ⟨(.u :: .x (.ptr 0 0) :: (us 3 (.x (.c (ro kP n0 f0)) :: (us 18 (.x (.c (ro (.pr (.sl kP) .nil) n1 f1)) :: vxi i0 :: vxi i1 :: (us 22 (.x (.c (ro (.pr (.sl kP) .nil) n2 f1)) :: vxi i2 :: vxi i3 :: (us 9 [])))))))),[.box [(.c (ro kP n3 f2)),(.c (ro (.pr (.sl kP) .nil) n1 f1))]]⟩
def s13v1 : St := ⟨(.u :: .u :: vxi 17 :: (us 58 [])),[.box [(.c (ro kP n0 f0)),(.c (ro (.pr (.sl kP) .nil) n1 f1))]]⟩
def s13v2 : St := ⟨(.u :: .x (.ptr 0 0) :: (us 22 (.x (.c (ro (.pr (.sl kP) .nil) n0 f0)) :: vxi i0 :: vxi i1 :: (us 34 [])))),[.box [(.c (ro kP n1 f1)),(.c (ro (.pr (.sl kP) .nil) n0 f0))]]⟩
def L13v2 {ρ : Type} (u : Nat) (x0 : Nat) (x1 : FF) (x2 : Nat) (x3 : FF) (x4 x5 : Int) (x6 : Nat) (x7 : Int) (x8 : Nat) (x9 : FF) : Nat → Int → (Option ρ) → (Option ρ) → Option ρ
 | 0,_,_,_ => none
 | m + 1,xA,k0,k1 =>
  (bif (decide (xA < x7)) then (bif (inb xA x6) then (ob (F36 u x0 x1 (x3 xA.toNat 0).len (x3 xA.toNat 0).el) fun xB => (bif (!xB) then k0 else (L13v2 u x0 x1 x2 x3 x4 x5 x6 x7 x8 x9 m (w64 (xA + 1)) k0 k1))) else none) else k1)
theorem nl13v2 : ∀ (m : Nat) (x0 : Int) (k0 : Option ρ) (k1 : Option ρ),ob (L13v2 u n0 f0 n1 f1 i0 i1 n2 i2 n3 f2 m x0 k0 k1) ng = L13v2 u n0 f0 n1 f1 i0 i1 n2 i2 n3 f2 m x0 (ob k0 ng) (ob k1 ng)
 | 0,_,_,_ => rfl
 | m + 1,x0,k0,k1 => by
  simp only [L13v2,ob_bif,ob_ob,ob_none,nl13v2 m]
theorem r13v2 :
  loopH (eB A24v3 (C36 u) u) N13v2 (m + 1) (s13v0 n0 n1 n2 n3 f0 f1 f2 i0 i1 i2 i3) k =
  (bif (decide (i3 < i2)) then (bif (inb i3 n2) then (ob (F36 u n0 f0 (f1 i3.toNat 0).len (f1 i3.toNat 0).el) fun x0 => (bif (!x0) then (k .ret (s13v1 n3 n1 f2 f1)) else (loopH (eB A24v3 (C36 u) u) N13v2 m (s13v0 n0 n1 n2 n3 f0 f1 f2 i0 i1 i2 (w64 (i3 + 1))) k))) else none) else (k (.exit 2) (s13v2 n1 n3 f1 f2 i0 i1))) := by kernel_rfl
theorem q13v2 : ∀ (m : Nat) (x0 : Int),
  loopH (eB A24v3 (C36 u) u) N13v2 m (s13v0 n0 n1 n2 n3 f0 f1 f2 i0 i1 i2 x0) k = L13v2 u n0 f0 n1 f1 i0 i1 n2 i2 n3 f2 m x0 (k .ret (s13v1 n3 n1 f2 f1)) (k (.exit 2) (s13v2 n1 n3 f1 f2 i0 i1))
 | 0,_ => rfl
 | m + 1,x0 => by
  rw [r13v2]
  simp only [L13v2,q13v2 m]
def N13v3 : St → Option St := nN 1 (0 :: (rl 2 22 (rl 27 34 [])))
def s13v3 : St := ⟨(.u :: .x (.ptr 0 0) :: (us 22 (.x (.c (ro (.pr (.sl kP) .nil) n0 f0)) :: vxi i0 :: vxi i1 :: (us 34 [])))),[.box [(.c (ro kP n1 f1)),(.c (ro (.pr (.sl kP) .nil) n0 f0))]]⟩
def s13v4 : St := ⟨(.u :: .u :: vxi i0 :: (us 58 [])),[.box [(.c (ro kP n0 f0)),(.c (ro (.pr (.sl kP) .nil) n1 f1))]]⟩
def s13v5 : St := ⟨(us 61 []),[.box [(.c (ro kP n0 f0)),(.c (ro (.pr (.sl kP) .nil) n1 f1))]]⟩
def L13v3 {ρ : Type} (u : Nat) (x0 : Nat) (x1 : FF) (x2 : Int) (x3 : Nat) (x4 : FF) : Nat → Int → (Int → Option ρ) → (Option ρ) → Option ρ
 | 0,_,_,_ => none
 | m + 1,x5,k0,k1 =>
  (bif (decide (x5 < x2)) then (bif (inb x5 x0) then (ob (F33 u (x1 x5.toNat 0).len (x1 x5.toNat 0).el) fun x6 => (bif (x6 != 0) then (k0 x6) else (ob (F34 u (x1 x5.toNat 0).len (x1 x5.toNat 0).el) fun x7 => (bif ((decide (x7 ≥ 0)) == false) then (ob (F35 u (x1 x5.toNat 0).len (x1 x5.toNat 0).el x3 x4) fun x8 => (bif (!x8) then (k0 17) else (bif (inbe x5 x0) then (L13v2 u (x1 x5.toNat 0).len (x1 x5.toNat 0).el x0 x1 x2 x5 (x5.toNat - 0) (Int.ofNat (x5.toNat - 0)) x3 x4 u 0
  (k0 17)
  (L13v3 u x0 x1 x2 x3 x4 m (w64 (x5 + 1)) k0 k1)) else none))) else (k0 17))))) else none) else k1)
theorem nl13v3 : ∀ (m : Nat) (x0 : Int) (k0 : Int → Option ρ) (k1 : Option ρ),ob (L13v3 u n0 f0 i0 n1 f1 m x0 k0 k1) ng = L13v3 u n0 f0 i0 n1 f1 m x0 (fun x1 => ob (k0 x1) ng) (ob k1 ng)
 | 0,_,_,_ => rfl
 | m + 1,x0,k0,k1 => by
  simp only [L13v3,ob_bif,ob_ob,ob_none,nl13v3 m,nl13v2]
def s13v6 : St := ⟨(.u :: .x (.ptr 0 0) :: .u :: .u :: vxi i0 :: .x (.c (ro kP (f0 i0.toNat 0).len (f0 i0.toNat 0).el)) :: (us 18 (.x (.c (ro (.pr (.sl kP) .nil) n0 f0)) :: vxi i1 :: vxi i0 :: vxb true :: vxi i0 :: .x (.c (.rp (.pr (.sl kP) .nil) (f0 i0.toNat))) :: .x (.c (ro kP (f0 i0.toNat 0).len (f0 i0.toNat 0).el)) :: (us 15 (.x (.ptr 0 1) :: .x (.c (ro (.pr (.sl kP) .nil) n0 f0)) :: vxi i0 :: .x (.c (ro (.pr (.sl kP) .nil) (i0.toNat - 0) f0)) :: vxi (Int.ofNat (i0.toNat - 0)) :: vxi 0 :: (us 9 [])))))),[.box [(.c (ro kP n1 f1)),(.c (ro (.pr (.sl kP) .nil) n0 f0))]]⟩
theorem r13v3 :
  loopH (eB A24v8 (C36 u) u) N13v3 (m + 1) (s13v3 n0 n1 f0 f1 i0 i1) k =
  (bif (decide (i1 < i0)) then (bif (inb i1 n0) then (ob (F33 u (f0 i1.toNat 0).len (f0 i1.toNat 0).el) fun x0 => (bif (x0 != 0) then (k .ret (s13v4 n1 n0 f1 f0 x0)) else (ob (F34 u (f0 i1.toNat 0).len (f0 i1.toNat 0).el) fun x1 => (bif ((decide (x1 ≥ 0)) == false) then (ob (F35 u (f0 i1.toNat 0).len (f0 i1.toNat 0).el n1 f1) fun x2 => (bif (!x2) then (k .ret (s13v4 n1 n0 f1 f0 17)) else (bif (inbe i1 n0) then (loopN (eB A24v3 (C36 u) u) N13v2 u (s13v6 n0 n1 f0 f1 i1 i0) (kBlk 2 (kBlk 1 (kSeq (C36 u) u (2 :: 4 :: 5 :: 6 :: 8 :: (rl 28 32 [])) A24v6 (kLoop (eB A24v8 (C36 u) u) N13v3 m k))))) else none))) else (k .ret (s13v4 n1 n0 f1 f0 17)))))) else none) else (k (.exit 0) (s13v5 n1 n0 f1 f0))) := by kernel_rfl
theorem t13v1 :
  loopN (eB A24v3 (C36 u) u) N13v2 u (s13v6 n0 n1 f0 f1 i0 i1) k =
  L13v2 u (f0 i0.toNat 0).len (f0 i0.toNat 0).el n0 f0 i1 i0 (i0.toNat - 0) (Int.ofNat (i0.toNat - 0)) n1 f1 u 0 (k .ret (s13v1 n1 n0 f1 f0)) (k (.exit 2) (s13v2 n0 n1 f0 f1 i1 i0)) :=
 Eq.trans (loopN_at (by kernel_rfl)) (q13v2 ..)
theorem g13v2 :
  (kBlk 2 (kBlk 1 (kSeq (C36 u) u (2 :: 4 :: 5 :: 6 :: 8 :: (rl 28 32 [])) A24v6 (kLoop (eB A24v8 (C36 u) u) N13v3 m k)))) .ret (s13v1 n0 n1 f0 f1) =
  (k .ret (s13v4 n0 n1 f0 f1 17)) := by kernel_rfl
theorem g13v3 :
  (kBlk 2 (kBlk 1 (kSeq (C36 u) u (2 :: 4 :: 5 :: 6 :: 8 :: (rl 28 32 [])) A24v6 (kLoop (eB A24v8 (C36 u) u) N13v3 m k)))) (.exit 2) (s13v2 n0 n1 f0 f1 i0 i1) =
  (loopH (eB A24v8 (C36 u) u) N13v3 m (s13v3 n0 n1 f0 f1 i0 (w64 (i1 + 1))) k) := by kernel_rfl
theorem q13v3 : ∀ (m : Nat) (x0 : Int),
  loopH (eB A24v8 (C36 u) u) N13v3 m (s13v3 n0 n1 f0 f1 i0 x0) k = L13v3 u n0 f0 i0 n1 f1 m x0 (fun x1 => k .ret (s13v4 n1 n0 f1 f0 x1)) (k (.exit 0) (s13v5 n1 n0 f1 f0))
 | 0,_ => rfl
 | m + 1,x0 => by
  rw [r13v3]
  simp only [L13v3,q13v3 m,t13v1,g13v2,g13v3]
def F13 (x0 : Nat) (x1 : FF) (x2 : Nat) (x3 : FF) : Option (Int) :=
 (bif (decide ((Int.ofNat x2) > 8)) then (some 12) else (ob (F33 u x0 x1) fun x4 => (bif (x4 != 0) then (some x4) else (ob (F34 u x0 x1) fun x5 => (bif (decide (x5 ≤ 0)) then (some 17) else (L13v3 u x2 x3 (Int.ofNat x2) x0 x1 u 0
  (fun x6 => (some x6))
  (some 0)))))))
def s13v7 : St := ⟨(.agg [(.c (ro kP n0 f0)),(.c (ro (.pr (.sl kP) .nil) n1 f1))] :: .x (.ptr 0 0) :: .u :: .u :: uu :: uu :: uu :: uu :: uu :: (us 14 [.x (.ptr 0 1),.x (.c (ro (.pr (.sl kP) .nil) n1 f1)),vxi (Int.ofNat n1),vxi 0,uu,uu,uu,uu,uu,uu,uu,uu,uu,uu,uu,uu,uu,uu,uu,uu,uu,uu,uu,uu,uu,uu,uu,uu,uu,uu,uu,uu,uu,uu,uu,uu,uu,uu])),[.box [(.c (ro kP n0 f0)),(.c (ro (.pr (.sl kP) .nil) n1 f1))]]⟩
theorem t13v4 :
  loopN (eB A24v8 (C36 u) u) N13v3 u (s13v7 n0 n1 f0 f1) k =
  L13v3 u n1 f1 (Int.ofNat n1) n0 f0 u 0 (fun x0 => k .ret (s13v4 n0 n1 f0 f1 x0)) (k (.exit 0) (s13v5 n0 n1 f0 f1)) :=
 Eq.trans (loopN_at (by kernel_rfl)) (q13v3 ..)
theorem g13v5 :
  (kBlk 0 (kSeq (C36 u) u (2 :: 4 :: 5 :: 6 :: 8 :: (rl 23 38 [])) A24v9 (finish A24))) .ret (s13v4 n0 n1 f0 f1 i0) =
  (some [.v (vi i0)]) := by kernel_rfl
theorem g13v6 :
  (kBlk 0 (kSeq (C36 u) u (2 :: 4 :: 5 :: 6 :: 8 :: (rl 23 38 [])) A24v9 (finish A24))) (.exit 0) (s13v5 n0 n1 f0 f1) =
  (some [.v (vi 0)]) := by kernel_rfl
theorem e13 : evalF (C36 u) u A24 [.agg [(ro kP n0 f0),(ro (.pr (.sl kP) .nil) n1 f1)]] = ob (F13 u n0 f0 n1 f1) fun t => some [.v (vi t)] := Eq.trans (b := (bif (decide ((Int.ofNat n1) > 8)) then (some [.v (vi 12)]) else (ob (F33 u n0 f0) fun x0 => (bif (x0 != 0) then (some [.v (vi x0)]) else (ob (F34 u n0 f0) fun x1 => (bif (decide (x1 ≤ 0)) then (some [.v (vi 17)]) else (loopN (eB A24v8 (C36 u) u) N13v3 u (s13v7 n0 n1 f0 f1) (kBlk 0 (kSeq (C36 u) u (2 :: 4 :: 5 :: 6 :: 8 :: (rl 23 38 [])) A24v9 (finish A24)))))))))) (by kernel_rfl) (by
 simp only [F13,ob_bif,ob_ob,ob_none,ob_some,nl13v3,t13v4,g13v5,g13v6])
def O13 : Ora := mkO (q1 (ag (tc (cL kP) (t1 (cL (.pr (.sl kP) .nil)))))) (fun x => F13 u x.1.1 x.1.2 x.2.1 x.2.2) fun t => [.v (vi t)]
theorem d13 : DO (O13 u) (C36 u) 24 A24 := dO u (fun x => by exact e13 u x.1.1 x.2.1 x.1.2 x.2.2)
def C37 : Oracle := (C36 u).add 24 (fun _ => true) (O13 u)
def A57 : AF := ⟨9,[.tmp 2],
 (.seq (.region 0 [o1 2 (sb false)] 0 none) []
 (.seq (.region 1 [mv 3 0,o1 4 (bk .geq 3 3 (-32768)),mv 5 4,og 6 (.move (tm 0)) 5 true,og 7 (bk .leq 3 6 32768) 5 true,o1 8 (po 5 7),o1 2 (sg 8)] 0 none) []
 (.ret (0 :: 1 :: (rl 3 6 [])))))⟩
def F173 (u : Nat) (x0 : Int) : Option (Bool) :=
 (bif ((decide (x0 ≥ (-32768))) == true) then (some (decide (x0 ≤ 32768))) else (some false))
theorem e173 : evalF (C37 u) u A57 [.v (vi i0)] = ob (F173 u i0) fun t => some [.v (.b t)] := Eq.trans (b := (bif ((decide (i0 ≥ (-32768))) == true) then (some [.v (.b (decide (i0 ≤ 32768)))]) else (some [.v (.b false)]))) (by kernel_rfl) (by
 simp only [F173,ob_bif,ob_ob,ob_none,ob_some])
def O173 : Ora := mkO (q1 (av ci)) (fun x => F173 u x) fun t => [.v (.b t)]
theorem d173 : DO (O173 u) (C37 u) 57 A57 := dO u (fun x => by exact e173 u x)
def C38 : Oracle := (C37 u).add 57 (fun _ => true) (O173 u)
def A32 : AF := ⟨26,[.tmp 2],
 (.seq (.region 0 [o1 1 (bx 0 43 0),o1 2 (sb false)] 1 none) []
 (.seq (.region 1 [o1 3 (.assign (.func 57))] 0 none) []
 (.seq (.region 2 [o1 4 (fa 43 1 2 3),o1 5 (lo 3 4),o1 6 (bk .geq 3 5 0),mv 7 6,og 8 (fa 43 1 2 3) 7 true,og 9 (lo 3 8) 7 true,og 10 (bk .leq 3 9 3) 7 true,o1 11 (po 7 10),mv 12 11,og 13 (.move (tm 3)) 12 true,og 14 (fa 43 1 1 1) 12 true,og 15 (fa 41 14 0 0) 12 true,og 16 (lo 3 15) 12 true,og 17 (.callv (tm 13) [(tm 16)] [3] .snap) 12 true,o1 18 (po 12 17),mv 19 18,og 20 (.move (tm 3)) 19 true,og 21 (fa 43 1 1 1) 19 true,og 22 (fa 41 21 1 1) 19 true,og 23 (lo 3 22) 19 true,og 24 (.callv (tm 20) [(tm 23)] [3] .snap) 19 true,o1 25 (po 19 24),o1 2 (sg 25)] 0 none) []
 (.ghost [0] (.ret (0 :: 1 :: (rl 3 23 [])))))))⟩
def F174 (x0 : ByteArray) (x1 x2 x3 : Int) (x4 : Bool) : Option (Bool) :=
 (bif ((decide (x3 ≥ 0)) == true) then (bif ((decide (x3 ≤ 3)) == true) then (ob (F173 u x1) fun x5 => (bif (x5 == true) then (ob (F173 u x2) fun x6 => (some x6)) else (some false))) else (some false)) else (some false))
theorem e174 : evalF (C38 u) u A32 [.agg [(.s w0),(vi i0),(vi i1),(vi i2),(.b b0)]] = ob (F174 u w0 i0 i1 i2 b0) fun t => some [.v (.b t)] := Eq.trans (b := (bif ((decide (i2 ≥ 0)) == true) then (bif ((decide (i2 ≤ 3)) == true) then (ob (F173 u i0) fun x0 => (bif (x0 == true) then (ob (F173 u i1) fun x1 => (some [.v (.b x1)])) else (some [.v (.b false)]))) else (some [.v (.b false)])) else (some [.v (.b false)]))) (by kernel_rfl) (by
 simp only [F174,ob_bif,ob_ob,ob_none,ob_some])
def O174 : Ora := mkO (q1 (ag (tc cS (tc ci (tc ci (tc ci (t1 cB))))))) (fun x => F174 u x.1 x.2.1 x.2.2.1 x.2.2.2.1 x.2.2.2.2) fun t => [.v (.b t)]
theorem d174 : DO (O174 u) (C38 u) 32 A32 := dO u (fun x => by exact e174 u x.2.1 x.2.2.1 x.2.2.2.1 x.2.2.2.2 x.1)
def C39 : Oracle := (C38 u).add 32 (fun _ => true) (O174 u)
def A50 : AF := ⟨15,[.tmp 6],
 (.seq (.region 0 [o1 6 (sb false)] 0 none) []
 (.seq (.region 1 [mv 7 0,mv 8 1,o1 9 (bt .geq 3 7 8),mv 10 9,og 11 (.move (tm 0)) 10 true,og 12 (.move (tm 2)) 10 true,og 13 (bt .leq 3 11 12) 10 true,o1 14 (po 10 13),o1 6 (sg 14)] 0 none) []
 (.ret (rl 0 6 (rl 7 8 [])))))⟩
def F60 (u : Nat) (x0 x1 x2 : Int) : Option (Bool) :=
 (bif ((decide (x0 ≥ x1)) == true) then (some (decide (x0 ≤ x2))) else (some false))
theorem e60 : evalF (C39 u) u A50 [.v (vi i0),.v (vi i1),.v (vi i2)] = ob (F60 u i0 i1 i2) fun t => some [.v (.b t)] := Eq.trans (b := (bif ((decide (i0 ≥ i1)) == true) then (some [.v (.b (decide (i0 ≤ i2)))]) else (some [.v (.b false)]))) (by kernel_rfl) (by
 simp only [F60,ob_bif,ob_ob,ob_none,ob_some])
def O60 : Ora := mkO (qc (av ci) (qc (av ci) (q1 (av ci)))) (fun x => F60 u x.1 x.2.1 x.2.2) fun t => [.v (.b t)]
theorem d60 : DO (O60 u) (C39 u) 50 A50 := dO u (fun x => by exact e60 u x.1 x.2.1 x.2.2)
def C40 : Oracle := (C39 u).add 50 (fun _ => true) (O60 u)
def A25v1 : AC := (.region 9 [o1 61 (bk .add 3 37 1),mv 37 61] 0 none)
def A25v2 : AC := (.seq (.block 1
 (.seq (.region 6 [o1 39 (.indexAddr 47 41 2 (tm 35) (tm 37)),o1 40 (ln 41 2 39),o1 11 (.alloc 0 41 [vci 0,vci 0]),o0 (.store 41 2 (tm 11) (tm 40))] 1 none) []
  (.seq (.region 7 [mv 41 9,o1 42 (fa 41 11 0 0),o1 43 (lo 3 42),mv 44 3,mv 45 1,mv 46 3,o1 47 (bt .sub 3 45 46),o1 48 (.callv (tm 41) [(tm 43),(tm 44),(tm 47)] [3,3,3] .snap),o1 49 (.unOp .not 4 (tm 48)),mv 50 49,og 51 (.move (tm 9)) 50 false,og 52 (fa 41 11 1 1) 50 false,og 53 (lo 3 52) 50 false,og 54 (.move (tm 3)) 50 false,og 55 (.move (tm 2)) 50 false,og 56 (.move (tm 3)) 50 false,og 57 (bt .sub 3 55 56) 50 false,og 58 (.callv (tm 51) [(tm 53),(tm 54),(tm 57)] [3,3,3] .snap) 50 false,og 59 (.unOp .not 4 (tm 58)) 50 false,o1 60 (pa 50 59)] 0 none) []
  (.cond (tm 60)
  (.seq (.region 8 [o1 8 (sb false)] 0 none) []
   (.ret (rl 0 8 (rl 9 53 []))))
  .skip)))) (8 :: 11 :: (rl 39 22 []))
 A25v1)
def A25v3 : AC := (.seq (.region 5 [o1 38 (bt .lss 3 37 36)] 0 none) []
 (.seq (.cond (tm 38)
 .skip
 (.exit 0 (rl 0 62 []))) []
 A25v2))
def A25v4 : AC := (.seq (.region 10 [o1 8 (sb true)] 0 none) []
 (.ret (rl 0 8 (rl 9 53 []))))
def A25v5 : AC := (.seq (.seq (.region 4 [o1 34 (fa 50 4 0 0),o1 35 (lo 47 34),o1 36 (.len 47 false (tm 35)),o1 37 (.move (ic 0))] 0 none) []
 (.block 0
 (.loop [] (0 :: (rl 4 5 (rl 10 25 (rl 38 24 []))))
  A25v3))) (8 :: 11 :: (rl 34 28 []))
 A25v4)
def A25 : AF := ⟨62,[.tmp 8],
 (.seq (.region 0 [o1 4 (bx 0 50 0),o1 8 (sb false)] 1 none) []
 (.seq (.region 1 [o1 9 (.assign (.func 50))] 0 none) []
 (.seq (.seq (.region 2 [o1 12 (fa 50 4 0 0),o1 13 (lo 47 12),o1 14 (.len 47 false (tm 13)),o1 15 (bk .eql 3 14 0),mv 16 15,og 17 (.move (tm 9)) 16 false,og 18 (.move (tm 1)) 16 false,og 19 (.callv (tm 17) [(tm 18),(ic 0),(ic 32768)] [3,3,3] .snap) 16 false,og 20 (.unOp .not 4 (tm 19)) 16 false,o1 21 (pa 16 20),mv 22 21,og 23 (.move (tm 9)) 22 false,og 24 (.move (tm 2)) 22 false,og 25 (.callv (tm 23) [(tm 24),(ic 0),(ic 32768)] [3,3,3] .snap) 22 false,og 26 (.unOp .not 4 (tm 25)) 22 false,o1 27 (pa 22 26),mv 28 27,og 29 (.move (tm 9)) 28 false,og 30 (.move (tm 3)) 28 false,og 31 (.callv (tm 29) [(tm 30),(ic 0),(ic 1000)] [3,3,3] .snap) 28 false,og 32 (.unOp .not 4 (tm 31)) 28 false,o1 33 (pa 28 32)] 0 none) []
 (.cond (tm 33)
 (.seq (.region 3 [o1 8 (sb false)] 0 none) []
  (.ret (rl 0 8 (rl 9 53 []))))
 .skip)) (8 :: (rl 12 22 []))
 A25v5)))⟩
def N29v1 : St → Option St := nN 1 (0 :: (rl 4 5 (rl 10 25 (rl 38 24 []))))
def s29v0 : St := ⟨(.u :: vxi i0 :: vxi i1 :: vxi i2 :: (us 5 (.x (.fn 50 []) :: (us 25 (.x (.c (ro kP n0 f0)) :: vxi i3 :: vxi i4 :: (us 24 [])))))),[.box [(.c (ro kP n0 f0)),(.c (ro (.pr (.sl kP) .nil) n1 f1))]]⟩
def s29v1 : St := ⟨(us 8 (vxb false :: (us 53 []))),[.box [(.c (ro kP n0 f0)),(.c (ro (.pr (.sl kP) .nil) n1 f1))],.box [(vci i0),(vci i1)]]⟩
def s29v2 : St := ⟨(us 62 []),[.box [(.c (ro kP n0 f0)),(.c (ro (.pr (.sl kP) .nil) n1 f1))]]⟩
def L29v1 {ρ : Type} (u : Nat) (x0 x1 x2 : Int) (x3 : Nat) (x4 : FF) (x5 : Int) (x6 : Nat) (x7 : FF) : Nat → Int → (Int → Int → Option ρ) → (Option ρ) → Option ρ
 | 0,_,_,_ => none
 | m + 1,x8,k0,k1 =>
  (bif (decide (x8 < x5)) then (bif (inb x8 x3) then (ob (F60 u (x4 x8.toNat 0).int x2 (w64 (x0 - x2))) fun x9 => (bif ((!x9) == false) then (ob (F60 u (x4 x8.toNat 1).int x2 (w64 (x1 - x2))) fun xA => (bif (!xA) then (k0 (x4 x8.toNat 0).int (x4 x8.toNat 1).int) else (L29v1 u x0 x1 x2 x3 x4 x5 x6 x7 m (w64 (x8 + 1)) k0 k1))) else (k0 (x4 x8.toNat 0).int (x4 x8.toNat 1).int))) else none) else k1)
theorem nl29v1 : ∀ (m : Nat) (x0 : Int) (k0 : Int → Int → Option ρ) (k1 : Option ρ),ob (L29v1 u i0 i1 i2 n0 f0 i3 n1 f1 m x0 k0 k1) ng = L29v1 u i0 i1 i2 n0 f0 i3 n1 f1 m x0 (fun x1 x2 => ob (k0 x1 x2) ng) (ob k1 ng)
 | 0,_,_,_ => rfl
 | m + 1,x0,k0,k1 => by
  simp only [L29v1,ob_bif,ob_ob,ob_none,nl29v1 m]
theorem r29v1 :
  loopH (eB A25v3 (C40 u) u) N29v1 (m + 1) (s29v0 n0 n1 f0 f1 i0 i1 i2 i3 i4) k =
  (bif (decide (i4 < i3)) then (bif (inb i4 n0) then (ob (F60 u (f0 i4.toNat 0).int i2 (w64 (i0 - i2))) fun x0 => (bif ((!x0) == false) then (ob (F60 u (f0 i4.toNat 1).int i2 (w64 (i1 - i2))) fun x1 => (bif (!x1) then (k .ret (s29v1 n0 n1 f0 f1 (f0 i4.toNat 0).int (f0 i4.toNat 1).int)) else (loopH (eB A25v3 (C40 u) u) N29v1 m (s29v0 n0 n1 f0 f1 i0 i1 i2 i3 (w64 (i4 + 1))) k))) else (k .ret (s29v1 n0 n1 f0 f1 (f0 i4.toNat 0).int (f0 i4.toNat 1).int)))) else none) else (k (.exit 0) (s29v2 n0 n1 f0 f1))) := by kernel_rfl
theorem q29v1 : ∀ (m : Nat) (x0 : Int),
  loopH (eB A25v3 (C40 u) u) N29v1 m (s29v0 n0 n1 f0 f1 i0 i1 i2 i3 x0) k = L29v1 u i0 i1 i2 n0 f0 i3 n1 f1 m x0 (fun x1 x2 => k .ret (s29v1 n0 n1 f0 f1 x1 x2)) (k (.exit 0) (s29v2 n0 n1 f0 f1))
 | 0,_ => rfl
 | m + 1,x0 => by
  rw [r29v1]
  simp only [L29v1,q29v1 m]
def F29 (x0 : Nat) (x1 : FF) (x2 : Nat) (x3 : FF) (x4 x5 x6 : Int) : Option (Bool) :=
 (bif (((Int.ofNat x0) == 0) == false) then (ob (F60 u x4 0 32768) fun x7 => (bif ((!x7) == false) then (ob (F60 u x5 0 32768) fun x8 => (bif ((!x8) == false) then (ob (F60 u x6 0 1000) fun x9 => (bif (!x9) then (some false) else (L29v1 u x4 x5 x6 x0 x1 (Int.ofNat x0) x2 x3 u 0
  (fun xA xB => (some false))
  (some true)))) else (some false))) else (some false))) else (some false))
def s29v3 : St := ⟨(.agg [(.c (ro kP n0 f0)),(.c (ro (.pr (.sl kP) .nil) n1 f1))] :: vxi i0 :: vxi i1 :: vxi i2 :: .x (.ptr 0 0) :: uu :: uu :: uu :: .u :: .x (.fn 50 []) :: uu :: uu :: (us 22 [.x (.ptr 0 0),.x (.c (ro kP n0 f0)),vxi (Int.ofNat n0),vxi 0,uu,uu,uu,uu,uu,uu,uu,uu,uu,uu,uu,uu,uu,uu,uu,uu,uu,uu,uu,uu,uu,uu,uu,uu])),[.box [(.c (ro kP n0 f0)),(.c (ro (.pr (.sl kP) .nil) n1 f1))]]⟩
theorem t29v1 :
  loopN (eB A25v3 (C40 u) u) N29v1 u (s29v3 n0 n1 f0 f1 i0 i1 i2) k =
  L29v1 u i0 i1 i2 n0 f0 (Int.ofNat n0) n1 f1 u 0 (fun x0 x1 => k .ret (s29v1 n0 n1 f0 f1 x0 x1)) (k (.exit 0) (s29v2 n0 n1 f0 f1)) :=
 Eq.trans (loopN_at (by kernel_rfl)) (q29v1 ..)
theorem g29v2 :
  (kBlk 0 (kSeq (C40 u) u (8 :: 11 :: (rl 34 28 [])) A25v4 (finish A25))) .ret (s29v1 n0 n1 f0 f1 i0 i1) =
  (some [.v (.b false)]) := by kernel_rfl
theorem g29v3 :
  (kBlk 0 (kSeq (C40 u) u (8 :: 11 :: (rl 34 28 [])) A25v4 (finish A25))) (.exit 0) (s29v2 n0 n1 f0 f1) =
  (some [.v (.b true)]) := by kernel_rfl
theorem e29 : evalF (C40 u) u A25 [.agg [(ro kP n0 f0),(ro (.pr (.sl kP) .nil) n1 f1)],.v (vi i0),.v (vi i1),.v (vi i2)] = ob (F29 u n0 f0 n1 f1 i0 i1 i2) fun t => some [.v (.b t)] := Eq.trans (b := (bif (((Int.ofNat n0) == 0) == false) then (ob (F60 u i0 0 32768) fun x0 => (bif ((!x0) == false) then (ob (F60 u i1 0 32768) fun x1 => (bif ((!x1) == false) then (ob (F60 u i2 0 1000) fun x2 => (bif (!x2) then (some [.v (.b false)]) else (loopN (eB A25v3 (C40 u) u) N29v1 u (s29v3 n0 n1 f0 f1 i0 i1 i2) (kBlk 0 (kSeq (C40 u) u (8 :: 11 :: (rl 34 28 [])) A25v4 (finish A25)))))) else (some [.v (.b false)]))) else (some [.v (.b false)]))) else (some [.v (.b false)]))) (by kernel_rfl) (by
 simp only [F29,ob_bif,ob_ob,ob_none,ob_some,nl29v1,t29v1,g29v2,g29v3])
def O29 : Ora := mkO (qc (ag (tc (cL kP) (t1 (cL (.pr (.sl kP) .nil))))) (qc (av ci) (qc (av ci) (q1 (av ci))))) (fun x => F29 u x.1.1.1 x.1.1.2 x.1.2.1 x.1.2.2 x.2.1 x.2.2.1 x.2.2.2) fun t => [.v (.b t)]
theorem d29 : DO (O29 u) (C40 u) 25 A25 := dO u (fun x => by exact e29 u x.1.1.1 x.1.2.1 x.1.1.2 x.1.2.2 x.2.1 x.2.2.1 x.2.2.2)
def C41 : Oracle := (C40 u).add 25 (fun _ => true) (O29 u)
def A40v1 : AC := (.region 10 [o1 30 (bk .add 3 19 1),mv 19 30] 0 none)
def A40v2 : AC := (.seq (.block 1
 (.seq (.region 6 [o1 21 (.indexAddr 48 47 1 (tm 17) (tm 19)),o1 22 (lo 47 21),o1 7 (sg 22)] 0 none) []
  (.seq (.region 7 [mv 23 7,o1 24 (ln 41 2 3),o1 25 (cs 67 [23,24] [47,41]),o1 8 (sg 25)] 0 none) []
  (.seq (.region 8 [mv 26 8,o1 27 (bk .geq 3 26 0)] 0 none) []
  (.cond (tm 27)
  (.seq (.region 9 [mv 28 8,o1 29 (.unOp .neg 3 (tm 28)),o1 4 (sg 29)] 0 none) []
   (.ret (rl 0 4 (rl 5 26 []))))
  .skip))))) (4 :: 7 :: 8 :: (rl 21 9 []))
 A40v1)
def A40v3 : AC := (.seq (.region 5 [o1 20 (bt .lss 3 19 18)] 0 none) []
 (.seq (.cond (tm 20)
 .skip
 (.exit 0 (rl 0 31 []))) []
 A40v2))
def A40v4 : AC := (.seq (.region 11 [o1 4 (sk 1)] 0 none) []
 (.ret (rl 0 4 (rl 5 26 []))))
def A40v5 : AC := (.seq (.seq (.region 4 [o1 16 (fa 50 2 1 1),o1 17 (lo 48 16),o1 18 (.len 48 false (tm 17)),o1 19 (.move (ic 0))] 0 none) []
 (.block 0
 (.loop [] (0 :: 1 :: 2 :: (rl 4 13 (rl 20 11 [])))
  A40v3))) (4 :: 7 :: 8 :: (rl 16 15 []))
 A40v4)
def A40 : AF := ⟨31,[.tmp 4],
 (.seq (.region 0 [o1 2 (bx 0 50 0),o1 3 (bx 1 41 1),o1 4 (sk 0)] 2 none) []
 (.seq (.seq (.region 1 [o1 9 (fa 50 2 0 0),o1 10 (lo 47 9),o1 11 (ln 41 2 3),o1 12 (cs 67 [10,11] [47,41]),o1 5 (sg 12)] 0 none) []
 (.seq (.region 2 [mv 13 5,o1 14 (bk .leq 3 13 0)] 0 none) []
 (.cond (tm 14)
 (.seq (.region 3 [mv 15 5,o1 4 (sg 15)] 0 none) []
  (.ret (rl 0 4 (rl 5 26 []))))
 .skip))) (4 :: 5 :: (rl 9 7 []))
 A40v5))⟩
def N47v1 : St → Option St := nN 2 (0 :: 1 :: 2 :: (rl 4 13 (rl 20 11 [])))
def s47v0 : St := ⟨(us 3 (.x (.ptr 1 0) :: (us 13 (.x (.c (ro (.pr (.sl kP) .nil) n0 f0)) :: vxi i0 :: vxi i1 :: (us 11 []))))),[.box [(.c (ro kP n1 f1)),(.c (ro (.pr (.sl kP) .nil) n0 f0))],.box [(vci i2),(vci i3)]]⟩
def s47v1 : St := ⟨(us 4 (vxi i0 :: (us 26 []))),[.box [(.c (ro kP n0 f0)),(.c (ro (.pr (.sl kP) .nil) n1 f1))],.box [(vci i1),(vci i2)]]⟩
def s47v2 : St := ⟨(us 31 []),[.box [(.c (ro kP n0 f0)),(.c (ro (.pr (.sl kP) .nil) n1 f1))],.box [(vci i0),(vci i1)]]⟩
def L47v1 {ρ : Type} (u : Nat) (x0 : Nat) (x1 : FF) (x2 : Int) (x3 : Nat) (x4 : FF) (x5 x6 : Int) : Nat → Int → (Int → Option ρ) → (Option ρ) → Option ρ
 | 0,_,_,_ => none
 | m + 1,x7,k0,k1 =>
  (bif (decide (x7 < x2)) then (bif (inb x7 x0) then (ob (F65 u (x1 x7.toNat 0).len (x1 x7.toNat 0).el x5 x6) fun x8 => (bif (decide (x8 ≥ 0)) then (k0 (w64 (0 - x8))) else (L47v1 u x0 x1 x2 x3 x4 x5 x6 m (w64 (x7 + 1)) k0 k1))) else none) else k1)
theorem nl47v1 : ∀ (m : Nat) (x0 : Int) (k0 : Int → Option ρ) (k1 : Option ρ),ob (L47v1 u n0 f0 i0 n1 f1 i1 i2 m x0 k0 k1) ng = L47v1 u n0 f0 i0 n1 f1 i1 i2 m x0 (fun x1 => ob (k0 x1) ng) (ob k1 ng)
 | 0,_,_,_ => rfl
 | m + 1,x0,k0,k1 => by
  simp only [L47v1,ob_bif,ob_ob,ob_none,nl47v1 m]
theorem r47v1 :
  loopH (eB A40v3 (C41 u) u) N47v1 (m + 1) (s47v0 n0 n1 f0 f1 i0 i3 i1 i2) k =
  (bif (decide (i3 < i0)) then (bif (inb i3 n0) then (ob (F65 u (f0 i3.toNat 0).len (f0 i3.toNat 0).el i1 i2) fun x0 => (bif (decide (x0 ≥ 0)) then (k .ret (s47v1 n1 n0 f1 f0 (w64 (0 - x0)) i1 i2)) else (loopH (eB A40v3 (C41 u) u) N47v1 m (s47v0 n0 n1 f0 f1 i0 (w64 (i3 + 1)) i1 i2) k))) else none) else (k (.exit 0) (s47v2 n1 n0 f1 f0 i1 i2))) := by kernel_rfl
theorem q47v1 : ∀ (m : Nat) (x0 : Int),
  loopH (eB A40v3 (C41 u) u) N47v1 m (s47v0 n0 n1 f0 f1 i0 x0 i1 i2) k = L47v1 u n0 f0 i0 n1 f1 i1 i2 m x0 (fun x1 => k .ret (s47v1 n1 n0 f1 f0 x1 i1 i2)) (k (.exit 0) (s47v2 n1 n0 f1 f0 i1 i2))
 | 0,_ => rfl
 | m + 1,x0 => by
  rw [r47v1]
  simp only [L47v1,q47v1 m]
def F47 (x0 : Nat) (x1 : FF) (x2 : Nat) (x3 : FF) (x4 x5 : Int) : Option (Int) :=
 (ob (F65 u x0 x1 x4 x5) fun x6 => (bif (decide (x6 ≤ 0)) then (some x6) else (L47v1 u x2 x3 (Int.ofNat x2) x0 x1 x4 x5 u 0
  (fun x7 => (some x7))
  (some 1))))
def s47v3 : St := ⟨(.agg [(.c (ro kP n0 f0)),(.c (ro (.pr (.sl kP) .nil) n1 f1))] :: .agg [(vci i0),(vci i1)] :: .x (.ptr 0 0) :: .x (.ptr 1 0) :: .u :: .u :: uu :: uu :: uu :: (us 7 [.x (.ptr 0 1),.x (.c (ro (.pr (.sl kP) .nil) n1 f1)),vxi (Int.ofNat n1),vxi 0,uu,uu,uu,uu,uu,uu,uu,uu,uu,uu,uu])),[.box [(.c (ro kP n0 f0)),(.c (ro (.pr (.sl kP) .nil) n1 f1))],.box [(vci i0),(vci i1)]]⟩
theorem t47v1 :
  loopN (eB A40v3 (C41 u) u) N47v1 u (s47v3 n0 n1 f0 f1 i0 i1) k =
  L47v1 u n1 f1 (Int.ofNat n1) n0 f0 i0 i1 u 0 (fun x0 => k .ret (s47v1 n0 n1 f0 f1 x0 i0 i1)) (k (.exit 0) (s47v2 n0 n1 f0 f1 i0 i1)) :=
 Eq.trans (loopN_at (by kernel_rfl)) (q47v1 ..)
theorem g47v2 :
  (kBlk 0 (kSeq (C41 u) u (4 :: 7 :: 8 :: (rl 16 15 [])) A40v4 (finish A40))) .ret (s47v1 n0 n1 f0 f1 i0 i1 i2) =
  (some [.v (vi i0)]) := by kernel_rfl
theorem g47v3 :
  (kBlk 0 (kSeq (C41 u) u (4 :: 7 :: 8 :: (rl 16 15 [])) A40v4 (finish A40))) (.exit 0) (s47v2 n0 n1 f0 f1 i0 i1) =
  (some [.v (vi 1)]) := by kernel_rfl
theorem e47 : evalF (C41 u) u A40 [.agg [(ro kP n0 f0),(ro (.pr (.sl kP) .nil) n1 f1)],.agg [(vi i0),(vi i1)]] = ob (F47 u n0 f0 n1 f1 i0 i1) fun t => some [.v (vi t)] := Eq.trans (b := (ob (F65 u n0 f0 i0 i1) fun x0 => (bif (decide (x0 ≤ 0)) then (some [.v (vi x0)]) else (loopN (eB A40v3 (C41 u) u) N47v1 u (s47v3 n0 n1 f0 f1 i0 i1) (kBlk 0 (kSeq (C41 u) u (4 :: 7 :: 8 :: (rl 16 15 [])) A40v4 (finish A40))))))) (by kernel_rfl) (by
 simp only [F47,ob_bif,ob_ob,ob_none,ob_some,nl47v1,t47v1,g47v2,g47v3])
def O47 : Ora := mkO (qc (ag (tc (cL kP) (t1 (cL (.pr (.sl kP) .nil))))) (q1 (ag (tc ci (t1 ci))))) (fun x => F47 u x.1.1.1 x.1.1.2 x.1.2.1 x.1.2.2 x.2.1 x.2.2) fun t => [.v (vi t)]
theorem d47 : DO (O47 u) (C41 u) 40 A40 := dO u (fun x => by exact e47 u x.1.1.1 x.1.2.1 x.1.1.2 x.1.2.2 x.2.1 x.2.2)
def C42 : Oracle := (C41 u).add 40 (fun _ => true) (O47 u)
def A85v1 : AC := (.region 10 [o1 22 (bk .add 3 8 1),mv 8 22] 0 none)
def A85v2 : AC := (.seq (.block 1
 (.seq (.region 6 [mv 10 8,o1 4 (sg 10)] 0 none) []
  (.seq (.region 7 [mv 11 3,mv 12 4,o1 13 (.binOp .sub 3 (ic 31) (tm 12) 3),o1 14 (.binOp .shl 3 (ic 1) (tm 13) 3),o1 15 (bt .or 3 11 14),o1 5 (sg 15)] 0 none) []
  (.seq (.region 8 [mv 16 5,mv 17 0,mv 18 5,o1 19 (bt .quo 3 17 18),o1 20 (bt .leq 3 16 19)] 0 none) []
  (.cond (tm 20)
  (.region 9 [mv 21 5,o1 3 (sg 21)] 0 none)
  .skip))))) (4 :: 5 :: (rl 10 12 []))
 A85v1)
def A85v3 : AC := (.seq (.region 5 [o1 9 (bk .lss 3 8 32)] 0 none) []
 (.seq (.cond (tm 9)
 .skip
 (.exit 0 (0 :: 1 :: 2 :: (rl 4 20 [])))) []
 A85v2))
def A85v4 : AC := (.seq (.region 11 [mv 23 3,o1 2 (sg 23)] 0 none) []
 (.ret (0 :: 1 :: (rl 3 21 []))))
def A85v5 : AC := (.seq (.region 3 [o1 3 (sk 0)] 0 none) []
 (.seq (.seq (.region 4 [o1 8 (.move (ic 0))] 0 none) []
 (.block 0
 (.loop [] (1 :: 2 :: (rl 4 4 (rl 9 15 [])))
  A85v3))) (4 :: 5 :: (rl 8 15 []))
 A85v4))
def A85 : AF := ⟨24,[.tmp 2],
 (.seq (.region 0 [o1 2 (sk 0)] 0 none) []
 (.seq (.seq (.region 1 [mv 6 0,o1 7 (bk .lss 3 6 0)] 0 none) []
 (.cond (tm 7)
 (.seq (.region 2 [o1 2 (sk 0)] 0 none) []
  (.ret (0 :: 1 :: (rl 3 21 []))))
 .skip)) [2,6,7]
 A85v5))⟩
def N85v1 : St → Option St := nN 0 (1 :: 2 :: (rl 4 4 (rl 9 15 [])))
def s85v0 : St := ⟨(vxi i0 :: .u :: .u :: vxi i1 :: (us 4 (vxi i2 :: (us 15 [])))),[]⟩
def s85v1 : St := ⟨(us 3 (vxi i0 :: (us 20 []))),[]⟩
def L85v1 {ρ : Type} (u : Nat) (x0 : Int) : Nat → Int → Int → (Int → Option ρ) → Option ρ
 | 0,_,_,_ => none
 | m + 1,x1,x2,k0 =>
  (bif (decide (x2 < 32)) then (bif (decide (0 ≤ (w64 (31 - x2))) && decide ((w64 (31 - x2)) ≤ 64)) then (bif ((bits .or .i64 x1 (w64 (1 * 2 ^ (Int.toNat (w64 (31 - x2)))))) == 0) then none else (bif (decide ((bits .or .i64 x1 (w64 (1 * 2 ^ (Int.toNat (w64 (31 - x2)))))) ≤ (w64 (Int.tdiv x0 (bits .or .i64 x1 (w64 (1 * 2 ^ (Int.toNat (w64 (31 - x2)))))))))) then (L85v1 u x0 m (bits .or .i64 x1 (w64 (1 * 2 ^ (Int.toNat (w64 (31 - x2)))))) (w64 (x2 + 1)) k0) else (L85v1 u x0 m x1 (w64 (x2 + 1)) k0))) else none) else (k0 x1))
theorem nl85v1 : ∀ (m : Nat) (x0 x1 : Int) (k0 : Int → Option ρ),ob (L85v1 u i0 m x0 x1 k0) ng = L85v1 u i0 m x0 x1 (fun x2 => ob (k0 x2) ng)
 | 0,_,_,_ => rfl
 | m + 1,x0,x1,k0 => by
  simp only [L85v1,ob_bif,ob_ob,ob_none,nl85v1 m]
theorem r85v1 :
  loopH (eB A85v3 (C42 u) u) N85v1 (m + 1) (s85v0 i0 i1 i2) k =
  (bif (decide (i2 < 32)) then (bif (decide (0 ≤ (w64 (31 - i2))) && decide ((w64 (31 - i2)) ≤ 64)) then (bif ((bits .or .i64 i1 (w64 (1 * 2 ^ (Int.toNat (w64 (31 - i2)))))) == 0) then none else (bif (decide ((bits .or .i64 i1 (w64 (1 * 2 ^ (Int.toNat (w64 (31 - i2)))))) ≤ (w64 (Int.tdiv i0 (bits .or .i64 i1 (w64 (1 * 2 ^ (Int.toNat (w64 (31 - i2)))))))))) then (loopH (eB A85v3 (C42 u) u) N85v1 m (s85v0 i0 (bits .or .i64 i1 (w64 (1 * 2 ^ (Int.toNat (w64 (31 - i2)))))) (w64 (i2 + 1))) k) else (loopH (eB A85v3 (C42 u) u) N85v1 m (s85v0 i0 i1 (w64 (i2 + 1))) k))) else none) else (k (.exit 0) (s85v1 i1))) := by kernel_rfl
theorem q85v1 : ∀ (m : Nat) (x0 x1 : Int),
  loopH (eB A85v3 (C42 u) u) N85v1 m (s85v0 i0 x0 x1) k = L85v1 u i0 m x0 x1 (fun x2 => k (.exit 0) (s85v1 x2))
 | 0,_,_ => rfl
 | m + 1,x0,x1 => by
  rw [r85v1]
  simp only [L85v1,q85v1 m]
def F85 (x0 : Int) : Option (Int) :=
 (bif (decide (x0 < 0)) then (some 0) else (L85v1 u x0 u 0 0
  (fun x1 => (some x1))))
def s85v2 : St := ⟨[vxi i0,uu,.u,vxi 0,uu,uu,.u,.u,vxi 0,uu,uu,uu,uu,uu,uu,uu,uu,uu,uu,uu,uu,uu,uu,uu],[]⟩
theorem t85v1 :
  loopN (eB A85v3 (C42 u) u) N85v1 u (s85v2 i0) k =
  L85v1 u i0 u 0 0 (fun x0 => k (.exit 0) (s85v1 x0)) :=
 Eq.trans (loopN_at (by kernel_rfl)) (q85v1 ..)
theorem g85v2 :
  (kBlk 0 (kSeq (C42 u) u (4 :: 5 :: (rl 8 15 [])) A85v4 (finish A85))) (.exit 0) (s85v1 i0) =
  (some [.v (vi i0)]) := by kernel_rfl
theorem e85 : evalF (C42 u) u A85 [.v (vi i0)] = ob (F85 u i0) fun t => some [.v (vi t)] := Eq.trans (b := (bif (decide (i0 < 0)) then (some [.v (vi 0)]) else (loopN (eB A85v3 (C42 u) u) N85v1 u (s85v2 i0) (kBlk 0 (kSeq (C42 u) u (4 :: 5 :: (rl 8 15 [])) A85v4 (finish A85)))))) (by kernel_rfl) (by
 simp only [F85,ob_bif,ob_ob,ob_none,ob_some,nl85v1,t85v1,g85v2])
def O85 : Ora := mkO (q1 (av ci)) (fun x => F85 u x) fun t => [.v (vi t)]
theorem d85 : DO (O85 u) (C42 u) 85 A85 := dO u (fun x => by exact e85 u x)
def C43 : Oracle := (C42 u).add 85 (fun _ => true) (O85 u)
def A71v1 : AC := (.seq (.region 4 [mv 13 3,o1 2 (sg 13)] 0 none) []
 (.ret (0 :: 1 :: (rl 3 11 []))))
def A71 : AF := ⟨14,[.tmp 2],
 (.seq (.region 0 [o1 2 (sk 0)] 0 none) []
 (.seq (.region 1 [mv 4 0,o1 5 (cs 85 [4] [3]),o1 3 (sg 5)] 0 none) []
 (.seq (.seq (.region 2 [mv 6 3,mv 7 3,o1 8 (bt .mul 3 6 7),mv 9 0,o1 10 (bt .lss 3 8 9)] 0 none) []
 (.cond (tm 10)
 (.region 3 [mv 11 3,o1 12 (bk .add 3 11 1),o1 3 (sg 12)] 0 none)
 .skip)) (rl 6 7 [])
 A71v1)))⟩
def F77 (x0 : Int) : Option (Int) :=
 (ob (F85 u x0) fun x1 => (bif (decide ((w64 (x1 * x1)) < x0)) then (some (w64 (x1 + 1))) else (some x1)))
theorem e77 : evalF (C43 u) u A71 [.v (vi i0)] = ob (F77 u i0) fun t => some [.v (vi t)] := Eq.trans (b := (ob (F85 u i0) fun x0 => (bif (decide ((w64 (x0 * x0)) < i0)) then (some [.v (vi (w64 (x0 + 1)))]) else (some [.v (vi x0)])))) (by kernel_rfl) (by
 simp only [F77,ob_bif,ob_ob,ob_none,ob_some])
def O77 : Ora := mkO (q1 (av ci)) (fun x => F77 u x) fun t => [.v (vi t)]
theorem d77 : DO (O77 u) (C43 u) 71 A71 := dO u (fun x => by exact e77 u x)
def C44 : Oracle := (C43 u).add 71 (fun _ => true) (O77 u)
def A43v1 : AC := (.seq (.region 10 [o1 81 (fa 41 4 0 0),o1 82 (lo 3 81),o1 83 (fa 41 13 0 0),o1 84 (lo 3 83),o1 85 (bt .sub 3 82 84),o1 86 (fa 41 4 1 1),o1 87 (lo 3 86),o1 88 (fa 41 13 1 1),o1 89 (lo 3 88),o1 90 (bt .sub 3 87 89),o1 14 (sg 85),o1 15 (sg 90)] 0 (some [[],[0],[],[2],(rl 0 4 []),[],[5],[],[7],(rl 5 4 []),(rl 0 5 []),(rl 0 11 [])])) []
 (.seq (.region 11 [mv 91 14,mv 92 14,o1 93 (bt .mul 3 91 92),mv 94 15,mv 95 15,o1 96 (bt .mul 3 94 95),o1 97 (bt .add 3 93 96),mv 98 3,mv 99 3,o1 100 (bt .mul 3 98 99),o1 101 (bt .lss 3 97 100),o1 8 (sg 101)] 0 none) []
 (.ret (rl 0 8 (rl 9 93 [])))))
def A43v2 : AC := (.seq (.region 7 [o1 77 (ln 41 2 5),o1 13 (.alloc 0 41 [vci 0,vci 0]),o0 (.store 41 2 (tm 13) (tm 77))] 1 none) []
 (.seq (.seq (.region 8 [mv 78 11,o1 79 (bk .gtr 3 78 0)] 0 none) []
 (.cond (tm 79)
 (.region 9 [o1 80 (ln 41 2 6),o0 (.store 41 2 (tm 13) (tm 80))] 0 none)
 .skip)) [78,79,80]
 A43v1))
def A43 : AF := ⟨102,[.tmp 8],
 (.seq (.region 0 [o1 4 (bx 0 41 0),o1 5 (bx 1 41 1),o1 6 (bx 2 41 2),o1 8 (sb false)] 3 none) []
 (.seq (.region 1 [o1 16 (fa 41 6 0 0),o1 17 (lo 3 16),o1 18 (fa 41 5 0 0),o1 19 (lo 3 18),o1 20 (bt .sub 3 17 19),o1 21 (fa 41 6 1 1),o1 22 (lo 3 21),o1 23 (fa 41 5 1 1),o1 24 (lo 3 23),o1 25 (bt .sub 3 22 24),o1 26 (.build 41 [vci 0,vci 0] [(0,1),(1,1)] 0 [(0,(tm 20)),(1,(tm 25))]),o1 9 (.alloc 0 41 [vci 0,vci 0]),o0 (.store 41 2 (tm 9) (tm 26))] 1 none) []
 (.seq (.region 2 [o1 27 (fa 41 9 0 0),o1 28 (lo 3 27),o1 29 (fa 41 9 0 0),o1 30 (lo 3 29),o1 31 (bt .mul 3 28 30),o1 32 (fa 41 9 1 1),o1 33 (lo 3 32),o1 34 (fa 41 9 1 1),o1 35 (lo 3 34),o1 36 (bt .mul 3 33 35),o1 37 (bt .add 3 31 36),o1 10 (sg 37)] 0 none) []
 (.seq (.region 3 [o1 38 (fa 41 4 0 0),o1 39 (lo 3 38),o1 40 (fa 41 5 0 0),o1 41 (lo 3 40),o1 42 (bt .sub 3 39 41),o1 43 (fa 41 9 0 0),o1 44 (lo 3 43),o1 45 (bt .mul 3 42 44),o1 46 (fa 41 4 1 1),o1 47 (lo 3 46),o1 48 (fa 41 5 1 1),o1 49 (lo 3 48),o1 50 (bt .sub 3 47 49),o1 51 (fa 41 9 1 1),o1 52 (lo 3 51),o1 53 (bt .mul 3 50 52),o1 54 (bt .add 3 45 53),o1 11 (sg 54)] 0 none) []
 (.seq (.seq (.region 4 [mv 55 11,o1 56 (bk .gtr 3 55 0),mv 57 56,og 58 (.move (tm 11)) 57 true,og 59 (.move (tm 10)) 57 true,og 60 (bt .lss 3 58 59) 57 true,o1 61 (po 57 60)] 0 none) []
 (.cond (tm 61)
 (.seq (.region 5 [o1 62 (ln 41 2 5),o1 63 (ln 41 2 6),o1 64 (ln 41 2 4),o1 65 (cs 69 [62,63,64] [41,41,41]),o1 12 (sg 65)] 0 none) []
  (.seq (.region 6 [mv 66 12,mv 67 12,o1 68 (.unOp .neg 3 (tm 67)),o1 69 (.mm true [(tm 66),(tm 68)] [3,3]),mv 70 3,mv 71 3,o1 72 (bt .mul 3 70 71),mv 73 10,o1 74 (bt .mul 3 72 73),o1 75 (cs 71 [74] [3]),o1 76 (bt .lss 3 69 75),o1 8 (sg 76)] 0 none) []
  (.ret (rl 0 8 (rl 9 93 [])))))
 .skip)) (8 :: 12 :: (rl 55 22 []))
 A43v2)))))⟩
def F57 (x0 x1 x2 x3 x4 x5 x6 : Int) : Option (Bool) :=
 (bif ((decide ((w64 ((w64 ((w64 (x0 - x2)) * (w64 (x4 - x2)))) + (w64 ((w64 (x1 - x3)) * (w64 (x5 - x3)))))) > 0)) == true) then (bif (decide ((w64 ((w64 ((w64 (x0 - x2)) * (w64 (x4 - x2)))) + (w64 ((w64 (x1 - x3)) * (w64 (x5 - x3)))))) < (w64 ((w64 ((w64 (x4 - x2)) * (w64 (x4 - x2)))) + (w64 ((w64 (x5 - x3)) * (w64 (x5 - x3)))))))) then (ob (F75 u x2 x3 x4 x5 x0 x1) fun x7 => (ob (F77 u (w64 ((w64 (x6 * x6)) * (w64 ((w64 ((w64 (x4 - x2)) * (w64 (x4 - x2)))) + (w64 ((w64 (x5 - x3)) * (w64 (x5 - x3))))))))) fun x8 => (some (decide ((if (w64 (0 - x7)) > x7 then (w64 (0 - x7)) else x7) < x8))))) else (bif (decide ((w64 ((w64 ((w64 (x0 - x2)) * (w64 (x4 - x2)))) + (w64 ((w64 (x1 - x3)) * (w64 (x5 - x3)))))) > 0)) then (some (decide ((w64 ((w64 ((w64 (x0 - x4)) * (w64 (x0 - x4)))) + (w64 ((w64 (x1 - x5)) * (w64 (x1 - x5)))))) < (w64 (x6 * x6))))) else (some (decide ((w64 ((w64 ((w64 (x0 - x2)) * (w64 (x0 - x2)))) + (w64 ((w64 (x1 - x3)) * (w64 (x1 - x3)))))) < (w64 (x6 * x6))))))) else (bif (decide ((w64 ((w64 ((w64 (x0 - x2)) * (w64 (x4 - x2)))) + (w64 ((w64 (x1 - x3)) * (w64 (x5 - x3)))))) > 0)) then (some (decide ((w64 ((w64 ((w64 (x0 - x4)) * (w64 (x0 - x4)))) + (w64 ((w64 (x1 - x5)) * (w64 (x1 - x5)))))) < (w64 (x6 * x6))))) else (some (decide ((w64 ((w64 ((w64 (x0 - x2)) * (w64 (x0 - x2)))) + (w64 ((w64 (x1 - x3)) * (w64 (x1 - x3)))))) < (w64 (x6 * x6)))))))
theorem e57 : evalF (C44 u) u A43 [.agg [(vi i0),(vi i1)],.agg [(vi i2),(vi i3)],.agg [(vi i4),(vi i5)],.v (vi i6)] = ob (F57 u i0 i1 i2 i3 i4 i5 i6) fun t => some [.v (.b t)] := Eq.trans (b := (bif ((decide ((w64 ((w64 ((w64 (i0 - i2)) * (w64 (i4 - i2)))) + (w64 ((w64 (i1 - i3)) * (w64 (i5 - i3)))))) > 0)) == true) then (bif (decide ((w64 ((w64 ((w64 (i0 - i2)) * (w64 (i4 - i2)))) + (w64 ((w64 (i1 - i3)) * (w64 (i5 - i3)))))) < (w64 ((w64 ((w64 (i4 - i2)) * (w64 (i4 - i2)))) + (w64 ((w64 (i5 - i3)) * (w64 (i5 - i3)))))))) then (ob (F75 u i2 i3 i4 i5 i0 i1) fun x0 => (ob (F77 u (w64 ((w64 (i6 * i6)) * (w64 ((w64 ((w64 (i4 - i2)) * (w64 (i4 - i2)))) + (w64 ((w64 (i5 - i3)) * (w64 (i5 - i3))))))))) fun x1 => (some [.v (.b (decide ((if (w64 (0 - x0)) > x0 then (w64 (0 - x0)) else x0) < x1)))]))) else (bif (decide ((w64 ((w64 ((w64 (i0 - i2)) * (w64 (i4 - i2)))) + (w64 ((w64 (i1 - i3)) * (w64 (i5 - i3)))))) > 0)) then (some [.v (.b (decide ((w64 ((w64 ((w64 (i0 - i4)) * (w64 (i0 - i4)))) + (w64 ((w64 (i1 - i5)) * (w64 (i1 - i5)))))) < (w64 (i6 * i6)))))]) else (some [.v (.b (decide ((w64 ((w64 ((w64 (i0 - i2)) * (w64 (i0 - i2)))) + (w64 ((w64 (i1 - i3)) * (w64 (i1 - i3)))))) < (w64 (i6 * i6)))))]))) else (bif (decide ((w64 ((w64 ((w64 (i0 - i2)) * (w64 (i4 - i2)))) + (w64 ((w64 (i1 - i3)) * (w64 (i5 - i3)))))) > 0)) then (some [.v (.b (decide ((w64 ((w64 ((w64 (i0 - i4)) * (w64 (i0 - i4)))) + (w64 ((w64 (i1 - i5)) * (w64 (i1 - i5)))))) < (w64 (i6 * i6)))))]) else (some [.v (.b (decide ((w64 ((w64 ((w64 (i0 - i2)) * (w64 (i0 - i2)))) + (w64 ((w64 (i1 - i3)) * (w64 (i1 - i3)))))) < (w64 (i6 * i6)))))])))) (by kernel_rfl) (by
 simp only [F57,ob_bif,ob_ob,ob_none,ob_some])
def O57 : Ora := mkO (qc (ag (tc ci (t1 ci))) (qc (ag (tc ci (t1 ci))) (qc (ag (tc ci (t1 ci))) (q1 (av ci))))) (fun x => F57 u x.1.1 x.1.2 x.2.1.1 x.2.1.2 x.2.2.1.1 x.2.2.1.2 x.2.2.2) fun t => [.v (.b t)]
theorem d57 : DO (O57 u) (C44 u) 43 A43 := dO u (fun x => by exact e57 u x.1.1 x.1.2 x.2.1.1 x.2.1.2 x.2.2.1.1 x.2.2.1.2 x.2.2.2)
def C45 : Oracle := (C44 u).add 43 (fun _ => true) (O57 u)
def A41 : AF := ⟨43,[.tmp 9],
 (.seq (.region 0 [o1 5 (bx 0 41 0),o1 6 (bx 1 41 1),o1 7 (bx 2 41 2),o1 8 (bx 3 41 3),o1 9 (sb false)] 4 none) []
 (.seq (.region 1 [o1 10 (ln 41 2 5),o1 11 (ln 41 2 6),o1 12 (ln 41 2 7),o1 13 (ln 41 2 8),o1 14 (cs 42 [10,11,12,13] [41,41,41,41]),mv 15 14,og 16 (ln 41 2 5) 15 false,og 17 (ln 41 2 7) 15 false,og 18 (ln 41 2 8) 15 false,og 19 (lo 3 4) 15 false,og 20 (cs 43 [16,17,18,19] [41,41,41,3]) 15 false,o1 21 (pa 15 20),mv 22 21,og 23 (ln 41 2 6) 22 false,og 24 (ln 41 2 7) 22 false,og 25 (ln 41 2 8) 22 false,og 26 (lo 3 4) 22 false,og 27 (cs 43 [23,24,25,26] [41,41,41,3]) 22 false,o1 28 (pa 22 27),mv 29 28,og 30 (ln 41 2 7) 29 false,og 31 (ln 41 2 5) 29 false,og 32 (ln 41 2 6) 29 false,og 33 (lo 3 4) 29 false,og 34 (cs 43 [30,31,32,33] [41,41,41,3]) 29 false,o1 35 (pa 29 34),mv 36 35,og 37 (ln 41 2 8) 36 false,og 38 (ln 41 2 5) 36 false,og 39 (ln 41 2 6) 36 false,og 40 (lo 3 4) 36 false,og 41 (cs 43 [37,38,39,40] [41,41,41,3]) 36 false,o1 42 (pa 36 41),o1 9 (sg 42)] 0 none) []
 (.ret (rl 0 9 (rl 10 33 [])))))⟩
def F55 (x0 x1 x2 x3 x4 x5 x6 x7 : Int) (x8 : Nat → CV) : Option (Bool) :=
 (ob (F56 u x0 x1 x2 x3 x4 x5 x6 x7) fun x9 => (bif (x9 == false) then (ob (F57 u x0 x1 x4 x5 x6 x7 (x8 0).int) fun xA => (bif (xA == false) then (ob (F57 u x2 x3 x4 x5 x6 x7 (x8 0).int) fun xB => (bif (xB == false) then (ob (F57 u x4 x5 x0 x1 x2 x3 (x8 0).int) fun xC => (bif (xC == false) then (ob (F57 u x6 x7 x0 x1 x2 x3 (x8 0).int) fun xD => (some xD)) else (some true))) else (some true))) else (some true))) else (some true)))
theorem e55 : evalF (C45 u) u A41 [.agg [(vi i0),(vi i1)],.agg [(vi i2),(vi i3)],.agg [(vi i4),(vi i5)],.agg [(vi i6),(vi i7)],.v (.rp (.pr (.int .i64) .nil) g0)] = ob (F55 u i0 i1 i2 i3 i4 i5 i6 i7 g0) fun t => some [.v (.b t)] := Eq.trans (b := (ob (F56 u i0 i1 i2 i3 i4 i5 i6 i7) fun x0 => (bif (x0 == false) then (ob (F57 u i0 i1 i4 i5 i6 i7 (g0 0).int) fun x1 => (bif (x1 == false) then (ob (F57 u i2 i3 i4 i5 i6 i7 (g0 0).int) fun x2 => (bif (x2 == false) then (ob (F57 u i4 i5 i0 i1 i2 i3 (g0 0).int) fun x3 => (bif (x3 == false) then (ob (F57 u i6 i7 i0 i1 i2 i3 (g0 0).int) fun x4 => (some [.v (.b x4)])) else (some [.v (.b true)]))) else (some [.v (.b true)]))) else (some [.v (.b true)]))) else (some [.v (.b true)])))) (by kernel_rfl) (by
 simp only [F55,ob_bif,ob_ob,ob_none,ob_some])
def O55 : Ora := mkO (qc (ag (tc ci (t1 ci))) (qc (ag (tc ci (t1 ci))) (qc (ag (tc ci (t1 ci))) (qc (ag (tc ci (t1 ci))) (q1 (av (cP (.pr (.int .i64) .nil)))))))) (fun x => F55 u x.1.1 x.1.2 x.2.1.1 x.2.1.2 x.2.2.1.1 x.2.2.1.2 x.2.2.2.1.1 x.2.2.2.1.2 x.2.2.2.2) fun t => [.v (.b t)]
theorem d55 : DO (O55 u) (C45 u) 41 A41 := dO u (fun x => by exact e55 u x.1.1 x.1.2 x.2.1.1 x.2.1.2 x.2.2.1.1 x.2.2.1.2 x.2.2.2.1.1 x.2.2.2.1.2 x.2.2.2.2)
def C46 : Oracle := (C45 u).add 41 (fun _ => true) (O55 u)
end Go.Eng.R13
