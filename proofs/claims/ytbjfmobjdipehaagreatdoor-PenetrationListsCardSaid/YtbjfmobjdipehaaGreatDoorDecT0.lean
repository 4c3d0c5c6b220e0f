/-
 The functions of the program,run on symbols; printed by decomp.py.
-/
import Derived.Test.YtbjfmobjdipehaaGreatDoorEngS
set_option linter.all false
set_option maxRecDepth 1000000
set_option maxHeartbeats 4000000
namespace Go.Eng.R13
open Go Go.RowKit Go.Eng
abbrev kA : Kd := (.pr .str (.pr (.int .i64) (.pr (.int .i64) (.pr .str (.pr .str (.pr (.int .i64) (.pr (.sl kP) (.pr (.sl (.pr (.sl kP) .nil)) (.pr .str (.pr (.int .i64) (.pr (.int .i64) (.pr (.int .i64) (.pr (.int .i64) (.pr (.int .i64) (.pr (.int .i64) kV)))))))))))))))
abbrev kB : Kd := (.pr .str (.pr .str (.pr (.sl (.pr .str .nil)) (.pr (.int .i64) (.pr (.sl (.pr .str .nil)) .nil)))))
abbrev kC : Kd := (.pr .str (.pr (.int .i64) (.pr .str .nil)))
abbrev kD : Kd := (.pr (.int .i64) (.pr .str (.pr .str .nil)))
abbrev kE : Kd := (.pr (.int .i64) (.pr (.int .i64) .bool))
abbrev kF : Kd := (.pr .str (.pr .str (.pr .str kV)))
abbrev uu : V := .undef
abbrev ro : Kd → Nat → FF → CV := CV.ro false
variable {ρ : Type} (u : Nat)
abbrev kR0 : Kd := (.pr .str (.pr (.int .i64) (.pr (.int .i64) (.pr .str (.pr .str (.pr (.int .i64) (.pr (.sl (.pr (.int .i64) (.pr (.int .i64) .nil))) (.pr (.sl (.pr (.sl (.pr (.int .i64) (.pr (.int .i64) .nil))) .nil)) (.pr .str (.pr (.int .i64) (.pr (.int .i64) (.pr (.int .i64) (.pr (.int .i64) (.pr (.int .i64) (.pr (.int .i64) (.pr (.int .i64) (.pr (.int .i64) (.pr (.int .i64) .nil))))))))))))))))))
def C0 (u : Nat) : Oracle := ⟨fun _ _ {_} _ => none,fun _ _ {_} _ => rfl,fun f r n g rest => bif ((Nat.beq f 50 && r.beq kP)) && rest.isEmpty then some (revF n g) else none,fun f r args => match args with | [.v (.ro _ r1 n g)] => bif ((Nat.beq f 49 && r.beq kP)) && r.beq r1 then some (n,g) else none | _ => none⟩
def DO (o : Ora) (C : Oracle) (f : Nat) (F : AF) : Prop := ∀ {P : Program},P.follows .mixedOrders = true → Sound P C → FFits P f F → ∀ args res : List A,o.o args some = some res → Den P f args res
def CE (u : Nat) : Oracle := ⟨fun _ _ {_} _ => none,fun _ _ {_} _ => rfl,fun _ _ _ _ _ => none,fun _ _ _ => none⟩
theorem soundE {P : Program} : Sound P (CE u) := ⟨fun _ _ _ h => (by cases h),fun _ _ _ _ _ _ h => (by cases h),fun _ _ _ _ _ h => (by cases h)⟩
def A50v1 : AC := (.seq (.block 1
 (.region 3 [mv 14 0,mv 15 2,mv 16 0,mv 17 3,mv 18 0,mv 19 3,o1 20 (.indexAddr 37 49 2 (tm 18) (tm 19)),o1 21 (ln 49 2 20),mv 22 0,mv 23 2,o1 24 (.indexAddr 37 49 2 (tm 22) (tm 23)),o1 25 (ln 49 2 24),o1 26 (.indexAddr 37 49 2 (tm 14) (tm 15)),o0 (.store 49 2 (tm 26) (tm 21)),o1 27 (.indexAddr 37 49 2 (tm 16) (tm 17)),o0 (.store 49 2 (tm 27) (tm 25))] 0 (some [[],[],[],[],[],[],[4,5],[4,5,6],[],[],[8,9],[8,9,10],(0 :: 1 :: (rl 4 8 [])),(0 :: 1 :: (rl 4 9 [])),(rl 0 14 []),(rl 0 15 [])]))) []
 (.region 2 [mv 10 2,o1 11 (bk .add 3 10 1),mv 12 3,o1 13 (bk .sub 3 12 1),o1 2 (sg 11),o1 3 (sg 13)] 0 none))
def A50v2 : AC := (.seq (.seq (.region 1 [mv 7 2,mv 8 3,o1 9 (bt .lss 3 7 8)] 0 none) []
 (.cond (tm 9)
 .skip
 (.exit 0 (rl 0 28 [])))) [7,8,9]
 A50v1)
def A50 : AF := ⟨28,[],
 (.seq (.region 0 [mv 4 0,o1 5 (.len 37 false (tm 4)),o1 6 (bk .sub 3 5 1),o1 2 (sk 0),o1 3 (sg 6)] 0 none) []
 (.block 0
 (.loop [] (1 :: (rl 4 24 []))
  A50v2)))⟩
def B52v1 (C : Oracle) (u : Nat) : St → (Ex → St → Option ρ) → Option ρ := fun st k => evalC C u A50v2 st k
def N52v1 : St → Option St := fun s => s.norm (1 :: (rl 4 24 [])) 1
def s52v0 (x0 : Nat) (x1 x2 : Int) (x3 : FF) : St := ⟨(.x (.own 0 0 x0) :: .u :: vxi x1 :: vxi x2 :: (us 24 [])),[.arr kE x0 x3]⟩
def s52v1 (x0 : Nat) (x1 : FF) : St := ⟨(us 28 []),[.arr kE x0 x1]⟩
def L52v1 {ρ : Type} (u : Nat) (x0 : Nat) : Nat → Int → Int → FF → (FF → Option ρ) → Option ρ
 | 0,_,_,_,_ => none
 | m + 1,x1,x2,x3,k0 =>
  (bif (decide (x1 < x2)) then (bif (inb x2 x0) then (bif (inb x1 x0) then (bif (inb x1 x0) then (bif (inb x2 x0) then (L52v1 u x0 m (w64 (x1 + 1)) (w64 (x2 - 1)) (setF (setF x3 (0 + x1.toNat) 0 2 (listF [(.i .i64 (x3 (0 + x2.toNat) 0).int),(.i .i64 (x3 (0 + x2.toNat) 1).int)])) (0 + x2.toNat) 0 2 (listF [(.i .i64 (x3 (0 + x1.toNat) 0).int),(.i .i64 (x3 (0 + x1.toNat) 1).int)])) k0) else none) else none) else none) else none) else (k0 x3))
theorem r52v1 (m : Nat) (k : Ex → St → Option ρ) (x0 : Nat) (x1 x2 : Int) (x3 : FF) :
  loopH (B52v1 (CE u) u) N52v1 (m + 1) (s52v0 x0 x1 x2 x3) k =
  (bif (decide (x1 < x2)) then (bif (inb x2 x0) then (bif (inb x1 x0) then (bif (inb x1 x0) then (bif (inb x2 x0) then (loopH (B52v1 (CE u) u) N52v1 m (s52v0 x0 (w64 (x1 + 1)) (w64 (x2 - 1)) (setF (setF x3 (0 + x1.toNat) 0 2 (listF [(vi (x3 (0 + x2.toNat) 0).int),(vi (x3 (0 + x2.toNat) 1).int)])) (0 + x2.toNat) 0 2 (listF [(vi (x3 (0 + x1.toNat) 0).int),(vi (x3 (0 + x1.toNat) 1).int)]))) k) else none) else none) else none) else none) else (k (.exit 0) (s52v1 x0 x3))) := by kernel_rfl
theorem q52v1 (u : Nat) (x0 : Nat) {ρ : Type} (k : Ex → St → Option ρ) : ∀ (m : Nat) (x1 x2 : Int) (x3 : FF),
  loopH (B52v1 (CE u) u) N52v1 m (s52v0 x0 x1 x2 x3) k = L52v1 u x0 m x1 x2 x3 (fun x4 => k (.exit 0) (s52v1 x0 x4))
 | 0,_,_,_ => rfl
 | m + 1,x1,x2,x3 => by
  rw [r52v1]
  simp only [L52v1,q52v1 u x0 k m]
def D52 (x0 : Nat) (x1 : FF) (k : (Nat × FF) → Option ρ) : Option ρ :=
 (L52v1 u x0 u 0 (w64 ((Int.ofNat x0) - 1)) x1
  (fun x2 => (k (x0,x2))))
def F52 (x0 : Nat) (x1 : FF) : Option (Nat × FF) := D52 u x0 x1 some
def s52v2 (x0 : Nat) (x1 : FF) : St := ⟨[.x (.own 0 0 x0),uu,vxi 0,vxi (w64 ((Int.ofNat x0) - 1)),.x (.own 0 0 x0),vxi (Int.ofNat x0),vxi (w64 ((Int.ofNat x0) - 1)),uu,uu,uu,uu,uu,uu,uu,uu,uu,uu,uu,uu,uu,uu,uu,uu,uu,uu,uu,uu,uu],[.arr kE x0 x1]⟩
theorem walk52 (x0 : Nat) (x1 : FF) :
  evalT (CE u) u A50 kP x0 x1 [] =
  (loopN (B52v1 (CE u) u) N52v1 u (s52v2 x0 x1) (kBlk 0 (finishT (Kd.mark kP)))) := by kernel_rfl
theorem t52v1 (k : Ex → St → Option ρ) (x0 : Nat) (x1 : FF) :
  loopN (B52v1 (CE u) u) N52v1 u (s52v2 x0 x1) k =
  L52v1 u x0 u 0 (w64 ((Int.ofNat x0) - 1)) x1 (fun x2 => k (.exit 0) (s52v1 x0 x2)) :=
 (loopN_at (st' := (s52v0 x0 0 (w64 ((Int.ofNat x0) - 1)) x1)) (by kernel_rfl)).trans (q52v1 u x0 k u 0 (w64 ((Int.ofNat x0) - 1)) x1)
theorem g52v2 (x0 : Nat) (x1 : FF) :
  (kBlk 0 (finishT (Kd.mark kP))) (.exit 0) (s52v1 x0 x1) =
  (some (x0,x1)) := by kernel_rfl
theorem e52 (x0 : Nat) (x1 : FF) : evalT (CE u) u A50 kP x0 x1 [] = F52 u x0 x1 := by
 rw [walk52]
 simp only [F52,D52,t52v1,g52v2]
def A11v1 : AC := (.region 3 [mv 14 3,o1 15 (bk .add 3 14 1),o1 3 (sg 15)] 0 none)
def A11v2 : AC := (.seq (.block 1
 (.seq (.region 4 [o1 16 (fa 46 1 6 6),o1 17 (fa 40 16 1 1),o1 18 (lo 38 17),mv 19 3,o1 20 (.indexAddr 38 37 1 (tm 18) (tm 19)),o1 21 (lo 37 20),o1 22 (.len 37 false (tm 21)),o1 23 (bk .gtr 3 22 40)] 0 none) []
  (.cond (tm 23)
  (.seq (.region 5 [o1 2 (sb false)] 0 none) []
   (.ret (0 :: 1 :: (rl 3 33 []))))
  .skip))) (2 :: (rl 16 8 []))
 A11v1)
def A11v3 : AC := (.seq (.seq (.region 2 [mv 4 3,o1 5 (fa 46 1 6 6),o1 6 (fa 40 5 1 1),o1 7 (lo 38 6),o1 8 (.len 38 false (tm 7)),o1 9 (bt .lss 3 4 8),mv 10 9,og 11 (.move (tm 3)) 10 true,og 12 (bk .lss 3 11 20) 10 true,o1 13 (po 10 12)] 0 none) []
 (.cond (tm 13)
 .skip
 (.exit 0 (0 :: (rl 2 34 []))))) (rl 4 10 [])
 A11v2)
def A11v4 : AC := (.seq (.region 6 [o1 24 (fa 46 1 6 6),o1 25 (fa 40 24 0 0),o1 26 (lo 37 25),o1 27 (.len 37 false (tm 26)),o1 28 (bk .leq 3 27 40),mv 29 28,og 30 (fa 46 1 6 6) 29 true,og 31 (fa 40 30 1 1) 29 true,og 32 (lo 38 31) 29 true,og 33 (.len 38 false (tm 32)) 29 true,og 34 (bk .leq 3 33 12) 29 true,o1 35 (po 29 34),o1 2 (sg 35)] 0 none) []
 (.ret (0 :: 1 :: (rl 3 33 []))))
def A11 : AF := ⟨36,[.tmp 2],
 (.seq (.region 0 [o1 1 (bx 0 46 0),o1 2 (sb false)] 1 none) []
 (.seq (.seq (.region 1 [o1 3 (sk 0)] 0 none) []
 (.block 0
 (.loop [] (0 :: 2 :: (rl 4 32 []))
  A11v3))) (rl 2 22 [])
 A11v4))⟩
def B100v1 (C : Oracle) (u : Nat) : St → (Ex → St → Option ρ) → Option ρ := fun st k => evalC C u A11v3 st k
def N100v1 : St → Option St := fun s => s.norm (0 :: 2 :: (rl 4 32 [])) 1
def s100v0 (x0 : Int) (x1 : Nat → CV) : St := ⟨(.u :: .x (.ptr 0 0) :: .u :: vxi x0 :: (us 32 [])),[.box (pjc kR0 x1)]⟩
def s100v1 (x0 : Nat → CV) : St := ⟨(.u :: .u :: vxb false :: (us 33 [])),[.box (pjc kR0 x0)]⟩
def s100v2 (x0 : Nat → CV) : St := ⟨(.u :: .x (.ptr 0 0) :: (us 34 [])),[.box (pjc kR0 x0)]⟩
def L100v1 {ρ : Type} (u : Nat) (x0 : Nat → CV) : Nat → Int → (Option ρ) → (Option ρ) → Option ρ
 | 0,_,_,_ => none
 | m + 1,x1,k0,k1 =>
  (bif ((decide (x1 < (Int.ofNat (x0 7).len))) == true) then (bif (decide (x1 < 20)) then (bif (inb x1 (x0 7).len) then (bif (decide ((Int.ofNat ((x0 7).el x1.toNat 0).len) > 40)) then k0 else (L100v1 u x0 m (w64 (x1 + 1)) k0 k1)) else none) else k1) else k1)
theorem nl100v1 {ρ σ : Type} (u : Nat) (x0 : Nat → CV) (g : ρ → Option σ) : ∀ (m : Nat) (x1 : Int) (k0 : Option ρ) (k1 : Option ρ),ob (L100v1 u x0 m x1 k0 k1) g = L100v1 u x0 m x1 (ob k0 g) (ob k1 g)
 | 0,_,_,_ => rfl
 | m + 1,x1,k0,k1 => by
  simp only [L100v1,ob_bif,ob_ob,ob_none,nl100v1 u x0 g m]
theorem r100v1 (m : Nat) (k : Ex → St → Option ρ) (x0 : Nat → CV) (x1 : Int) :
  loopH (B100v1 (C0 u) u) N100v1 (m + 1) (s100v0 x1 x0) k =
  (bif ((decide (x1 < (Int.ofNat (x0 7).len))) == true) then (bif (decide (x1 < 20)) then (bif (inb x1 (x0 7).len) then (bif (decide ((Int.ofNat ((x0 7).el x1.toNat 0).len) > 40)) then (k .ret (s100v1 x0)) else (loopH (B100v1 (C0 u) u) N100v1 m (s100v0 (w64 (x1 + 1)) x0) k)) else none) else (k (.exit 0) (s100v2 x0))) else (k (.exit 0) (s100v2 x0))) := by kernel_rfl
theorem q100v1 (u : Nat) (x0 : Nat → CV) {ρ : Type} (k : Ex → St → Option ρ) : ∀ (m : Nat) (x1 : Int),
  loopH (B100v1 (C0 u) u) N100v1 m (s100v0 x1 x0) k = L100v1 u x0 m x1 (k .ret (s100v1 x0)) (k (.exit 0) (s100v2 x0))
 | 0,_ => rfl
 | m + 1,x1 => by
  rw [r100v1]
  simp only [L100v1,q100v1 u x0 k m]
def D100 (x0 : Nat → CV) (k : Bool → Option ρ) : Option ρ :=
 (L100v1 u x0 u 0
  (k false)
  (bif ((decide ((Int.ofNat (x0 6).len) ≤ 40)) == true) then (k (decide ((Int.ofNat (x0 7).len) ≤ 12))) else (k false)))
def F100 (x0 : Nat → CV) : Option (Bool) := D100 u x0 some
theorem f100 (x0 : Nat → CV) (k : (Bool) → Option ρ) : D100 u x0 k = ob (F100 u x0) k := by
 simp only [F100,D100,ob_bif,ob_ob,ob_none,ob_some,nl100v1]
def s100v3 (x0 : Nat → CV) : St := ⟨[.agg (pjc kR0 x0),.x (.ptr 0 0),vxb false,vxi 0,uu,uu,uu,uu,uu,uu,uu,uu,uu,uu,uu,uu,uu,uu,uu,uu,uu,uu,uu,uu,uu,uu,uu,uu,uu,uu,uu,uu,uu,uu,uu,uu],[.box (pjc kR0 x0)]⟩
theorem t100v1 (k : Ex → St → Option ρ) (x0 : Nat → CV) :
  loopN (B100v1 (C0 u) u) N100v1 u (s100v3 x0) k =
  L100v1 u x0 u 0 (k .ret (s100v1 x0)) (k (.exit 0) (s100v2 x0)) :=
 (loopN_at (st' := (s100v0 0 x0)) (by kernel_rfl)).trans (q100v1 u x0 k u 0)
theorem g100v2 (x0 : Nat → CV) :
  (kBlk 0 (kSeq (C0 u) u (rl 2 22 []) A11v4 (finish A11))) .ret (s100v1 x0) =
  (some [.v (.b false)]) := by kernel_rfl
theorem g100v3 (x0 : Nat → CV) :
  (kBlk 0 (kSeq (C0 u) u (rl 2 22 []) A11v4 (finish A11))) (.exit 0) (s100v2 x0) =
  (bif ((decide ((Int.ofNat (x0 6).len) ≤ 40)) == true) then (some [.v (.b (decide ((Int.ofNat (x0 7).len) ≤ 12)))]) else (some [.v (.b false)])) := by kernel_rfl
theorem e100 (x0 : Nat → CV) : evalF (C0 u) u A11 [.agg (pj kR0 x0)] = ob (F100 u x0) fun t => some [.v (.b t)] := Eq.trans (b := (loopN (B100v1 (C0 u) u) N100v1 u (s100v3 x0) (kBlk 0 (kSeq (C0 u) u (rl 2 22 []) A11v4 (finish A11))))) (by kernel_rfl) (by
 rw [← f100]
 simp only [D100,t100v1,g100v2,g100v3])
def O100 : Ora where
 o := fun args {ρ} K =>
  wc args fun a1 l2 =>
  wrow kR0 a1 fun y3 =>
  wn l2 <|
  (ob (F100 u y3) fun t => K [.v (.b t)])
 nat := fun args {ρ} K => by
  simp only [bind_wc,bind_wn,bind_wrow,bind_ob,Option.bind_some]
theorem d100 : DO (O100 u) (C0 u) 11 A11 := by
 intro P hmix hC hF args res h
 obtain ⟨a1,l2,rfl,z0⟩ := inv_wc h
 obtain ⟨y3,h4,z1⟩ := inv_wrow z0
 obtain ⟨hn,z2⟩ := inv_wn z1
 cases hn
 exact Den.weaken (.cons h4 .nil) (evalF_sound hmix hC hF ((e100 u y3).trans z2))
def C1 : Oracle := (C0 u).add 11 (fun _ => true) (O100 100)
def A4v1 : AC := (.region 3 [mv 13 3,o1 14 (bk .add 3 13 1),o1 3 (sg 14)] 0 none)
def A4v2 : AC := (.seq (.block 1
 (.seq (.region 4 [o1 15 (fa 28 1 2 2),o1 16 (lo 23 15),mv 17 3,o1 18 (.indexAddr 23 46 18 (tm 16) (tm 17)),o1 19 (ln 46 18 18),o1 20 (cs 11 [19] [46]),o1 21 (.unOp .not 4 (tm 20))] 0 none) []
  (.cond (tm 21)
  (.seq (.region 5 [o1 2 (sb false)] 0 none) []
   (.ret (0 :: 1 :: (rl 3 23 []))))
  .skip))) (2 :: (rl 15 7 []))
 A4v1)
def A4v3 : AC := (.seq (.seq (.region 2 [mv 4 3,o1 5 (fa 28 1 2 2),o1 6 (lo 23 5),o1 7 (.len 23 false (tm 6)),o1 8 (bt .lss 3 4 7),mv 9 8,og 10 (.move (tm 3)) 9 true,og 11 (bk .lss 3 10 80) 9 true,o1 12 (po 9 11)] 0 none) []
 (.cond (tm 12)
 .skip
 (.exit 0 (0 :: (rl 2 24 []))))) (rl 4 9 [])
 A4v2)
def A4v4 : AC := (.seq (.region 6 [o1 22 (fa 28 1 2 2),o1 23 (lo 23 22),o1 24 (.len 23 false (tm 23)),o1 25 (bk .leq 3 24 60),o1 2 (sg 25)] 0 none) []
 (.ret (0 :: 1 :: (rl 3 23 []))))
def A4 : AF := ⟨26,[.tmp 2],
 (.seq (.region 0 [o1 1 (bx 0 28 0),o1 2 (sb false)] 1 none) []
 (.seq (.seq (.region 1 [o1 3 (sk 0)] 0 none) []
 (.block 0
 (.loop [] (0 :: 2 :: (rl 4 22 []))
  A4v3))) (rl 2 20 [])
 A4v4))⟩
def B163v1 (C : Oracle) (u : Nat) : St → (Ex → St → Option ρ) → Option ρ := fun st k => evalC C u A4v3 st k
def N163v1 : St → Option St := fun s => s.norm (0 :: 2 :: (rl 4 22 [])) 1
def s163v0 (x0 : Int) (x1 : ByteArray) (x2 : Nat) (x3 : FF) (x4 : Nat) (x5 : FF) (x6 : Nat) (x7 : FF) (x8 : Nat) (x9 : FF) (xA : Nat) (xB : FF) : St := ⟨(.u :: .x (.ptr 0 0) :: .u :: vxi x0 :: (us 22 [])),[.box [(vcs x1),(.c (ro kC x2 x3)),(.c (ro kA x4 x5)),(.c (ro kF x6 x7)),(.c (ro kB x8 x9)),(.c (ro kD xA xB))]]⟩
def s163v1 (x0 : ByteArray) (x1 : Nat) (x2 : FF) (x3 : Nat) (x4 : FF) (x5 : Nat) (x6 : FF) (x7 : Nat) (x8 : FF) (x9 : Nat) (xA : FF) : St := ⟨(.u :: .u :: vxb false :: (us 23 [])),[.box [(vcs x0),(.c (ro kC x1 x2)),(.c (ro kA x3 x4)),(.c (ro kF x5 x6)),(.c (ro kB x7 x8)),(.c (ro kD x9 xA))]]⟩
def s163v2 (x0 : ByteArray) (x1 : Nat) (x2 : FF) (x3 : Nat) (x4 : FF) (x5 : Nat) (x6 : FF) (x7 : Nat) (x8 : FF) (x9 : Nat) (xA : FF) : St := ⟨(.u :: .x (.ptr 0 0) :: (us 24 [])),[.box [(vcs x0),(.c (ro kC x1 x2)),(.c (ro kA x3 x4)),(.c (ro kF x5 x6)),(.c (ro kB x7 x8)),(.c (ro kD x9 xA))]]⟩
def L163v1 {ρ : Type} (u : Nat) (x0 : ByteArray) (x1 : Nat) (x2 : FF) (x3 : Nat) (x4 : FF) (x5 : Nat) (x6 : FF) (x7 : Nat) (x8 : FF) (x9 : Nat) (xA : FF) : Nat → Int → (Option ρ) → (Option ρ) → Option ρ
 | 0,_,_,_ => none
 | m + 1,xB,k0,k1 =>
  (bif ((decide (xB < (Int.ofNat x3))) == true) then (bif (decide (xB < 80)) then (bif (inb xB x3) then (ob (F100 100 (listF (pj kR0 (x4 xB.toNat)))) fun xC => (bif (!xC) then k0 else (L163v1 u x0 x1 x2 x3 x4 x5 x6 x7 x8 x9 xA m (w64 (xB + 1)) k0 k1))) else none) else k1) else k1)
theorem nl163v1 {ρ σ : Type} (u : Nat) (x0 : ByteArray) (x1 : Nat) (x2 : FF) (x3 : Nat) (x4 : FF) (x5 : Nat) (x6 : FF) (x7 : Nat) (x8 : FF) (x9 : Nat) (xA : FF) (g : ρ → Option σ) : ∀ (m : Nat) (xB : Int) (k0 : Option ρ) (k1 : Option ρ),ob (L163v1 u x0 x1 x2 x3 x4 x5 x6 x7 x8 x9 xA m xB k0 k1) g = L163v1 u x0 x1 x2 x3 x4 x5 x6 x7 x8 x9 xA m xB (ob k0 g) (ob k1 g)
 | 0,_,_,_ => rfl
 | m + 1,xB,k0,k1 => by
  simp only [L163v1,ob_bif,ob_ob,ob_none,nl163v1 u x0 x1 x2 x3 x4 x5 x6 x7 x8 x9 xA g m]
theorem r163v1 (m : Nat) (k : Ex → St → Option ρ) (x0 : ByteArray) (x1 : Nat) (x2 : FF) (x3 : Nat) (x4 : FF) (x5 : Nat) (x6 : FF) (x7 : Nat) (x8 : FF) (x9 : Nat) (xA : FF) (xB : Int) :
  loopH (B163v1 (C1 u) u) N163v1 (m + 1) (s163v0 xB x0 x1 x2 x3 x4 x5 x6 x7 x8 x9 xA) k =
  (bif ((decide (xB < (Int.ofNat x3))) == true) then (bif (decide (xB < 80)) then (bif (inb xB x3) then (ob (F100 100 (listF (pj kR0 (x4 xB.toNat)))) fun xC => (bif (!xC) then (k .ret (s163v1 x0 x1 x2 x3 x4 x5 x6 x7 x8 x9 xA)) else (loopH (B163v1 (C1 u) u) N163v1 m (s163v0 (w64 (xB + 1)) x0 x1 x2 x3 x4 x5 x6 x7 x8 x9 xA) k))) else none) else (k (.exit 0) (s163v2 x0 x1 x2 x3 x4 x5 x6 x7 x8 x9 xA))) else (k (.exit 0) (s163v2 x0 x1 x2 x3 x4 x5 x6 x7 x8 x9 xA))) := by kernel_rfl
theorem q163v1 (u : Nat) (x0 : ByteArray) (x1 : Nat) (x2 : FF) (x3 : Nat) (x4 : FF) (x5 : Nat) (x6 : FF) (x7 : Nat) (x8 : FF) (x9 : Nat) (xA : FF) {ρ : Type} (k : Ex → St → Option ρ) : ∀ (m : Nat) (xB : Int),
  loopH (B163v1 (C1 u) u) N163v1 m (s163v0 xB x0 x1 x2 x3 x4 x5 x6 x7 x8 x9 xA) k = L163v1 u x0 x1 x2 x3 x4 x5 x6 x7 x8 x9 xA m xB (k .ret (s163v1 x0 x1 x2 x3 x4 x5 x6 x7 x8 x9 xA)) (k (.exit 0) (s163v2 x0 x1 x2 x3 x4 x5 x6 x7 x8 x9 xA))
 | 0,_ => rfl
 | m + 1,xB => by
  rw [r163v1]
  simp only [L163v1,q163v1 u x0 x1 x2 x3 x4 x5 x6 x7 x8 x9 xA k m]
def D163 (x0 : ByteArray) (x1 : Nat) (x2 : FF) (x3 : Nat) (x4 : FF) (x5 : Nat) (x6 : FF) (x7 : Nat) (x8 : FF) (x9 : Nat) (xA : FF) (k : Bool → Option ρ) : Option ρ :=
 (L163v1 u x0 x1 x2 x3 x4 x5 x6 x7 x8 x9 xA u 0
  (k false)
  (k (decide ((Int.ofNat x3) ≤ 60))))
def F163 (x0 : ByteArray) (x1 : Nat) (x2 : FF) (x3 : Nat) (x4 : FF) (x5 : Nat) (x6 : FF) (x7 : Nat) (x8 : FF) (x9 : Nat) (xA : FF) : Option (Bool) := D163 u x0 x1 x2 x3 x4 x5 x6 x7 x8 x9 xA some
theorem f163 (x0 : ByteArray) (x1 : Nat) (x2 : FF) (x3 : Nat) (x4 : FF) (x5 : Nat) (x6 : FF) (x7 : Nat) (x8 : FF) (x9 : Nat) (xA : FF) (k : (Bool) → Option ρ) : D163 u x0 x1 x2 x3 x4 x5 x6 x7 x8 x9 xA k = ob (F163 u x0 x1 x2 x3 x4 x5 x6 x7 x8 x9 xA) k := by
 simp only [F163,D163,ob_bif,ob_ob,ob_none,ob_some,nl163v1]
def s163v3 (x0 : ByteArray) (x1 : Nat) (x2 : FF) (x3 : Nat) (x4 : FF) (x5 : Nat) (x6 : FF) (x7 : Nat) (x8 : FF) (x9 : Nat) (xA : FF) : St := ⟨[.agg [(vcs x0),(.c (ro kC x1 x2)),(.c (ro kA x3 x4)),(.c (ro kF x5 x6)),(.c (ro kB x7 x8)),(.c (ro kD x9 xA))],.x (.ptr 0 0),vxb false,vxi 0,uu,uu,uu,uu,uu,uu,uu,uu,uu,uu,uu,uu,uu,uu,uu,uu,uu,uu,uu,uu,uu,uu],[.box [(vcs x0),(.c (ro kC x1 x2)),(.c (ro kA x3 x4)),(.c (ro kF x5 x6)),(.c (ro kB x7 x8)),(.c (ro kD x9 xA))]]⟩
theorem t163v1 (k : Ex → St → Option ρ) (x0 : ByteArray) (x1 : Nat) (x2 : FF) (x3 : Nat) (x4 : FF) (x5 : Nat) (x6 : FF) (x7 : Nat) (x8 : FF) (x9 : Nat) (xA : FF) :
  loopN (B163v1 (C1 u) u) N163v1 u (s163v3 x0 x1 x2 x3 x4 x5 x6 x7 x8 x9 xA) k =
  L163v1 u x0 x1 x2 x3 x4 x5 x6 x7 x8 x9 xA u 0 (k .ret (s163v1 x0 x1 x2 x3 x4 x5 x6 x7 x8 x9 xA)) (k (.exit 0) (s163v2 x0 x1 x2 x3 x4 x5 x6 x7 x8 x9 xA)) :=
 (loopN_at (st' := (s163v0 0 x0 x1 x2 x3 x4 x5 x6 x7 x8 x9 xA)) (by kernel_rfl)).trans (q163v1 u x0 x1 x2 x3 x4 x5 x6 x7 x8 x9 xA k u 0)
theorem g163v2 (x0 : ByteArray) (x1 : Nat) (x2 : FF) (x3 : Nat) (x4 : FF) (x5 : Nat) (x6 : FF) (x7 : Nat) (x8 : FF) (x9 : Nat) (xA : FF) :
  (kBlk 0 (kSeq (C1 u) u (rl 2 20 []) A4v4 (finish A4))) .ret (s163v1 x0 x1 x2 x3 x4 x5 x6 x7 x8 x9 xA) =
  (some [.v (.b false)]) := by kernel_rfl
theorem g163v3 (x0 : ByteArray) (x1 : Nat) (x2 : FF) (x3 : Nat) (x4 : FF) (x5 : Nat) (x6 : FF) (x7 : Nat) (x8 : FF) (x9 : Nat) (xA : FF) :
  (kBlk 0 (kSeq (C1 u) u (rl 2 20 []) A4v4 (finish A4))) (.exit 0) (s163v2 x0 x1 x2 x3 x4 x5 x6 x7 x8 x9 xA) =
  (some [.v (.b (decide ((Int.ofNat x3) ≤ 60)))]) := by kernel_rfl
theorem e163 (x0 : ByteArray) (x1 : Nat) (x2 : FF) (x3 : Nat) (x4 : FF) (x5 : Nat) (x6 : FF) (x7 : Nat) (x8 : FF) (x9 : Nat) (xA : FF) : evalF (C1 u) u A4 [.agg [(.s x0),(ro kC x1 x2),(ro kA x3 x4),(ro kF x5 x6),(ro kB x7 x8),(ro kD x9 xA)]] = ob (F163 u x0 x1 x2 x3 x4 x5 x6 x7 x8 x9 xA) fun t => some [.v (.b t)] := Eq.trans (b := (loopN (B163v1 (C1 u) u) N163v1 u (s163v3 x0 x1 x2 x3 x4 x5 x6 x7 x8 x9 xA) (kBlk 0 (kSeq (C1 u) u (rl 2 20 []) A4v4 (finish A4))))) (by kernel_rfl) (by
 rw [← f163]
 simp only [D163,t163v1,g163v2,g163v3])
def O163 : Ora where
 o := fun args {ρ} K =>
  wc args fun a1 l2 =>
  wagg a1 fun l3 =>
  wdS l3 fun y7 l5 =>
  wdL kC l5 fun y11 y12 l9 =>
  wdL kA l9 fun y16 y17 l14 =>
  wdL kF l14 fun y21 y22 l19 =>
  wdL kB l19 fun y26 y27 l24 =>
  wdL kD l24 fun y31 y32 l29 =>
  wn l29 <|
  wn l2 <|
  (ob (F163 u y7 y11 y12 y16 y17 y21 y22 y26 y27 y31 y32) fun t => K [.v (.b t)])
 nat := fun args {ρ} K => by
  simp only [bind_wagg,bind_wc,bind_wdL,bind_wdS,bind_wn,bind_ob,Option.bind_some]
theorem d163 : DO (O163 u) (C1 u) 4 A4 := by
 intro P hmix hC hF args res h
 obtain ⟨a1,l2,rfl,z0⟩ := inv_wc h
 obtain ⟨l3,rfl,z1⟩ := inv_wagg z0
 obtain ⟨a4,y7,l5,rfl,h6,z2⟩ := inv_wdS z1
 obtain ⟨a8,y11,y12,l9,rfl,h10,z3⟩ := inv_wdL z2
 obtain ⟨a13,y16,y17,l14,rfl,h15,z4⟩ := inv_wdL z3
 obtain ⟨a18,y21,y22,l19,rfl,h20,z5⟩ := inv_wdL z4
 obtain ⟨a23,y26,y27,l24,rfl,h25,z6⟩ := inv_wdL z5
 obtain ⟨a28,y31,y32,l29,rfl,h30,z7⟩ := inv_wdL z6
 obtain ⟨hn,z8⟩ := inv_wn z7
 cases hn
 obtain ⟨hn,z9⟩ := inv_wn z8
 cases hn
 exact Den.weaken (.cons (WkA.agg (.cons h6 (.cons h10 (.cons h15 (.cons h20 (.cons h25 (.cons h30 .nil))))))) .nil) (evalF_sound hmix hC hF ((e163 u y7 y11 y12 y16 y17 y21 y22 y26 y27 y31 y32).trans z9))
def C2 : Oracle := (C1 u).add 4 (fun _ => true) (O163 100)
def A12 : AF := ⟨10,[.cell 0 46 (some 18)],
 (.seq (.region 0 [o1 0 (.alloc 0 46 [vcs ByteArray.empty,vci 0,vci 0,vcs ByteArray.empty,vcs ByteArray.empty,vci 0,vcn,vcn,vcs ByteArray.empty,vci 0,vci 0,vci 0,vci 0,vci 0,vci 0,vci 0,vci 0,vci 0])] 1 none) []
 (.seq (.region 1 [o1 1 (.build 49 [vci 0,vci 0] [(0,1),(1,1)] 0 []),o1 2 (.build 49 [vci 0,vci 0] [(0,1),(1,1)] 0 [(0,(ic 1000))]),o1 3 (.build 49 [vci 0,vci 0] [(0,1),(1,1)] 0 [(0,(ic 1000)),(1,(ic 500))]),o1 4 (.build 49 [vci 0,vci 0] [(0,1),(1,1)] 0 [(1,(ic 500))]),o1 5 (.buildSlice 0 37 49 kP 4 [vci 0,vci 0] [(0,(tm 1)),(1,(tm 2)),(2,(tm 3)),(3,(tm 4))]),o1 6 (.build 40 [vcn,vcn] [(0,1),(1,1)] 0 [(0,(tm 5))]),o1 7 (.build 42 [vci 0,vci 0,vci 0] [(0,1),(1,1),(2,1)] 0 [(2,(ic 2000))]),o1 8 (.build 44 [vci 0,vci 0,vci 0,vci 0] [(0,3),(3,1)] 0 [(0,(tm 7))]),o1 9 (.build 46 [vcs ByteArray.empty,vci 0,vci 0,vcs ByteArray.empty,vcs ByteArray.empty,vci 0,vcn,vcn,vcs ByteArray.empty,vci 0,vci 0,vci 0,vci 0,vci 0,vci 0,vci 0,vci 0,vci 0] [(0,1),(1,1),(2,1),(3,1),(4,1),(5,1),(6,2),(8,1),(9,1),(10,1),(11,3),(14,4)] 0 [(0,(.const (.string (ByteArray.mk #[80,49])))),(2,(ic 1)),(6,(tm 6)),(11,(tm 8))]),o0 (.store 46 18 (tm 0) (tm 9))] 1 none) []
 (.ret (rl 1 9 []))))⟩
def D101 (u : Nat) (k : (ByteArray × Int × Int × ByteArray × ByteArray × Int × Nat × FF × Nat × FF × ByteArray × Int × Int × Int × Int × Int × Int × Int × Int × Int) → Option ρ) : Option ρ :=
 (k ((ByteArray.mk #[80,49]),0,1,ByteArray.empty,ByteArray.empty,0,4,(rowsF 2 [(.i .i64 0),(.i .i64 0),(.i .i64 1000),(.i .i64 0),(.i .i64 1000),(.i .i64 500),(.i .i64 0),(.i .i64 500)]),0,(fun _ _ => .any),ByteArray.empty,0,0,0,0,0,0,0,2000,0))
def FT101 : Option (ByteArray × Int × Int × ByteArray × ByteArray × Int × Nat × FF × Nat × FF × ByteArray × Int × Int × Int × Int × Int × Int × Int × Int × Int) := D101 u some
theorem f101 (k : (ByteArray × Int × Int × ByteArray × ByteArray × Int × Nat × FF × Nat × FF × ByteArray × Int × Int × Int × Int × Int × Int × Int × Int × Int) → Option ρ) : D101 u k = ob (FT101 u) k := by
 simp only [FT101,D101,ob_bif,ob_ob,ob_none,ob_some]
theorem e101 : evalF (C2 u) u A12 [] = ob (FT101 u) fun t => some [.agg [(.s (ByteArray.mk #[80,49])),(vi 0),(vi 1),(.s ByteArray.empty),(.s ByteArray.empty),(vi 0),(ro kP 4 t.2.2.2.2.2.2.2.1),(.ro true .nil 0 nilF),(.s ByteArray.empty),(vi 0),(vi 0),(vi 0),(vi 0),(vi 0),(vi 0),(vi 0),(vi 2000),(vi 0)]] := Eq.trans (b := (some [.agg [(.s (ByteArray.mk #[80,49])),(vi 0),(vi 1),(.s ByteArray.empty),(.s ByteArray.empty),(vi 0),(ro kP 4 (rowsF 2 [(vi 0),(vi 0),(vi 1000),(vi 0),(vi 1000),(vi 500),(vi 0),(vi 500)])),(.ro true .nil 0 nilF),(.s ByteArray.empty),(vi 0),(vi 0),(vi 0),(vi 0),(vi 0),(vi 0),(vi 0),(vi 2000),(vi 0)]])) (by kernel_rfl) (by
 rw [← f101]
 simp only [D101])
def F101 : Option (ByteArray × Int × Int × ByteArray × ByteArray × Int × Nat × FF × Nat × FF × ByteArray × Int × Int × Int × Int × Int × Int × Int × Int × Int) := ob (FT101 u) fun t => some ((ByteArray.mk #[80,49]),0,1,ByteArray.empty,ByteArray.empty,0,4,t.2.2.2.2.2.2.2.1,0,(fun _ _ => .any),ByteArray.empty,0,0,0,0,0,0,0,2000,0)
def O101 : Ora where
 o := fun args {ρ} K =>
  wn args <|
  (ob (F101 u) fun t => K [.agg [(.s t.1),(vi t.2.1),(vi t.2.2.1),(.s t.2.2.2.1),(.s t.2.2.2.2.1),(vi t.2.2.2.2.2.1),(ro kP t.2.2.2.2.2.2.1 t.2.2.2.2.2.2.2.1),(ro (.pr (.sl kP) .nil) t.2.2.2.2.2.2.2.2.1 t.2.2.2.2.2.2.2.2.2.1),(.s t.2.2.2.2.2.2.2.2.2.2.1),(vi t.2.2.2.2.2.2.2.2.2.2.2.1),(vi t.2.2.2.2.2.2.2.2.2.2.2.2.1),(vi t.2.2.2.2.2.2.2.2.2.2.2.2.2.1),(vi t.2.2.2.2.2.2.2.2.2.2.2.2.2.2.1),(vi t.2.2.2.2.2.2.2.2.2.2.2.2.2.2.2.1),(vi t.2.2.2.2.2.2.2.2.2.2.2.2.2.2.2.2.1),(vi t.2.2.2.2.2.2.2.2.2.2.2.2.2.2.2.2.2.1),(vi t.2.2.2.2.2.2.2.2.2.2.2.2.2.2.2.2.2.2.1),(vi t.2.2.2.2.2.2.2.2.2.2.2.2.2.2.2.2.2.2.2)]])
 nat := fun args {ρ} K => by
  simp only [bind_wn,bind_ob,Option.bind_some]
theorem d101 (fuel : Nat) : DO (O101 fuel) (C2 fuel) 12 A12 := by
 intro P hmix hC hF args res h
 obtain ⟨hn,z0⟩ := inv_wn h
 cases hn
 obtain ⟨u,hu,hr⟩ := ob_inv z0
 cases hr
 obtain ⟨t,ht,hv⟩ := ob_inv (show ob (FT101 fuel) _ = some u from hu)
 cases hv
 refine Den.results ?_ (Den.weaken .nil (evalF_sound hmix hC hF ((e101 fuel).trans (by rw [ht]; rfl))))
 exact (.cons (WkA.agg (.cons (Wk.refl _) (.cons (Wk.refl _) (.cons (Wk.refl _) (.cons (Wk.refl _) (.cons (Wk.refl _) (.cons (Wk.refl _) (.cons (Wk.refl _) (.cons (Wk.ro (by rfl)) (.cons (Wk.refl _) (.cons (Wk.refl _) (.cons (Wk.refl _) (.cons (Wk.refl _) (.cons (Wk.refl _) (.cons (Wk.refl _) (.cons (Wk.refl _) (.cons (Wk.refl _) (.cons (Wk.refl _) (.cons (Wk.refl _) .nil))))))))))))))))))) .nil)
def C3 : Oracle := (C2 u).add 12 (fun _ => true) (O101 100)
def A37 : AF := ⟨21,[.tmp 2],
 (.seq (.region 0 [o1 1 (bx 0 42 0),o1 2 (sb false)] 1 none) []
 (.seq (.region 1 [o1 3 (fa 42 1 0 0),o1 4 (lo 3 3),o1 5 (fa 42 1 1 1),o1 6 (lo 3 5),o1 7 (fa 42 1 2 2),o1 8 (lo 3 7),o1 9 (.mm true [(tm 4),(tm 6),(tm 8)] [3,3,3]),o1 10 (bk .gtr 3 9 524288),mv 11 10,og 12 (fa 42 1 0 0) 11 false,og 13 (lo 3 12) 11 false,og 14 (fa 42 1 1 1) 11 false,og 15 (lo 3 14) 11 false,og 16 (fa 42 1 2 2) 11 false,og 17 (lo 3 16) 11 false,og 18 (.mm false [(tm 13),(tm 15),(tm 17)] [3,3,3]) 11 false,og 19 (bk .lss 3 18 (-524288)) 11 false,o1 20 (pa 11 19),o1 2 (sg 20)] 0 none) []
 (.ret (0 :: 1 :: (rl 3 18 [])))))⟩
def D102 (u : Nat) (x0 x1 x2 : Int) (k : Bool → Option ρ) : Option ρ :=
 (bif ((decide ((if x2 > (if x1 > x0 then x1 else x0) then x2 else (if x1 > x0 then x1 else x0)) > 524288)) == false) then (k (decide ((if x2 < (if x1 < x0 then x1 else x0) then x2 else (if x1 < x0 then x1 else x0)) < (-524288)))) else (k true))
def F102 (x0 x1 x2 : Int) : Option (Bool) := D102 u x0 x1 x2 some
theorem f102 (x0 x1 x2 : Int) (k : (Bool) → Option ρ) : D102 u x0 x1 x2 k = ob (F102 u x0 x1 x2) k := by
 simp only [F102,D102,ob_bif,ob_ob,ob_none,ob_some]
theorem e102 (x0 x1 x2 : Int) : evalF (C3 u) u A37 [.agg [(vi x0),(vi x1),(vi x2)]] = ob (F102 u x0 x1 x2) fun t => some [.v (.b t)] := Eq.trans (b := (bif ((decide ((if x2 > (if x1 > x0 then x1 else x0) then x2 else (if x1 > x0 then x1 else x0)) > 524288)) == false) then (some [.v (.b (decide ((if x2 < (if x1 < x0 then x1 else x0) then x2 else (if x1 < x0 then x1 else x0)) < (-524288))))]) else (some [.v (.b true)]))) (by kernel_rfl) (by
 rw [← f102]
 simp only [D102])
def O102 : Ora where
 o := fun args {ρ} K =>
  wc args fun a1 l2 =>
  wagg a1 fun l3 =>
  wdI .i64 l3 fun y7 l5 =>
  wdI .i64 l5 fun y11 l9 =>
  wdI .i64 l9 fun y15 l13 =>
  wn l13 <|
  wn l2 <|
  (ob (F102 u y7 y11 y15) fun t => K [.v (.b t)])
 nat := fun args {ρ} K => by
  simp only [bind_wagg,bind_wc,bind_wdI,bind_wn,bind_ob,Option.bind_some]
theorem d102 : DO (O102 u) (C3 u) 37 A37 := by
 intro P hmix hC hF args res h
 obtain ⟨a1,l2,rfl,z0⟩ := inv_wc h
 obtain ⟨l3,rfl,z1⟩ := inv_wagg z0
 obtain ⟨a4,y7,l5,rfl,h6,z2⟩ := inv_wdI z1
 obtain ⟨a8,y11,l9,rfl,h10,z3⟩ := inv_wdI z2
 obtain ⟨a12,y15,l13,rfl,h14,z4⟩ := inv_wdI z3
 obtain ⟨hn,z5⟩ := inv_wn z4
 cases hn
 obtain ⟨hn,z6⟩ := inv_wn z5
 cases hn
 exact Den.weaken (.cons (WkA.agg (.cons h6 (.cons h10 (.cons h14 .nil)))) .nil) (evalF_sound hmix hC hF ((e102 u y7 y11 y15).trans z6))
def C4 : Oracle := (C3 u).add 37 (fun _ => true) (O102 100)
def A64v1 : AC := (.region 6 [o1 18 (bk .add 3 8 1),mv 8 18] 0 none)
def A64v2 : AC := (.seq (.block 1
 (.seq (.region 3 [mv 10 8,o1 5 (sg 10)] 0 none) []
  (.seq (.region 4 [mv 11 1,mv 12 0,mv 13 5,o1 14 (.indexAddr 29 42 3 (tm 12) (tm 13)),o1 15 (ln 42 3 14),o1 16 (.callv (tm 11) [(tm 15)] [42] .snap)] 0 none) []
  (.cond (tm 16)
  (.seq (.region 5 [mv 17 5,o1 4 (sg 17)] 0 none) []
   (.ret (rl 0 4 (rl 5 14 []))))
  .skip)))) (4 :: 5 :: (rl 10 8 []))
 A64v1)
def A64v3 : AC := (.seq (.region 2 [o1 9 (bt .lss 3 8 7)] 0 none) []
 (.seq (.cond (tm 9)
 .skip
 (.exit 0 (rl 0 19 []))) []
 A64v2))
def A64v4 : AC := (.seq (.region 7 [o1 4 (sk (-1))] 0 none) []
 (.ret (rl 0 4 (rl 5 14 []))))
def A64 : AF := ⟨19,[.tmp 4],
 (.seq (.region 0 [o1 4 (sk 0)] 0 none) []
 (.seq (.seq (.region 1 [mv 6 0,o1 7 (.len 29 false (tm 6)),o1 8 (.move (ic 0))] 0 none) []
 (.block 0
 (.loop [] (rl 2 5 (rl 9 10 []))
  A64v3))) (rl 4 15 [])
 A64v4))⟩
def B103v1 (C : Oracle) (u : Nat) : St → (Ex → St → Option ρ) → Option ρ := fun st k => evalC C u A64v3 st k
def N103v1 : St → Option St := fun s => s.norm (rl 2 5 (rl 9 10 [])) 0
def s103v0 (x0 : Nat) (x1 : FF) (x2 x3 : Int) : St := ⟨(.x (.c (ro kV x0 x1)) :: .x (.c (.fn 37 0 (listF []))) :: (us 5 (vxi x2 :: vxi x3 :: (us 10 [])))),[]⟩
def s103v1 (x0 : Int) : St := ⟨(us 4 (vxi x0 :: (us 14 []))),[]⟩
def s103v2 : St := ⟨(us 19 []),[]⟩
def L103v1 {ρ : Type} (u : Nat) (x0 : Nat) (x1 : FF) (x2 : Int) : Nat → Int → (Int → Option ρ) → (Option ρ) → Option ρ
 | 0,_,_,_ => none
 | m + 1,x3,k0,k1 =>
  (bif (decide (x3 < x2)) then (bif (inb x3 x0) then (ob (F102 100 (x1 x3.toNat 0).int (x1 x3.toNat 1).int (x1 x3.toNat 2).int) fun x4 => (bif x4 then (k0 x3) else (L103v1 u x0 x1 x2 m (w64 (x3 + 1)) k0 k1))) else none) else k1)
theorem nl103v1 {ρ σ : Type} (u : Nat) (x0 : Nat) (x1 : FF) (x2 : Int) (g : ρ → Option σ) : ∀ (m : Nat) (x3 : Int) (k0 : Int → Option ρ) (k1 : Option ρ),ob (L103v1 u x0 x1 x2 m x3 k0 k1) g = L103v1 u x0 x1 x2 m x3 (fun x4 => ob (k0 x4) g) (ob k1 g)
 | 0,_,_,_ => rfl
 | m + 1,x3,k0,k1 => by
  simp only [L103v1,ob_bif,ob_ob,ob_none,nl103v1 u x0 x1 x2 g m]
theorem r103v1 (m : Nat) (k : Ex → St → Option ρ) (x0 : Nat) (x1 : FF) (x2 x3 : Int) :
  loopH (B103v1 (C4 u) u) N103v1 (m + 1) (s103v0 x0 x1 x2 x3) k =
  (bif (decide (x3 < x2)) then (bif (inb x3 x0) then (ob (F102 100 (x1 x3.toNat 0).int (x1 x3.toNat 1).int (x1 x3.toNat 2).int) fun x4 => (bif x4 then (k .ret (s103v1 x3)) else (loopH (B103v1 (C4 u) u) N103v1 m (s103v0 x0 x1 x2 (w64 (x3 + 1))) k))) else none) else (k (.exit 0) s103v2)) := by kernel_rfl
theorem q103v1 (u : Nat) (x0 : Nat) (x1 : FF) (x2 : Int) {ρ : Type} (k : Ex → St → Option ρ) : ∀ (m : Nat) (x3 : Int),
  loopH (B103v1 (C4 u) u) N103v1 m (s103v0 x0 x1 x2 x3) k = L103v1 u x0 x1 x2 m x3 (fun x4 => k .ret (s103v1 x4)) (k (.exit 0) s103v2)
 | 0,_ => rfl
 | m + 1,x3 => by
  rw [r103v1]
  simp only [L103v1,q103v1 u x0 x1 x2 k m]
def D103 (x0 : Nat) (x1 : FF) (k : Int → Option ρ) : Option ρ :=
 (L103v1 u x0 x1 (Int.ofNat x0) u 0
  (fun x2 => (k x2))
  (k (-1)))
def F103 (x0 : Nat) (x1 : FF) : Option (Int) := D103 u x0 x1 some
theorem f103 (x0 : Nat) (x1 : FF) (k : (Int) → Option ρ) : D103 u x0 x1 k = ob (F103 u x0 x1) k := by
 simp only [F103,D103,ob_bif,ob_ob,ob_none,ob_some,nl103v1]
def s103v3 (x0 : Nat) (x1 : FF) : St := ⟨[.x (.c (ro kV x0 x1)),.x (.c (.fn 37 0 (listF []))),uu,uu,vxi 0,uu,.x (.c (ro kV x0 x1)),vxi (Int.ofNat x0),vxi 0,uu,uu,uu,uu,uu,uu,uu,uu,uu,uu],[]⟩
theorem t103v1 (k : Ex → St → Option ρ) (x0 : Nat) (x1 : FF) :
  loopN (B103v1 (C4 u) u) N103v1 u (s103v3 x0 x1) k =
  L103v1 u x0 x1 (Int.ofNat x0) u 0 (fun x2 => k .ret (s103v1 x2)) (k (.exit 0) s103v2) :=
 (loopN_at (st' := (s103v0 x0 x1 (Int.ofNat x0) 0)) (by kernel_rfl)).trans (q103v1 u x0 x1 (Int.ofNat x0) k u 0)
theorem g103v2 (x0 : Int) :
  (kBlk 0 (kSeq (C4 u) u (rl 4 15 []) A64v4 (finish A64))) .ret (s103v1 x0) =
  (some [.v (vi x0)]) := by kernel_rfl
theorem g103v3 :
  (kBlk 0 (kSeq (C4 u) u (rl 4 15 []) A64v4 (finish A64))) (.exit 0) s103v2 =
  (some [.v (vi (-1))]) := by kernel_rfl
theorem e103 (x0 : Nat) (x1 : FF) : evalF (C4 u) u A64 [.v (ro kV x0 x1),.v (.fn 37 0 (listF []))] = ob (F103 u x0 x1) fun t => some [.v (vi t)] := Eq.trans (b := (loopN (B103v1 (C4 u) u) N103v1 u (s103v3 x0 x1) (kBlk 0 (kSeq (C4 u) u (rl 4 15 []) A64v4 (finish A64))))) (by kernel_rfl) (by
 rw [← f103]
 simp only [D103,t103v1,g103v2,g103v3])
def O103 : Ora where
 o := fun args {ρ} K =>
  wcL kV args fun y4 y5 l2 =>
  wc l2 fun a6 l7 =>
  wv a6 fun c8 =>
  wFn 37 0 c8 fun y9 =>
  wn l7 <|
  (ob (F103 u y4 y5) fun t => K [.v (vi t)])
 nat := fun args {ρ} K => by
  simp only [bind_wFn,bind_wc,bind_wcL,bind_wn,bind_wv,bind_ob,Option.bind_some]
theorem d103 : DO (O103 u) (C4 u) 64 A64 := by
 intro P hmix hC hF args res h
 obtain ⟨a1,y4,y5,l2,rfl,h3,z0⟩ := inv_wcL h
 obtain ⟨a6,l7,rfl,z1⟩ := inv_wc z0
 obtain ⟨c8,rfl,z2⟩ := inv_wv z1
 obtain ⟨y9,h10,z3⟩ := inv_wFn z2
 obtain ⟨hn,z4⟩ := inv_wn z3
 cases hn
 exact Den.weaken (.cons h3 (.cons (WkA.v (wk_fn0 h10)) .nil)) (evalF_sound hmix hC hF ((e103 u y4 y5).trans z4))
def C5 : Oracle := (C4 u).add 64 (fun l => isFn 37 l 1) (O103 100)
def A36 : AF := ⟨9,[.tmp 4],
 (.seq (.region 0 [o1 4 (sb false)] 0 none) []
 (.seq (.region 1 [mv 5 0,mv 6 1,o1 7 (cs 64 [5,6] [29,69]),o1 8 (bk .geq 3 7 0),o1 4 (sg 8)] 0 none) []
 (.ret (rl 0 4 (rl 5 4 [])))))⟩
def D104 (u : Nat) (x0 : Nat) (x1 : FF) (k : Bool → Option ρ) : Option ρ :=
 (ob (F103 100 x0 x1) fun x2 => (k (decide (x2 ≥ 0))))
def F104 (x0 : Nat) (x1 : FF) : Option (Bool) := D104 u x0 x1 some
theorem f104 (x0 : Nat) (x1 : FF) (k : (Bool) → Option ρ) : D104 u x0 x1 k = ob (F104 u x0 x1) k := by
 simp only [F104,D104,ob_bif,ob_ob,ob_none,ob_some]
theorem e104 (x0 : Nat) (x1 : FF) : evalF (C5 u) u A36 [.v (ro kV x0 x1),.v (.fn 37 0 (listF []))] = ob (F104 u x0 x1) fun t => some [.v (.b t)] := Eq.trans (b := (ob (F103 100 x0 x1) fun x2 => (some [.v (.b (decide (x2 ≥ 0)))]))) (by kernel_rfl) (by
 rw [← f104]
 simp only [D104])
def O104 : Ora where
 o := fun args {ρ} K =>
  wcL kV args fun y4 y5 l2 =>
  wc l2 fun a6 l7 =>
  wv a6 fun c8 =>
  wFn 37 0 c8 fun y9 =>
  wn l7 <|
  (ob (F104 u y4 y5) fun t => K [.v (.b t)])
 nat := fun args {ρ} K => by
  simp only [bind_wFn,bind_wc,bind_wcL,bind_wn,bind_wv,bind_ob,Option.bind_some]
theorem d104 : DO (O104 u) (C5 u) 36 A36 := by
 intro P hmix hC hF args res h
 obtain ⟨a1,y4,y5,l2,rfl,h3,z0⟩ := inv_wcL h
 obtain ⟨a6,l7,rfl,z1⟩ := inv_wc z0
 obtain ⟨c8,rfl,z2⟩ := inv_wv z1
 obtain ⟨y9,h10,z3⟩ := inv_wFn z2
 obtain ⟨hn,z4⟩ := inv_wn z3
 cases hn
 exact Den.weaken (.cons h3 (.cons (WkA.v (wk_fn0 h10)) .nil)) (evalF_sound hmix hC hF ((e104 u y4 y5).trans z4))
def C6 : Oracle := (C5 u).add 36 (fun l => isFn 37 l 1) (O104 100)
def A41v1 : AC := (.region 6 [o1 26 (bk .add 3 14 1),mv 14 26] 0 none)
def A41v2 : AC := (.seq (.block 1
 (.seq (.region 3 [o1 16 (.index 71 3 3 1 none (tm 13) (tm 14)),o1 6 (sg 16)] 0 none) []
  (.seq (.region 4 [mv 17 6,mv 18 1,o1 19 (.unOp .neg 3 (tm 18)),o1 20 (bt .lss 3 17 19),mv 21 20,og 22 (.move (tm 6)) 21 false,og 23 (.move (tm 1)) 21 false,og 24 (bt .gtr 3 22 23) 21 false,o1 25 (pa 21 24)] 0 none) []
  (.cond (tm 25)
  (.seq (.region 5 [o1 4 (sb false)] 0 none) []
   (.ret (rl 0 4 (rl 5 22 []))))
  .skip)))) (4 :: 6 :: (rl 16 10 []))
 A41v1)
def A41v3 : AC := (.seq (.region 2 [o1 15 (bk .lss 3 14 3)] 0 none) []
 (.seq (.cond (tm 15)
 .skip
 (.exit 0 (rl 0 27 []))) []
 A41v2))
def A41v4 : AC := (.seq (.region 7 [o1 4 (sb true)] 0 none) []
 (.ret (rl 0 4 (rl 5 22 []))))
def A41 : AF := ⟨27,[.tmp 4],
 (.seq (.region 0 [o1 2 (bx 0 42 0),o1 4 (sb false)] 1 none) []
 (.seq (.seq (.region 1 [o1 7 (fa 42 2 0 0),o1 8 (lo 3 7),o1 9 (fa 42 2 1 1),o1 10 (lo 3 9),o1 11 (fa 42 2 2 2),o1 12 (lo 3 11),o1 13 (.build 71 [vci 0,vci 0,vci 0] [] 1 [(0,(tm 8)),(1,(tm 10)),(2,(tm 12))]),o1 14 (.move (ic 0))] 0 none) []
 (.block 0
 (.loop [] (0 :: (rl 2 11 (rl 15 12 [])))
  A41v3))) (4 :: (rl 6 21 []))
 A41v4))⟩
def B105v1 (C : Oracle) (u : Nat) : St → (Ex → St → Option ρ) → Option ρ := fun st k => evalC C u A41v3 st k
def N105v1 : St → Option St := fun s => s.norm (0 :: (rl 2 11 (rl 15 12 []))) 1
def s105v0 (x0 x1 x2 x3 x4 : Int) : St := ⟨(.u :: vxi x0 :: (us 11 (.agg [(vci x1),(vci x2),(vci x3)] :: vxi x4 :: (us 12 [])))),[.box [(vci x1),(vci x2),(vci x3)]]⟩
def s105v1 (x0 x1 x2 : Int) : St := ⟨(us 4 (vxb false :: (us 22 []))),[.box [(vci x0),(vci x1),(vci x2)]]⟩
def s105v2 (x0 x1 x2 : Int) : St := ⟨(us 27 []),[.box [(vci x0),(vci x1),(vci x2)]]⟩
def L105v1 {ρ : Type} (u : Nat) (x0 x1 x2 x3 : Int) : Nat → Int → (Option ρ) → (Option ρ) → Option ρ
 | 0,_,_,_ => none
 | m + 1,x4,k0,k1 =>
  (bif (decide (x4 < 3)) then (bif (x4 == 0) then (bif ((decide (x1 < (w64 (0 - x0)))) == false) then (bif (decide (x1 > x0)) then k0 else (L105v1 u x0 x1 x2 x3 m (w64 (x4 + 1)) k0 k1)) else k0) else (bif (x4 == 1) then (bif ((decide (x2 < (w64 (0 - x0)))) == false) then (bif (decide (x2 > x0)) then k0 else (L105v1 u x0 x1 x2 x3 m (w64 (x4 + 1)) k0 k1)) else k0) else (bif (x4 == 2) then (bif ((decide (x3 < (w64 (0 - x0)))) == false) then (bif (decide (x3 > x0)) then k0 else (L105v1 u x0 x1 x2 x3 m (w64 (x4 + 1)) k0 k1)) else k0) else none))) else k1)
theorem nl105v1 {ρ σ : Type} (u : Nat) (x0 x1 x2 x3 : Int) (g : ρ → Option σ) : ∀ (m : Nat) (x4 : Int) (k0 : Option ρ) (k1 : Option ρ),ob (L105v1 u x0 x1 x2 x3 m x4 k0 k1) g = L105v1 u x0 x1 x2 x3 m x4 (ob k0 g) (ob k1 g)
 | 0,_,_,_ => rfl
 | m + 1,x4,k0,k1 => by
  simp only [L105v1,ob_bif,ob_ob,ob_none,nl105v1 u x0 x1 x2 x3 g m]
theorem r105v1 (m : Nat) (k : Ex → St → Option ρ) (x0 x1 x2 x3 x4 : Int) :
  loopH (B105v1 (C6 u) u) N105v1 (m + 1) (s105v0 x0 x1 x2 x3 x4) k =
  (bif (decide (x4 < 3)) then (bif (x4 == 0) then (bif ((decide (x1 < (w64 (0 - x0)))) == false) then (bif (decide (x1 > x0)) then (k .ret (s105v1 x1 x2 x3)) else (loopH (B105v1 (C6 u) u) N105v1 m (s105v0 x0 x1 x2 x3 (w64 (x4 + 1))) k)) else (k .ret (s105v1 x1 x2 x3))) else (bif (x4 == 1) then (bif ((decide (x2 < (w64 (0 - x0)))) == false) then (bif (decide (x2 > x0)) then (k .ret (s105v1 x1 x2 x3)) else (loopH (B105v1 (C6 u) u) N105v1 m (s105v0 x0 x1 x2 x3 (w64 (x4 + 1))) k)) else (k .ret (s105v1 x1 x2 x3))) else (bif (x4 == 2) then (bif ((decide (x3 < (w64 (0 - x0)))) == false) then (bif (decide (x3 > x0)) then (k .ret (s105v1 x1 x2 x3)) else (loopH (B105v1 (C6 u) u) N105v1 m (s105v0 x0 x1 x2 x3 (w64 (x4 + 1))) k)) else (k .ret (s105v1 x1 x2 x3))) else none))) else (k (.exit 0) (s105v2 x1 x2 x3))) := by kernel_rfl
theorem q105v1 (u : Nat) (x0 x1 x2 x3 : Int) {ρ : Type} (k : Ex → St → Option ρ) : ∀ (m : Nat) (x4 : Int),
  loopH (B105v1 (C6 u) u) N105v1 m (s105v0 x0 x1 x2 x3 x4) k = L105v1 u x0 x1 x2 x3 m x4 (k .ret (s105v1 x1 x2 x3)) (k (.exit 0) (s105v2 x1 x2 x3))
 | 0,_ => rfl
 | m + 1,x4 => by
  rw [r105v1]
  simp only [L105v1,q105v1 u x0 x1 x2 x3 k m]
def D105 (x0 x1 x2 x3 : Int) (k : Bool → Option ρ) : Option ρ :=
 (L105v1 u x3 x0 x1 x2 u 0
  (k false)
  (k true))
def F105 (x0 x1 x2 x3 : Int) : Option (Bool) := D105 u x0 x1 x2 x3 some
theorem f105 (x0 x1 x2 x3 : Int) (k : (Bool) → Option ρ) : D105 u x0 x1 x2 x3 k = ob (F105 u x0 x1 x2 x3) k := by
 simp only [F105,D105,ob_bif,ob_ob,ob_none,ob_some,nl105v1]
def s105v3 (x0 x1 x2 x3 : Int) : St := ⟨[.agg [(vci x0),(vci x1),(vci x2)],vxi x3,.x (.ptr 0 0),uu,vxb false,uu,uu,.x (.ptr 0 0),vxi x0,.x (.ptr 0 1),vxi x1,.x (.ptr 0 2),vxi x2,.agg [(vci x0),(vci x1),(vci x2)],vxi 0,uu,uu,uu,uu,uu,uu,uu,uu,uu,uu,uu,uu],[.box [(vci x0),(vci x1),(vci x2)]]⟩
theorem t105v1 (k : Ex → St → Option ρ) (x0 x1 x2 x3 : Int) :
  loopN (B105v1 (C6 u) u) N105v1 u (s105v3 x0 x1 x2 x3) k =
  L105v1 u x3 x0 x1 x2 u 0 (k .ret (s105v1 x0 x1 x2)) (k (.exit 0) (s105v2 x0 x1 x2)) :=
 (loopN_at (st' := (s105v0 x3 x0 x1 x2 0)) (by kernel_rfl)).trans (q105v1 u x3 x0 x1 x2 k u 0)
theorem g105v2 (x0 x1 x2 : Int) :
  (kBlk 0 (kSeq (C6 u) u (4 :: (rl 6 21 [])) A41v4 (finish A41))) .ret (s105v1 x0 x1 x2) =
  (some [.v (.b false)]) := by kernel_rfl
theorem g105v3 (x0 x1 x2 : Int) :
  (kBlk 0 (kSeq (C6 u) u (4 :: (rl 6 21 [])) A41v4 (finish A41))) (.exit 0) (s105v2 x0 x1 x2) =
  (some [.v (.b true)]) := by kernel_rfl
theorem e105 (x0 x1 x2 x3 : Int) : evalF (C6 u) u A41 [.agg [(vi x0),(vi x1),(vi x2)],.v (vi x3)] = ob (F105 u x0 x1 x2 x3) fun t => some [.v (.b t)] := Eq.trans (b := (loopN (B105v1 (C6 u) u) N105v1 u (s105v3 x0 x1 x2 x3) (kBlk 0 (kSeq (C6 u) u (4 :: (rl 6 21 [])) A41v4 (finish A41))))) (by kernel_rfl) (by
 rw [← f105]
 simp only [D105,t105v1,g105v2,g105v3])
def O105 : Ora where
 o := fun args {ρ} K =>
  wc args fun a1 l2 =>
  wagg a1 fun l3 =>
  wdI .i64 l3 fun y7 l5 =>
  wdI .i64 l5 fun y11 l9 =>
  wdI .i64 l9 fun y15 l13 =>
  wn l13 <|
  wcI .i64 l2 fun y19 l17 =>
  wn l17 <|
  (ob (F105 u y7 y11 y15 y19) fun t => K [.v (.b t)])
 nat := fun args {ρ} K => by
  simp only [bind_wagg,bind_wc,bind_wcI,bind_wdI,bind_wn,bind_ob,Option.bind_some]
theorem d105 : DO (O105 u) (C6 u) 41 A41 := by
 intro P hmix hC hF args res h
 obtain ⟨a1,l2,rfl,z0⟩ := inv_wc h
 obtain ⟨l3,rfl,z1⟩ := inv_wagg z0
 obtain ⟨a4,y7,l5,rfl,h6,z2⟩ := inv_wdI z1
 obtain ⟨a8,y11,l9,rfl,h10,z3⟩ := inv_wdI z2
 obtain ⟨a12,y15,l13,rfl,h14,z4⟩ := inv_wdI z3
 obtain ⟨hn,z5⟩ := inv_wn z4
 cases hn
 obtain ⟨a16,y19,l17,rfl,h18,z6⟩ := inv_wcI z5
 obtain ⟨hn,z7⟩ := inv_wn z6
 cases hn
 exact Den.weaken (.cons (WkA.agg (.cons h6 (.cons h10 (.cons h14 .nil)))) (.cons h18 .nil)) (evalF_sound hmix hC hF ((e105 u y7 y11 y15 y19).trans z7))
def C7 : Oracle := (C6 u).add 41 (fun _ => true) (O105 100)
def A44 : AF := ⟨13,[.cell 2 42 (some 3)],
 (.seq (.region 0 [o1 1 (bx 0 42 0),o1 2 (.alloc 1 42 [vci 0,vci 0,vci 0])] 2 none) []
 (.seq (.region 1 [o1 3 (fa 42 1 0 0),o1 4 (lo 3 3),o1 5 (.unOp .neg 3 (tm 4)),o1 6 (fa 42 1 1 1),o1 7 (lo 3 6),o1 8 (.unOp .neg 3 (tm 7)),o1 9 (fa 42 1 2 2),o1 10 (lo 3 9),o1 11 (.unOp .neg 3 (tm 10)),o1 12 (.build 42 [vci 0,vci 0,vci 0] [(0,1),(1,1),(2,1)] 0 [(0,(tm 5)),(1,(tm 8)),(2,(tm 11))]),o0 (.store 42 3 (tm 2) (tm 12))] 0 none) []
 (.ret (0 :: 1 :: (rl 3 10 [])))))⟩
def D106 (u : Nat) (x0 x1 x2 : Int) (k : (Int × Int × Int) → Option ρ) : Option ρ :=
 (k ((w64 (0 - x0)),(w64 (0 - x1)),(w64 (0 - x2))))
def F106 (x0 x1 x2 : Int) : Option (Int × Int × Int) := D106 u x0 x1 x2 some
theorem f106 (x0 x1 x2 : Int) (k : (Int × Int × Int) → Option ρ) : D106 u x0 x1 x2 k = ob (F106 u x0 x1 x2) k := by
 simp only [F106,D106,ob_bif,ob_ob,ob_none,ob_some]
theorem e106 (x0 x1 x2 : Int) : evalF (C7 u) u A44 [.agg [(vi x0),(vi x1),(vi x2)]] = ob (F106 u x0 x1 x2) fun t => some [.agg [(vi t.1),(vi t.2.1),(vi t.2.2)]] := Eq.trans (b := (some [.agg [(vi (w64 (0 - x0))),(vi (w64 (0 - x1))),(vi (w64 (0 - x2)))]])) (by kernel_rfl) (by
 rw [← f106]
 simp only [D106])
def O106 : Ora where
 o := fun args {ρ} K =>
  wc args fun a1 l2 =>
  wagg a1 fun l3 =>
  wdI .i64 l3 fun y7 l5 =>
  wdI .i64 l5 fun y11 l9 =>
  wdI .i64 l9 fun y15 l13 =>
  wn l13 <|
  wn l2 <|
  (ob (F106 u y7 y11 y15) fun t => K [.agg [(vi t.1),(vi t.2.1),(vi t.2.2)]])
 nat := fun args {ρ} K => by
  simp only [bind_wagg,bind_wc,bind_wdI,bind_wn,bind_ob,Option.bind_some]
theorem d106 : DO (O106 u) (C7 u) 44 A44 := by
 intro P hmix hC hF args res h
 obtain ⟨a1,l2,rfl,z0⟩ := inv_wc h
 obtain ⟨l3,rfl,z1⟩ := inv_wagg z0
 obtain ⟨a4,y7,l5,rfl,h6,z2⟩ := inv_wdI z1
 obtain ⟨a8,y11,l9,rfl,h10,z3⟩ := inv_wdI z2
 obtain ⟨a12,y15,l13,rfl,h14,z4⟩ := inv_wdI z3
 obtain ⟨hn,z5⟩ := inv_wn z4
 cases hn
 obtain ⟨hn,z6⟩ := inv_wn z5
 cases hn
 exact Den.weaken (.cons (WkA.agg (.cons h6 (.cons h10 (.cons h14 .nil)))) .nil) (evalF_sound hmix hC hF ((e106 u y7 y11 y15).trans z6))
def C8 : Oracle := (C7 u).add 44 (fun _ => true) (O106 100)
def A45 : AF := ⟨21,[.cell 4 42 (some 3)],
 (.seq (.region 0 [o1 2 (bx 0 42 0),o1 3 (bx 1 42 1),o1 4 (.alloc 2 42 [vci 0,vci 0,vci 0])] 3 none) []
 (.seq (.region 1 [o1 5 (fa 42 2 0 0),o1 6 (lo 3 5),o1 7 (fa 42 3 0 0),o1 8 (lo 3 7),o1 9 (bt .add 3 6 8),o1 10 (fa 42 2 1 1),o1 11 (lo 3 10),o1 12 (fa 42 3 1 1),o1 13 (lo 3 12),o1 14 (bt .add 3 11 13),o1 15 (fa 42 2 2 2),o1 16 (lo 3 15),o1 17 (fa 42 3 2 2),o1 18 (lo 3 17),o1 19 (bt .add 3 16 18),o1 20 (.build 42 [vci 0,vci 0,vci 0] [(0,1),(1,1),(2,1)] 0 [(0,(tm 9)),(1,(tm 14)),(2,(tm 19))]),o0 (.store 42 3 (tm 4) (tm 20))] 0 none) []
 (.ret (rl 0 4 (rl 5 16 [])))))⟩
def D107 (u : Nat) (x0 x1 x2 x3 x4 x5 : Int) (k : (Int × Int × Int) → Option ρ) : Option ρ :=
 (k ((w64 (x0 + x3)),(w64 (x1 + x4)),(w64 (x2 + x5))))
def F107 (x0 x1 x2 x3 x4 x5 : Int) : Option (Int × Int × Int) := D107 u x0 x1 x2 x3 x4 x5 some
theorem f107 (x0 x1 x2 x3 x4 x5 : Int) (k : (Int × Int × Int) → Option ρ) : D107 u x0 x1 x2 x3 x4 x5 k = ob (F107 u x0 x1 x2 x3 x4 x5) k := by
 simp only [F107,D107,ob_bif,ob_ob,ob_none,ob_some]
theorem e107 (x0 x1 x2 x3 x4 x5 : Int) : evalF (C8 u) u A45 [.agg [(vi x0),(vi x1),(vi x2)],.agg [(vi x3),(vi x4),(vi x5)]] = ob (F107 u x0 x1 x2 x3 x4 x5) fun t => some [.agg [(vi t.1),(vi t.2.1),(vi t.2.2)]] := Eq.trans (b := (some [.agg [(vi (w64 (x0 + x3))),(vi (w64 (x1 + x4))),(vi (w64 (x2 + x5)))]])) (by kernel_rfl) (by
 rw [← f107]
 simp only [D107])
def O107 : Ora where
 o := fun args {ρ} K =>
  wc args fun a1 l2 =>
  wagg a1 fun l3 =>
  wdI .i64 l3 fun y7 l5 =>
  wdI .i64 l5 fun y11 l9 =>
  wdI .i64 l9 fun y15 l13 =>
  wn l13 <|
  wc l2 fun a16 l17 =>
  wagg a16 fun l18 =>
  wdI .i64 l18 fun y22 l20 =>
  wdI .i64 l20 fun y26 l24 =>
  wdI .i64 l24 fun y30 l28 =>
  wn l28 <|
  wn l17 <|
  (ob (F107 u y7 y11 y15 y22 y26 y30) fun t => K [.agg [(vi t.1),(vi t.2.1),(vi t.2.2)]])
 nat := fun args {ρ} K => by
  simp only [bind_wagg,bind_wc,bind_wdI,bind_wn,bind_ob,Option.bind_some]
theorem d107 : DO (O107 u) (C8 u) 45 A45 := by
 intro P hmix hC hF args res h
 obtain ⟨a1,l2,rfl,z0⟩ := inv_wc h
 obtain ⟨l3,rfl,z1⟩ := inv_wagg z0
 obtain ⟨a4,y7,l5,rfl,h6,z2⟩ := inv_wdI z1
 obtain ⟨a8,y11,l9,rfl,h10,z3⟩ := inv_wdI z2
 obtain ⟨a12,y15,l13,rfl,h14,z4⟩ := inv_wdI z3
 obtain ⟨hn,z5⟩ := inv_wn z4
 cases hn
 obtain ⟨a16,l17,rfl,z6⟩ := inv_wc z5
 obtain ⟨l18,rfl,z7⟩ := inv_wagg z6
 obtain ⟨a19,y22,l20,rfl,h21,z8⟩ := inv_wdI z7
 obtain ⟨a23,y26,l24,rfl,h25,z9⟩ := inv_wdI z8
 obtain ⟨a27,y30,l28,rfl,h29,z10⟩ := inv_wdI z9
 obtain ⟨hn,z11⟩ := inv_wn z10
 cases hn
 obtain ⟨hn,z12⟩ := inv_wn z11
 cases hn
 exact Den.weaken (.cons (WkA.agg (.cons h6 (.cons h10 (.cons h14 .nil)))) (.cons (WkA.agg (.cons h21 (.cons h25 (.cons h29 .nil)))) .nil)) (evalF_sound hmix hC hF ((e107 u y7 y11 y15 y22 y26 y30).trans z12))
def C9 : Oracle := (C8 u).add 45 (fun _ => true) (O107 100)
def A38v1 : AC := (.seq (.region 3 [o1 14 (ln 42 3 2),o1 15 (ln 42 3 3),o1 16 (cs 44 [15] [42]),o1 17 (cs 45 [14,16] [42,42]),o0 (.store 42 3 (tm 4) (tm 17))] 0 (some [[],[],[1],[0,1,2],(rl 0 4 [])])) []
 (.ret (rl 0 4 (rl 5 13 []))))
def A38 : AF := ⟨18,[.cell 4 42 (some 3)],
 (.seq (.region 0 [o1 2 (bx 0 42 0),o1 3 (bx 1 42 1),o1 4 (.alloc 2 42 [vci 0,vci 0,vci 0])] 3 none) []
 (.seq (.seq (.region 1 [o1 5 (ln 42 3 2),o1 6 (.call 41 [(tm 5),(ic 1099511627776)] [42,3] .snap),o1 7 (.unOp .not 4 (tm 6)),mv 8 7,og 9 (ln 42 3 3) 8 false,og 10 (.call 41 [(tm 9),(ic 1099511627776)] [42,3] .snap) 8 false,og 11 (.unOp .not 4 (tm 10)) 8 false,o1 12 (pa 8 11)] 0 none) []
 (.cond (tm 12)
 (.seq (.region 2 [o1 13 (.build 42 [vci 0,vci 0,vci 0] [(0,1),(1,1),(2,1)] 0 []),o0 (.store 42 3 (tm 4) (tm 13))] 0 none) []
  (.ret (rl 0 4 (rl 5 13 []))))
 .skip)) (rl 5 9 [])
 A38v1))⟩
def D108 (u : Nat) (x0 x1 x2 x3 x4 x5 : Int) (k : (Int × Int × Int) → Option ρ) : Option ρ :=
 (ob (F105 100 x0 x1 x2 1099511627776) fun x6 => (bif ((!x6) == false) then (ob (F105 100 x3 x4 x5 1099511627776) fun x7 => (bif (!x7) then (k (0,0,0)) else (ob (F106 100 x3 x4 x5) fun x8 => (ob (F107 100 x0 x1 x2 x8.1 x8.2.1 x8.2.2) fun x9 => (k (x9.1,x9.2.1,x9.2.2)))))) else (k (0,0,0))))
def F108 (x0 x1 x2 x3 x4 x5 : Int) : Option (Int × Int × Int) := D108 u x0 x1 x2 x3 x4 x5 some
theorem f108 (x0 x1 x2 x3 x4 x5 : Int) (k : (Int × Int × Int) → Option ρ) : D108 u x0 x1 x2 x3 x4 x5 k = ob (F108 u x0 x1 x2 x3 x4 x5) k := by
 simp only [F108,D108,ob_bif,ob_ob,ob_none,ob_some]
theorem e108 (x0 x1 x2 x3 x4 x5 : Int) : evalF (C9 u) u A38 [.agg [(vi x0),(vi x1),(vi x2)],.agg [(vi x3),(vi x4),(vi x5)]] = ob (F108 u x0 x1 x2 x3 x4 x5) fun t => some [.agg [(vi t.1),(vi t.2.1),(vi t.2.2)]] := Eq.trans (b := (ob (F105 100 x0 x1 x2 1099511627776) fun x6 => (bif ((!x6) == false) then (ob (F105 100 x3 x4 x5 1099511627776) fun x7 => (bif (!x7) then (some [.agg [(vi 0),(vi 0),(vi 0)]]) else (ob (F106 100 x3 x4 x5) fun x8 => (ob (F107 100 x0 x1 x2 x8.1 x8.2.1 x8.2.2) fun x9 => (some [.agg [(vi x9.1),(vi x9.2.1),(vi x9.2.2)]]))))) else (some [.agg [(vi 0),(vi 0),(vi 0)]])))) (by kernel_rfl) (by
 rw [← f108]
 simp only [D108])
def O108 : Ora where
 o := fun args {ρ} K =>
  wc args fun a1 l2 =>
  wagg a1 fun l3 =>
  wdI .i64 l3 fun y7 l5 =>
  wdI .i64 l5 fun y11 l9 =>
  wdI .i64 l9 fun y15 l13 =>
  wn l13 <|
  wc l2 fun a16 l17 =>
  wagg a16 fun l18 =>
  wdI .i64 l18 fun y22 l20 =>
  wdI .i64 l20 fun y26 l24 =>
  wdI .i64 l24 fun y30 l28 =>
  wn l28 <|
  wn l17 <|
  (ob (F108 u y7 y11 y15 y22 y26 y30) fun t => K [.agg [(vi t.1),(vi t.2.1),(vi t.2.2)]])
 nat := fun args {ρ} K => by
  simp only [bind_wagg,bind_wc,bind_wdI,bind_wn,bind_ob,Option.bind_some]
theorem d108 : DO (O108 u) (C9 u) 38 A38 := by
 intro P hmix hC hF args res h
 obtain ⟨a1,l2,rfl,z0⟩ := inv_wc h
 obtain ⟨l3,rfl,z1⟩ := inv_wagg z0
 obtain ⟨a4,y7,l5,rfl,h6,z2⟩ := inv_wdI z1
 obtain ⟨a8,y11,l9,rfl,h10,z3⟩ := inv_wdI z2
 obtain ⟨a12,y15,l13,rfl,h14,z4⟩ := inv_wdI z3
 obtain ⟨hn,z5⟩ := inv_wn z4
 cases hn
 obtain ⟨a16,l17,rfl,z6⟩ := inv_wc z5
 obtain ⟨l18,rfl,z7⟩ := inv_wagg z6
 obtain ⟨a19,y22,l20,rfl,h21,z8⟩ := inv_wdI z7
 obtain ⟨a23,y26,l24,rfl,h25,z9⟩ := inv_wdI z8
 obtain ⟨a27,y30,l28,rfl,h29,z10⟩ := inv_wdI z9
 obtain ⟨hn,z11⟩ := inv_wn z10
 cases hn
 obtain ⟨hn,z12⟩ := inv_wn z11
 cases hn
 exact Den.weaken (.cons (WkA.agg (.cons h6 (.cons h10 (.cons h14 .nil)))) (.cons (WkA.agg (.cons h21 (.cons h25 (.cons h29 .nil)))) .nil)) (evalF_sound hmix hC hF ((e108 u y7 y11 y15 y22 y26 y30).trans z12))
def C10 : Oracle := (C9 u).add 38 (fun _ => true) (O108 100)
def A17v1 : AC := (.region 13 [o1 60 (bk .add 3 53 1),mv 53 60] 0 none)
def A17v2 : AC := (.seq (.block 3
 (.seq (.region 10 [o1 55 (.index 71 3 3 1 none (tm 52) (tm 53)),o1 9 (sg 55)] 0 none) []
  (.seq (.region 11 [mv 56 9,o1 57 (bk .neq 3 56 0)] 0 none) []
  (.cond (tm 57)
  (.region 12 [mv 58 6,o1 59 (bk .add 3 58 1),o1 6 (sg 59)] 0 none)
  .skip)))) (9 :: (rl 55 5 []))
 A17v1)
def A17v3 : AC := (.seq (.region 9 [o1 54 (bk .lss 3 53 3)] 0 none) []
 (.seq (.cond (tm 54)
 .skip
 (.exit 2 (rl 1 4 (rl 7 56 [])))) []
 A17v2))
def A17v4 : AC := (.seq (.region 14 [mv 61 6,o1 62 (bk .neq 3 61 1)] 0 none) []
 (.cond (tm 62)
 (.seq (.region 15 [o1 4 (sb false)] 0 none) []
  (.ret (rl 0 4 (rl 5 58 []))))
 .skip))
def A17v5 : AC := (.region 5 [mv 34 5,o1 35 (bk .add 3 34 1),o1 5 (sg 35)] 0 none)
def A17v6 : AC := (.seq (.block 1
 (.seq (.region 6 [o1 6 (sk 0)] 0 none) []
  (.seq (.region 7 [mv 36 0,mv 37 5,o1 38 (.indexAddr 29 42 3 (tm 36) (tm 37)),o1 39 (ln 42 3 38),mv 40 0,mv 41 5,o1 42 (bk .sub 3 41 1),o1 43 (.indexAddr 29 42 3 (tm 40) (tm 42)),o1 44 (ln 42 3 43),o1 45 (cs 38 [39,44] [42,42]),o1 7 (.alloc 0 42 [vci 0,vci 0,vci 0]),o0 (.store 42 3 (tm 7) (tm 45))] 1 (some [[],[],[0,1],[0,1,2],[],[],[5],[4,5,6],(rl 4 4 []),(rl 0 9 []),[],(rl 0 11 [])])) []
  (.seq (.seq (.region 8 [o1 46 (fa 42 7 0 0),o1 47 (lo 3 46),o1 48 (fa 42 7 1 1),o1 49 (lo 3 48),o1 50 (fa 42 7 2 2),o1 51 (lo 3 50),o1 52 (.build 71 [vci 0,vci 0,vci 0] [] 1 [(0,(tm 47)),(1,(tm 49)),(2,(tm 51))]),o1 53 (.move (ic 0))] 0 none) []
  (.block 2
  (.loop [] (rl 1 4 (rl 7 45 (rl 54 9 [])))
   A17v3))) (9 :: (rl 46 15 []))
  A17v4)))) (4 :: 6 :: 7 :: 9 :: (rl 36 27 []))
 A17v5)
def A17v7 : AC := (.seq (.seq (.region 4 [mv 30 5,mv 31 0,o1 32 (.len 29 false (tm 31)),o1 33 (bt .lss 3 30 32)] 0 none) []
 (.cond (tm 33)
 .skip
 (.exit 0 (rl 0 63 [])))) (rl 30 4 [])
 A17v6)
def A17v8 : AC := (.seq (.region 16 [o1 4 (sb true)] 0 none) []
 (.ret (rl 0 4 (rl 5 58 []))))
def A17v9 : AC := (.seq (.seq (.region 3 [o1 5 (sk 1)] 0 none) []
 (.block 0
 (.loop [] (rl 1 4 (rl 6 57 []))
  A17v7))) (rl 4 4 (9 :: (rl 30 33 [])))
 A17v8)
def A17 : AF := ⟨63,[.tmp 4],
 (.seq (.region 0 [o1 4 (sb false)] 0 none) []
 (.seq (.seq (.region 1 [mv 10 0,o1 11 (.len 29 false (tm 10)),o1 12 (bk .lss 3 11 2),mv 13 12,og 14 (.move (tm 0)) 13 false,og 15 (.len 29 false (tm 14)) 13 false,og 16 (bk .gtr 3 15 32) 13 false,o1 17 (pa 13 16),mv 18 17,og 19 (.move (tm 0)) 18 false,og 20 (.call 36 [(tm 19),(.func 37)] [29,69] .snap) 18 false,o1 21 (pa 18 20),mv 22 21,og 23 (.move (tm 1)) 22 false,og 24 (bk .lss 3 23 1) 22 false,o1 25 (pa 22 24),mv 26 25,og 27 (.move (tm 1)) 26 false,og 28 (bk .gtr 3 27 10000) 26 false,o1 29 (pa 26 28)] 0 none) []
 (.cond (tm 29)
 (.seq (.region 2 [o1 4 (sb false)] 0 none) []
  (.ret (rl 0 4 (rl 5 58 []))))
 .skip)) (4 :: (rl 10 20 []))
 A17v9))⟩
def B109v2 (C : Oracle) (u : Nat) : St → (Ex → St → Option ρ) → Option ρ := fun st k => evalC C u A17v3 st k
def N109v2 : St → Option St := fun s => s.norm (rl 1 4 (rl 7 45 (rl 54 9 []))) 1
def s109v0 (x0 : Nat) (x1 : FF) (x2 x3 x4 x5 x6 x7 : Int) : St := ⟨(.x (.c (ro kV x0 x1)) :: (us 4 (vxi x2 :: vxi x3 :: (us 45 (.agg [(vci x4),(vci x5),(vci x6)] :: vxi x7 :: (us 9 [])))))),[.box [(vci x4),(vci x5),(vci x6)]]⟩
def s109v1 (x0 : Nat) (x1 : FF) (x2 x3 x4 x5 x6 : Int) : St := ⟨(.x (.c (ro kV x0 x1)) :: (us 4 (vxi x2 :: vxi x3 :: (us 56 [])))),[.box [(vci x4),(vci x5),(vci x6)]]⟩
def L109v2 {ρ : Type} (u : Nat) (x0 : Nat) (x1 : FF) (x2 x3 x4 x5 : Int) : Nat → Int → Int → (Int → Option ρ) → Option ρ
 | 0,_,_,_ => none
 | m + 1,x6,x7,k0 =>
  (bif (decide (x7 < 3)) then (bif (x7 == 0) then (bif (x3 != 0) then (L109v2 u x0 x1 x2 x3 x4 x5 m (w64 (x6 + 1)) (w64 (x7 + 1)) k0) else (L109v2 u x0 x1 x2 x3 x4 x5 m x6 (w64 (x7 + 1)) k0)) else (bif (x7 == 1) then (bif (x4 != 0) then (L109v2 u x0 x1 x2 x3 x4 x5 m (w64 (x6 + 1)) (w64 (x7 + 1)) k0) else (L109v2 u x0 x1 x2 x3 x4 x5 m x6 (w64 (x7 + 1)) k0)) else (bif (x7 == 2) then (bif (x5 != 0) then (L109v2 u x0 x1 x2 x3 x4 x5 m (w64 (x6 + 1)) (w64 (x7 + 1)) k0) else (L109v2 u x0 x1 x2 x3 x4 x5 m x6 (w64 (x7 + 1)) k0)) else none))) else (k0 x6))
theorem nl109v2 {ρ σ : Type} (u : Nat) (x0 : Nat) (x1 : FF) (x2 x3 x4 x5 : Int) (g : ρ → Option σ) : ∀ (m : Nat) (x6 x7 : Int) (k0 : Int → Option ρ),ob (L109v2 u x0 x1 x2 x3 x4 x5 m x6 x7 k0) g = L109v2 u x0 x1 x2 x3 x4 x5 m x6 x7 (fun x8 => ob (k0 x8) g)
 | 0,_,_,_ => rfl
 | m + 1,x6,x7,k0 => by
  simp only [L109v2,ob_bif,ob_ob,ob_none,nl109v2 u x0 x1 x2 x3 x4 x5 g m]
theorem r109v2 (m : Nat) (k : Ex → St → Option ρ) (x0 : Nat) (x1 : FF) (x2 x3 x4 x5 x6 x7 : Int) :
  loopH (B109v2 (C10 u) u) N109v2 (m + 1) (s109v0 x0 x1 x2 x6 x3 x4 x5 x7) k =
  (bif (decide (x7 < 3)) then (bif (x7 == 0) then (bif (x3 != 0) then (loopH (B109v2 (C10 u) u) N109v2 m (s109v0 x0 x1 x2 (w64 (x6 + 1)) x3 x4 x5 (w64 (x7 + 1))) k) else (loopH (B109v2 (C10 u) u) N109v2 m (s109v0 x0 x1 x2 x6 x3 x4 x5 (w64 (x7 + 1))) k)) else (bif (x7 == 1) then (bif (x4 != 0) then (loopH (B109v2 (C10 u) u) N109v2 m (s109v0 x0 x1 x2 (w64 (x6 + 1)) x3 x4 x5 (w64 (x7 + 1))) k) else (loopH (B109v2 (C10 u) u) N109v2 m (s109v0 x0 x1 x2 x6 x3 x4 x5 (w64 (x7 + 1))) k)) else (bif (x7 == 2) then (bif (x5 != 0) then (loopH (B109v2 (C10 u) u) N109v2 m (s109v0 x0 x1 x2 (w64 (x6 + 1)) x3 x4 x5 (w64 (x7 + 1))) k) else (loopH (B109v2 (C10 u) u) N109v2 m (s109v0 x0 x1 x2 x6 x3 x4 x5 (w64 (x7 + 1))) k)) else none))) else (k (.exit 2) (s109v1 x0 x1 x2 x6 x3 x4 x5))) := by kernel_rfl
theorem q109v2 (u : Nat) (x0 : Nat) (x1 : FF) (x2 x3 x4 x5 : Int) {ρ : Type} (k : Ex → St → Option ρ) : ∀ (m : Nat) (x6 x7 : Int),
  loopH (B109v2 (C10 u) u) N109v2 m (s109v0 x0 x1 x2 x6 x3 x4 x5 x7) k = L109v2 u x0 x1 x2 x3 x4 x5 m x6 x7 (fun x8 => k (.exit 2) (s109v1 x0 x1 x2 x8 x3 x4 x5))
 | 0,_,_ => rfl
 | m + 1,x6,x7 => by
  rw [r109v2]
  simp only [L109v2,q109v2 u x0 x1 x2 x3 x4 x5 k m]
def B109v3 (C : Oracle) (u : Nat) : St → (Ex → St → Option ρ) → Option ρ := fun st k => evalC C u A17v7 st k
def N109v3 : St → Option St := fun s => s.norm (rl 1 4 (rl 6 57 [])) 0
def s109v2 (x0 : Nat) (x1 : FF) (x2 : Int) : St := ⟨(.x (.c (ro kV x0 x1)) :: (us 4 (vxi x2 :: (us 57 [])))),[]⟩
def s109v3 (x0 x1 x2 : Int) : St := ⟨(us 4 (vxb false :: (us 58 []))),[.box [(vci x0),(vci x1),(vci x2)]]⟩
def s109v4 : St := ⟨(us 63 []),[]⟩
def L109v3 {ρ : Type} (u : Nat) (x0 : Nat) (x1 : FF) : Nat → Int → (Int → Int → Int → Option ρ) → (Option ρ) → Option ρ
 | 0,_,_,_ => none
 | m + 1,x2,k0,k1 =>
  (bif (decide (x2 < (Int.ofNat x0))) then (bif (inb x2 x0) then (bif (inb (w64 (x2 - 1)) x0) then (ob (F108 100 (x1 x2.toNat 0).int (x1 x2.toNat 1).int (x1 x2.toNat 2).int (CV.int (x1 (Int.toNat (w64 (x2 - 1))) 0)) (CV.int (x1 (Int.toNat (w64 (x2 - 1))) 1)) (CV.int (x1 (Int.toNat (w64 (x2 - 1))) 2))) fun x3 => (L109v2 u x0 x1 x2 x3.1 x3.2.1 x3.2.2 u 0 0
  (fun x4 => (bif (x4 != 1) then (k0 x3.1 x3.2.1 x3.2.2) else (L109v3 u x0 x1 m (w64 (x2 + 1)) k0 k1))))) else none) else none) else k1)
theorem nl109v3 {ρ σ : Type} (u : Nat) (x0 : Nat) (x1 : FF) (g : ρ → Option σ) : ∀ (m : Nat) (x2 : Int) (k0 : Int → Int → Int → Option ρ) (k1 : Option ρ),ob (L109v3 u x0 x1 m x2 k0 k1) g = L109v3 u x0 x1 m x2 (fun x3 x4 x5 => ob (k0 x3 x4 x5) g) (ob k1 g)
 | 0,_,_,_ => rfl
 | m + 1,x2,k0,k1 => by
  simp only [L109v3,ob_bif,ob_ob,ob_none,nl109v3 u x0 x1 g m,nl109v2]
def s109v5 (x0 : Nat) (x1 : FF) (x2 : Int) (x3 : Int × Int × Int) : St := ⟨(.x (.c (ro kV x0 x1)) :: (us 4 (vxi x2 :: vxi 0 :: .x (.ptr 0 0) :: (us 28 (.x (.c (ro kV x0 x1)) :: vxi x2 :: .x (.c (.rp kV (x1 x2.toNat))) :: .agg [(vci (x1 x2.toNat 0).int),(vci (x1 x2.toNat 1).int),(vci (x1 x2.toNat 2).int)] :: .x (.c (ro kV x0 x1)) :: vxi x2 :: vxi (w64 (x2 - 1)) :: .x (.c (.rp kV (x1 (Int.toNat (w64 (x2 - 1)))))) :: .agg [(vci (CV.int (x1 (Int.toNat (w64 (x2 - 1))) 0))),(vci (CV.int (x1 (Int.toNat (w64 (x2 - 1))) 1))),(vci (CV.int (x1 (Int.toNat (w64 (x2 - 1))) 2)))] :: .agg [(vci x3.1),(vci x3.2.1),(vci x3.2.2)] :: .x (.ptr 0 0) :: vxi x3.1 :: .x (.ptr 0 1) :: vxi x3.2.1 :: .x (.ptr 0 2) :: vxi x3.2.2 :: .agg [(vci x3.1),(vci x3.2.1),(vci x3.2.2)] :: vxi 0 :: (us 9 [])))))),[.box [(vci x3.1),(vci x3.2.1),(vci x3.2.2)]]⟩
theorem r109v3 (m : Nat) (k : Ex → St → Option ρ) (x0 : Nat) (x1 : FF) (x2 : Int) :
  loopH (B109v3 (C10 u) u) N109v3 (m + 1) (s109v2 x0 x1 x2) k =
  (bif (decide (x2 < (Int.ofNat x0))) then (bif (inb x2 x0) then (bif (inb (w64 (x2 - 1)) x0) then (ob (F108 100 (x1 x2.toNat 0).int (x1 x2.toNat 1).int (x1 x2.toNat 2).int (CV.int (x1 (Int.toNat (w64 (x2 - 1))) 0)) (CV.int (x1 (Int.toNat (w64 (x2 - 1))) 1)) (CV.int (x1 (Int.toNat (w64 (x2 - 1))) 2))) fun x3 => (loopN (B109v2 (C10 u) u) N109v2 u (s109v5 x0 x1 x2 x3) (kBlk 2 (kSeq (C10 u) u (9 :: (rl 46 15 [])) A17v4 (kBlk 1 (kSeq (C10 u) u (4 :: 6 :: 7 :: 9 :: (rl 36 27 [])) A17v5 (kLoop (B109v3 (C10 u) u) N109v3 m k))))))) else none) else none) else (k (.exit 0) s109v4)) := by kernel_rfl
theorem t109v1 (k : Ex → St → Option ρ) (x0 : Nat) (x1 : FF) (x2 : Int) (x3 : Int × Int × Int) :
  loopN (B109v2 (C10 u) u) N109v2 u (s109v5 x0 x1 x2 x3) k =
  L109v2 u x0 x1 x2 x3.1 x3.2.1 x3.2.2 u 0 0 (fun x4 => k (.exit 2) (s109v1 x0 x1 x2 x4 x3.1 x3.2.1 x3.2.2)) :=
 (loopN_at (st' := (s109v0 x0 x1 x2 0 x3.1 x3.2.1 x3.2.2 0)) (by kernel_rfl)).trans (q109v2 u x0 x1 x2 x3.1 x3.2.1 x3.2.2 k u 0 0)
theorem g109v2 (m : Nat) (k : Ex → St → Option ρ) (x0 : Nat) (x1 : FF) (x2 x3 : Int) (x4 : Int × Int × Int) :
  (kBlk 2 (kSeq (C10 u) u (9 :: (rl 46 15 [])) A17v4 (kBlk 1 (kSeq (C10 u) u (4 :: 6 :: 7 :: 9 :: (rl 36 27 [])) A17v5 (kLoop (B109v3 (C10 u) u) N109v3 m k))))) (.exit 2) (s109v1 x0 x1 x2 x3 x4.1 x4.2.1 x4.2.2) =
  (bif (x3 != 1) then (k .ret (s109v3 x4.1 x4.2.1 x4.2.2)) else (loopH (B109v3 (C10 u) u) N109v3 m (s109v2 x0 x1 (w64 (x2 + 1))) k)) := by kernel_rfl
theorem q109v3 (u : Nat) (x0 : Nat) (x1 : FF) {ρ : Type} (k : Ex → St → Option ρ) : ∀ (m : Nat) (x2 : Int),
  loopH (B109v3 (C10 u) u) N109v3 m (s109v2 x0 x1 x2) k = L109v3 u x0 x1 m x2 (fun x3 x4 x5 => k .ret (s109v3 x3 x4 x5)) (k (.exit 0) s109v4)
 | 0,_ => rfl
 | m + 1,x2 => by
  rw [r109v3]
  simp only [L109v3,q109v3 u x0 x1 k m,t109v1,g109v2]
def D109 (x0 : Nat) (x1 : FF) (x2 : Int) (k : Bool → Option ρ) : Option ρ :=
 (bif ((decide ((Int.ofNat x0) < 2)) == false) then (bif ((decide ((Int.ofNat x0) > 32)) == false) then (ob (F104 100 x0 x1) fun x3 => (bif (x3 == false) then (bif ((decide (x2 < 1)) == false) then (bif (decide (x2 > 10000)) then (k false) else (L109v3 u x0 x1 u 1
  (fun x4 x5 x6 => (k false))
  (k true))) else (k false)) else (k false))) else (k false)) else (k false))
def F109 (x0 : Nat) (x1 : FF) (x2 : Int) : Option (Bool) := D109 u x0 x1 x2 some
theorem f109 (x0 : Nat) (x1 : FF) (x2 : Int) (k : (Bool) → Option ρ) : D109 u x0 x1 x2 k = ob (F109 u x0 x1 x2) k := by
 simp only [F109,D109,ob_bif,ob_ob,ob_none,ob_some,nl109v3]
def s109v6 (x0 : Nat) (x1 : FF) (x2 : Int) : St := ⟨(.x (.c (ro kV x0 x1)) :: vxi x2 :: uu :: uu :: .u :: vxi 1 :: uu :: uu :: uu :: uu :: (us 20 [uu,uu,uu,uu,uu,uu,uu,uu,uu,uu,uu,uu,uu,uu,uu,uu,uu,uu,uu,uu,uu,uu,uu,uu,uu,uu,uu,uu,uu,uu,uu,uu,uu])),[]⟩
theorem t109v3 (k : Ex → St → Option ρ) (x0 : Nat) (x1 : FF) (x2 : Int) :
  loopN (B109v3 (C10 u) u) N109v3 u (s109v6 x0 x1 x2) k =
  L109v3 u x0 x1 u 1 (fun x3 x4 x5 => k .ret (s109v3 x3 x4 x5)) (k (.exit 0) s109v4) :=
 (loopN_at (st' := (s109v2 x0 x1 1)) (by kernel_rfl)).trans (q109v3 u x0 x1 k u 1)
theorem g109v4 (x0 x1 x2 : Int) :
  (kBlk 0 (kSeq (C10 u) u (rl 4 4 (9 :: (rl 30 33 []))) A17v8 (finish A17))) .ret (s109v3 x0 x1 x2) =
  (some [.v (.b false)]) := by kernel_rfl
theorem g109v5 :
  (kBlk 0 (kSeq (C10 u) u (rl 4 4 (9 :: (rl 30 33 []))) A17v8 (finish A17))) (.exit 0) s109v4 =
  (some [.v (.b true)]) := by kernel_rfl
theorem e109 (x0 : Nat) (x1 : FF) (x2 : Int) : evalF (C10 u) u A17 [.v (ro kV x0 x1),.v (vi x2)] = ob (F109 u x0 x1 x2) fun t => some [.v (.b t)] := Eq.trans (b := (bif ((decide ((Int.ofNat x0) < 2)) == false) then (bif ((decide ((Int.ofNat x0) > 32)) == false) then (ob (F104 100 x0 x1) fun x3 => (bif (x3 == false) then (bif ((decide (x2 < 1)) == false) then (bif (decide (x2 > 10000)) then (some [.v (.b false)]) else (loopN (B109v3 (C10 u) u) N109v3 u (s109v6 x0 x1 x2) (kBlk 0 (kSeq (C10 u) u (rl 4 4 (9 :: (rl 30 33 []))) A17v8 (finish A17))))) else (some [.v (.b false)])) else (some [.v (.b false)]))) else (some [.v (.b false)])) else (some [.v (.b false)]))) (by kernel_rfl) (by
 rw [← f109]
 simp only [D109,t109v3,g109v4,g109v5])
def O109 : Ora where
 o := fun args {ρ} K =>
  wcL kV args fun y4 y5 l2 =>
  wcI .i64 l2 fun y9 l7 =>
  wn l7 <|
  (ob (F109 u y4 y5 y9) fun t => K [.v (.b t)])
 nat := fun args {ρ} K => by
  simp only [bind_wcI,bind_wcL,bind_wn,bind_ob,Option.bind_some]
theorem d109 : DO (O109 u) (C10 u) 17 A17 := by
 intro P hmix hC hF args res h
 obtain ⟨a1,y4,y5,l2,rfl,h3,z0⟩ := inv_wcL h
 obtain ⟨a6,y9,l7,rfl,h8,z1⟩ := inv_wcI z0
 obtain ⟨hn,z2⟩ := inv_wn z1
 cases hn
 exact Den.weaken (.cons h3 (.cons h8 .nil)) (evalF_sound hmix hC hF ((e109 u y4 y5 y9).trans z2))
def C11 : Oracle := (C10 u).add 17 (fun _ => true) (O109 100)
def A65v1 : AC := (.seq (.region 3 [mv 9 0,o1 2 (sg 9)] 0 none) []
 (.ret (0 :: 1 :: (rl 3 7 []))))
def A65 : AF := ⟨10,[.tmp 2],
 (.seq (.region 0 [o1 2 (sk 0)] 0 none) []
 (.seq (.seq (.region 1 [mv 3 0,o1 4 (bk .lss 3 3 0),mv 5 4,og 6 (.move (tm 0)) 5 false,og 7 (bk .geq 3 6 24) 5 false,o1 8 (pa 5 7)] 0 none) []
 (.cond (tm 8)
 (.seq (.region 2 [o1 2 (sk 0)] 0 none) []
  (.ret (0 :: 1 :: (rl 3 7 []))))
 .skip)) (rl 2 7 [])
 A65v1))⟩
def D110 (u : Nat) (x0 : Int) (k : Int → Option ρ) : Option ρ :=
 (bif ((decide (x0 < 0)) == false) then (bif (decide (x0 ≥ 24)) then (k 0) else (k x0)) else (k 0))
def F110 (x0 : Int) : Option (Int) := D110 u x0 some
theorem f110 (x0 : Int) (k : (Int) → Option ρ) : D110 u x0 k = ob (F110 u x0) k := by
 simp only [F110,D110,ob_bif,ob_ob,ob_none,ob_some]
theorem e110 (x0 : Int) : evalF (C11 u) u A65 [.v (vi x0)] = ob (F110 u x0) fun t => some [.v (vi t)] := Eq.trans (b := (bif ((decide (x0 < 0)) == false) then (bif (decide (x0 ≥ 24)) then (some [.v (vi 0)]) else (some [.v (vi x0)])) else (some [.v (vi 0)]))) (by kernel_rfl) (by
 rw [← f110]
 simp only [D110])
def O110 : Ora where
 o := fun args {ρ} K =>
  wcI .i64 args fun y4 l2 =>
  wn l2 <|
  (ob (F110 u y4) fun t => K [.v (vi t)])
 nat := fun args {ρ} K => by
  simp only [bind_wcI,bind_wn,bind_ob,Option.bind_some]
theorem d110 : DO (O110 u) (C11 u) 65 A65 := by
 intro P hmix hC hF args res h
 obtain ⟨a1,y4,l2,rfl,h3,z0⟩ := inv_wcI h
 obtain ⟨hn,z1⟩ := inv_wn z0
 cases hn
 exact Den.weaken (.cons h3 .nil) (evalF_sound hmix hC hF ((e110 u y4).trans z1))
def C12 : Oracle := (C11 u).add 65 (fun _ => true) (O110 100)
def A39 : AF := ⟨14,[.tmp 2],
 (.seq (.region 0 [o1 1 (bx 0 44 0),o1 2 (sb false)] 1 none) []
 (.seq (.region 1 [o1 3 (fa 44 1 0 0),o1 4 (ln 42 3 3),o1 5 (.call 41 [(tm 4),(ic 524288)] [42,3] .snap),mv 6 5,og 7 (fa 44 1 1 3) 6 true,og 8 (lo 3 7) 6 true,og 9 (fa 44 1 1 3) 6 true,og 10 (lo 3 9) 6 true,og 11 (cs 65 [10] [3]) 6 true,og 12 (bt .eql 3 8 11) 6 true,o1 13 (po 6 12),o1 2 (sg 13)] 0 (some [[],[0],[0,1],[0,1,2],(rl 0 4 []),(rl 0 5 []),(rl 0 4 []),(rl 0 4 [6]),(rl 0 4 [6,7]),(rl 0 9 []),(rl 0 10 []),(rl 0 11 [])])) []
 (.ret (0 :: 1 :: (rl 3 11 [])))))⟩
def D111 (u : Nat) (x0 x1 x2 x3 : Int) (k : Bool → Option ρ) : Option ρ :=
 (ob (F105 100 x0 x1 x2 524288) fun x4 => (bif (x4 == true) then (ob (F110 100 x3) fun x5 => (k (x3 == x5))) else (k false)))
def F111 (x0 x1 x2 x3 : Int) : Option (Bool) := D111 u x0 x1 x2 x3 some
theorem f111 (x0 x1 x2 x3 : Int) (k : (Bool) → Option ρ) : D111 u x0 x1 x2 x3 k = ob (F111 u x0 x1 x2 x3) k := by
 simp only [F111,D111,ob_bif,ob_ob,ob_none,ob_some]
theorem e111 (x0 x1 x2 x3 : Int) : evalF (C12 u) u A39 [.agg [(vi x0),(vi x1),(vi x2),(vi x3)]] = ob (F111 u x0 x1 x2 x3) fun t => some [.v (.b t)] := Eq.trans (b := (ob (F105 100 x0 x1 x2 524288) fun x4 => (bif (x4 == true) then (ob (F110 100 x3) fun x5 => (some [.v (.b (x3 == x5))])) else (some [.v (.b false)])))) (by kernel_rfl) (by
 rw [← f111]
 simp only [D111])
def O111 : Ora where
 o := fun args {ρ} K =>
  wc args fun a1 l2 =>
  wagg a1 fun l3 =>
  wdI .i64 l3 fun y7 l5 =>
  wdI .i64 l5 fun y11 l9 =>
  wdI .i64 l9 fun y15 l13 =>
  wdI .i64 l13 fun y19 l17 =>
  wn l17 <|
  wn l2 <|
  (ob (F111 u y7 y11 y15 y19) fun t => K [.v (.b t)])
 nat := fun args {ρ} K => by
  simp only [bind_wagg,bind_wc,bind_wdI,bind_wn,bind_ob,Option.bind_some]
theorem d111 : DO (O111 u) (C12 u) 39 A39 := by
 intro P hmix hC hF args res h
 obtain ⟨a1,l2,rfl,z0⟩ := inv_wc h
 obtain ⟨l3,rfl,z1⟩ := inv_wagg z0
 obtain ⟨a4,y7,l5,rfl,h6,z2⟩ := inv_wdI z1
 obtain ⟨a8,y11,l9,rfl,h10,z3⟩ := inv_wdI z2
 obtain ⟨a12,y15,l13,rfl,h14,z4⟩ := inv_wdI z3
 obtain ⟨a16,y19,l17,rfl,h18,z5⟩ := inv_wdI z4
 obtain ⟨hn,z6⟩ := inv_wn z5
 cases hn
 obtain ⟨hn,z7⟩ := inv_wn z6
 cases hn
 exact Den.weaken (.cons (WkA.agg (.cons h6 (.cons h10 (.cons h14 (.cons h18 .nil))))) .nil) (evalF_sound hmix hC hF ((e111 u y7 y11 y15 y19).trans z7))
def C13 : Oracle := (C12 u).add 39 (fun _ => true) (O111 100)
def A23 : AF := ⟨7,[.cell 2 40 (some 2)],
 (.seq (.region 0 [o1 1 (bx 0 46 0),o1 2 (.alloc 1 40 [vcn,vcn])] 2 none) []
 (.seq (.region 1 [o1 3 (fa 46 1 6 6),o1 4 (fa 40 3 0 0),o1 5 (lo 37 4),o1 6 (.build 40 [vcn,vcn] [(0,1),(1,1)] 0 [(0,(tm 5))]),o0 (.store 40 2 (tm 2) (tm 6))] 0 none) []
 (.ret (0 :: 1 :: (rl 3 4 [])))))⟩
def D112 (u : Nat) (x0 : Nat → CV) (k : (Nat × FF × Nat × FF) → Option ρ) : Option ρ :=
 (k ((x0 6).len,(x0 6).el,0,(fun _ _ => .any)))
def FT112 (x0 : Nat → CV) : Option (Nat × FF × Nat × FF) := D112 u x0 some
theorem f112 (x0 : Nat → CV) (k : (Nat × FF × Nat × FF) → Option ρ) : D112 u x0 k = ob (FT112 u x0) k := by
 simp only [FT112,D112,ob_bif,ob_ob,ob_none,ob_some]
theorem e112 (x0 : Nat → CV) : evalF (C13 u) u A23 [.agg (pj kR0 x0)] = ob (FT112 u x0) fun t => some [.agg [(ro kP t.1 t.2.1),(.ro true .nil 0 nilF)]] := Eq.trans (b := (some [.agg [(ro kP (x0 6).len (x0 6).el),(.ro true .nil 0 nilF)]])) (by kernel_rfl) (by
 rw [← f112]
 simp only [D112])
def F112 (x0 : Nat → CV) : Option (Nat × FF × Nat × FF) := ob (FT112 u x0) fun t => some (t.1,t.2.1,0,(fun _ _ => .any))
def O112 : Ora where
 o := fun args {ρ} K =>
  wc args fun a1 l2 =>
  wrow kR0 a1 fun y3 =>
  wn l2 <|
  (ob (F112 u y3) fun t => K [.agg [(ro kP t.1 t.2.1),(ro (.pr (.sl kP) .nil) t.2.2.1 t.2.2.2)]])
 nat := fun args {ρ} K => by
  simp only [bind_wc,bind_wn,bind_wrow,bind_ob,Option.bind_some]
theorem d112 (fuel : Nat) : DO (O112 fuel) (C13 fuel) 23 A23 := by
 intro P hmix hC hF args res h
 obtain ⟨a1,l2,rfl,z0⟩ := inv_wc h
 obtain ⟨y3,h4,z1⟩ := inv_wrow z0
 obtain ⟨hn,z2⟩ := inv_wn z1
 cases hn
 obtain ⟨u,hu,hr⟩ := ob_inv z2
 cases hr
 obtain ⟨t,ht,hv⟩ := ob_inv (show ob (FT112 fuel y3) _ = some u from hu)
 cases hv
 refine Den.results ?_ (Den.weaken (.cons h4 .nil) (evalF_sound hmix hC hF ((e112 fuel y3).trans (by rw [ht]; rfl))))
 exact (.cons (WkA.agg (.cons (Wk.refl _) (.cons (Wk.ro (by rfl)) .nil))) .nil)
def C14 : Oracle := (C13 u).add 23 (fun _ => true) (O112 100)
def A82 : AF := ⟨21,[.tmp 2],
 (.seq (.region 0 [o1 1 (bx 0 49 0),o1 2 (sb false)] 1 none) []
 (.seq (.region 1 [o1 3 (fa 49 1 0 0),o1 4 (lo 3 3),o1 5 (bk .lss 3 4 (-32768)),mv 6 5,og 7 (fa 49 1 0 0) 6 false,og 8 (lo 3 7) 6 false,og 9 (bk .gtr 3 8 32768) 6 false,o1 10 (pa 6 9),mv 11 10,og 12 (fa 49 1 1 1) 11 false,og 13 (lo 3 12) 11 false,og 14 (bk .lss 3 13 (-32768)) 11 false,o1 15 (pa 11 14),mv 16 15,og 17 (fa 49 1 1 1) 16 false,og 18 (lo 3 17) 16 false,og 19 (bk .gtr 3 18 32768) 16 false,o1 20 (pa 16 19),o1 2 (sg 20)] 0 none) []
 (.ret (0 :: 1 :: (rl 3 18 [])))))⟩
def D61 (u : Nat) (x0 x1 : Int) (k : Bool → Option ρ) : Option ρ :=
 (bif ((decide (x0 < (-32768))) == false) then (bif ((decide (x0 > 32768)) == false) then (bif ((decide (x1 < (-32768))) == false) then (k (decide (x1 > 32768))) else (k true)) else (k true)) else (k true))
def F61 (x0 x1 : Int) : Option (Bool) := D61 u x0 x1 some
theorem f61 (x0 x1 : Int) (k : (Bool) → Option ρ) : D61 u x0 x1 k = ob (F61 u x0 x1) k := by
 simp only [F61,D61,ob_bif,ob_ob,ob_none,ob_some]
theorem e61 (x0 x1 : Int) : evalF (C14 u) u A82 [.agg [(vi x0),(vi x1)]] = ob (F61 u x0 x1) fun t => some [.v (.b t)] := Eq.trans (b := (bif ((decide (x0 < (-32768))) == false) then (bif ((decide (x0 > 32768)) == false) then (bif ((decide (x1 < (-32768))) == false) then (some [.v (.b (decide (x1 > 32768)))]) else (some [.v (.b true)])) else (some [.v (.b true)])) else (some [.v (.b true)]))) (by kernel_rfl) (by
 rw [← f61]
 simp only [D61])
def O61 : Ora where
 o := fun args {ρ} K =>
  wc args fun a1 l2 =>
  wagg a1 fun l3 =>
  wdI .i64 l3 fun y7 l5 =>
  wdI .i64 l5 fun y11 l9 =>
  wn l9 <|
  wn l2 <|
  (ob (F61 u y7 y11) fun t => K [.v (.b t)])
 nat := fun args {ρ} K => by
  simp only [bind_wagg,bind_wc,bind_wdI,bind_wn,bind_ob,Option.bind_some]
theorem d61 : DO (O61 u) (C14 u) 82 A82 := by
 intro P hmix hC hF args res h
 obtain ⟨a1,l2,rfl,z0⟩ := inv_wc h
 obtain ⟨l3,rfl,z1⟩ := inv_wagg z0
 obtain ⟨a4,y7,l5,rfl,h6,z2⟩ := inv_wdI z1
 obtain ⟨a8,y11,l9,rfl,h10,z3⟩ := inv_wdI z2
 obtain ⟨hn,z4⟩ := inv_wn z3
 cases hn
 obtain ⟨hn,z5⟩ := inv_wn z4
 cases hn
 exact Den.weaken (.cons (WkA.agg (.cons h6 (.cons h10 .nil))) .nil) (evalF_sound hmix hC hF ((e61 u y7 y11).trans z5))
def C15 : Oracle := (C14 u).add 82 (fun _ => true) (O61 100)
def A93v1 : AC := (.region 6 [o1 18 (bk .add 3 8 1),mv 8 18] 0 none)
def A93v2 : AC := (.seq (.block 1
 (.seq (.region 3 [mv 10 8,o1 5 (sg 10)] 0 none) []
  (.seq (.region 4 [mv 11 1,mv 12 0,mv 13 5,o1 14 (.indexAddr 37 49 2 (tm 12) (tm 13)),o1 15 (ln 49 2 14),o1 16 (.callv (tm 11) [(tm 15)] [49] .snap)] 0 none) []
  (.cond (tm 16)
  (.seq (.region 5 [mv 17 5,o1 4 (sg 17)] 0 none) []
   (.ret (rl 0 4 (rl 5 14 []))))
  .skip)))) (4 :: 5 :: (rl 10 8 []))
 A93v1)
def A93v3 : AC := (.seq (.region 2 [o1 9 (bt .lss 3 8 7)] 0 none) []
 (.seq (.cond (tm 9)
 .skip
 (.exit 0 (rl 0 19 []))) []
 A93v2))
def A93v4 : AC := (.seq (.region 7 [o1 4 (sk (-1))] 0 none) []
 (.ret (rl 0 4 (rl 5 14 []))))
def A93 : AF := ⟨19,[.tmp 4],
 (.seq (.region 0 [o1 4 (sk 0)] 0 none) []
 (.seq (.seq (.region 1 [mv 6 0,o1 7 (.len 37 false (tm 6)),o1 8 (.move (ic 0))] 0 none) []
 (.block 0
 (.loop [] (rl 2 5 (rl 9 10 []))
  A93v3))) (rl 4 15 [])
 A93v4))⟩
def B73v1 (C : Oracle) (u : Nat) : St → (Ex → St → Option ρ) → Option ρ := fun st k => evalC C u A93v3 st k
def N73v1 : St → Option St := fun s => s.norm (rl 2 5 (rl 9 10 [])) 0
def s73v0 (x0 : Nat) (x1 : FF) (x2 x3 : Int) : St := ⟨(.x (.c (ro kP x0 x1)) :: .x (.c (.fn 82 0 (listF []))) :: (us 5 (vxi x2 :: vxi x3 :: (us 10 [])))),[]⟩
def s73v1 (x0 : Int) : St := ⟨(us 4 (vxi x0 :: (us 14 []))),[]⟩
def s73v2 : St := ⟨(us 19 []),[]⟩
def L73v1 {ρ : Type} (u : Nat) (x0 : Nat) (x1 : FF) (x2 : Int) : Nat → Int → (Int → Option ρ) → (Option ρ) → Option ρ
 | 0,_,_,_ => none
 | m + 1,x3,k0,k1 =>
  (bif (decide (x3 < x2)) then (bif (inb x3 x0) then (ob (F61 100 (x1 x3.toNat 0).int (x1 x3.toNat 1).int) fun x4 => (bif x4 then (k0 x3) else (L73v1 u x0 x1 x2 m (w64 (x3 + 1)) k0 k1))) else none) else k1)
theorem nl73v1 {ρ σ : Type} (u : Nat) (x0 : Nat) (x1 : FF) (x2 : Int) (g : ρ → Option σ) : ∀ (m : Nat) (x3 : Int) (k0 : Int → Option ρ) (k1 : Option ρ),ob (L73v1 u x0 x1 x2 m x3 k0 k1) g = L73v1 u x0 x1 x2 m x3 (fun x4 => ob (k0 x4) g) (ob k1 g)
 | 0,_,_,_ => rfl
 | m + 1,x3,k0,k1 => by
  simp only [L73v1,ob_bif,ob_ob,ob_none,nl73v1 u x0 x1 x2 g m]
theorem r73v1 (m : Nat) (k : Ex → St → Option ρ) (x0 : Nat) (x1 : FF) (x2 x3 : Int) :
  loopH (B73v1 (C15 u) u) N73v1 (m + 1) (s73v0 x0 x1 x2 x3) k =
  (bif (decide (x3 < x2)) then (bif (inb x3 x0) then (ob (F61 100 (x1 x3.toNat 0).int (x1 x3.toNat 1).int) fun x4 => (bif x4 then (k .ret (s73v1 x3)) else (loopH (B73v1 (C15 u) u) N73v1 m (s73v0 x0 x1 x2 (w64 (x3 + 1))) k))) else none) else (k (.exit 0) s73v2)) := by kernel_rfl
theorem q73v1 (u : Nat) (x0 : Nat) (x1 : FF) (x2 : Int) {ρ : Type} (k : Ex → St → Option ρ) : ∀ (m : Nat) (x3 : Int),
  loopH (B73v1 (C15 u) u) N73v1 m (s73v0 x0 x1 x2 x3) k = L73v1 u x0 x1 x2 m x3 (fun x4 => k .ret (s73v1 x4)) (k (.exit 0) s73v2)
 | 0,_ => rfl
 | m + 1,x3 => by
  rw [r73v1]
  simp only [L73v1,q73v1 u x0 x1 x2 k m]
def D73 (x0 : Nat) (x1 : FF) (k : Int → Option ρ) : Option ρ :=
 (L73v1 u x0 x1 (Int.ofNat x0) u 0
  (fun x2 => (k x2))
  (k (-1)))
def F73 (x0 : Nat) (x1 : FF) : Option (Int) := D73 u x0 x1 some
theorem f73 (x0 : Nat) (x1 : FF) (k : (Int) → Option ρ) : D73 u x0 x1 k = ob (F73 u x0 x1) k := by
 simp only [F73,D73,ob_bif,ob_ob,ob_none,ob_some,nl73v1]
def s73v3 (x0 : Nat) (x1 : FF) : St := ⟨[.x (.c (ro kP x0 x1)),.x (.c (.fn 82 0 (listF []))),uu,uu,vxi 0,uu,.x (.c (ro kP x0 x1)),vxi (Int.ofNat x0),vxi 0,uu,uu,uu,uu,uu,uu,uu,uu,uu,uu],[]⟩
theorem t73v1 (k : Ex → St → Option ρ) (x0 : Nat) (x1 : FF) :
  loopN (B73v1 (C15 u) u) N73v1 u (s73v3 x0 x1) k =
  L73v1 u x0 x1 (Int.ofNat x0) u 0 (fun x2 => k .ret (s73v1 x2)) (k (.exit 0) s73v2) :=
 (loopN_at (st' := (s73v0 x0 x1 (Int.ofNat x0) 0)) (by kernel_rfl)).trans (q73v1 u x0 x1 (Int.ofNat x0) k u 0)
theorem g73v2 (x0 : Int) :
  (kBlk 0 (kSeq (C15 u) u (rl 4 15 []) A93v4 (finish A93))) .ret (s73v1 x0) =
  (some [.v (vi x0)]) := by kernel_rfl
theorem g73v3 :
  (kBlk 0 (kSeq (C15 u) u (rl 4 15 []) A93v4 (finish A93))) (.exit 0) s73v2 =
  (some [.v (vi (-1))]) := by kernel_rfl
theorem e73 (x0 : Nat) (x1 : FF) : evalF (C15 u) u A93 [.v (ro kP x0 x1),.v (.fn 82 0 (listF []))] = ob (F73 u x0 x1) fun t => some [.v (vi t)] := Eq.trans (b := (loopN (B73v1 (C15 u) u) N73v1 u (s73v3 x0 x1) (kBlk 0 (kSeq (C15 u) u (rl 4 15 []) A93v4 (finish A93))))) (by kernel_rfl) (by
 rw [← f73]
 simp only [D73,t73v1,g73v2,g73v3])
def O73 : Ora where
 o := fun args {ρ} K =>
  wcL kP args fun y4 y5 l2 =>
  wc l2 fun a6 l7 =>
  wv a6 fun c8 =>
  wFn 82 0 c8 fun y9 =>
  wn l7 <|
  (ob (F73 u y4 y5) fun t => K [.v (vi t)])
 nat := fun args {ρ} K => by
  simp only [bind_wFn,bind_wc,bind_wcL,bind_wn,bind_wv,bind_ob,Option.bind_some]
theorem d73 : DO (O73 u) (C15 u) 93 A93 := by
 intro P hmix hC hF args res h
 obtain ⟨a1,y4,y5,l2,rfl,h3,z0⟩ := inv_wcL h
 obtain ⟨a6,l7,rfl,z1⟩ := inv_wc z0
 obtain ⟨c8,rfl,z2⟩ := inv_wv z1
 obtain ⟨y9,h10,z3⟩ := inv_wFn z2
 obtain ⟨hn,z4⟩ := inv_wn z3
 cases hn
 exact Den.weaken (.cons h3 (.cons (WkA.v (wk_fn0 h10)) .nil)) (evalF_sound hmix hC hF ((e73 u y4 y5).trans z4))
def C16 : Oracle := (C15 u).add 93 (fun l => isFn 82 l 1) (O73 100)
def A81 : AF := ⟨9,[.tmp 4],
 (.seq (.region 0 [o1 4 (sb false)] 0 none) []
 (.seq (.region 1 [mv 5 0,mv 6 1,o1 7 (cs 93 [5,6] [37,93]),o1 8 (bk .geq 3 7 0),o1 4 (sg 8)] 0 none) []
 (.ret (rl 0 4 (rl 5 4 [])))))⟩
def D50 (u : Nat) (x0 : Nat) (x1 : FF) (k : Bool → Option ρ) : Option ρ :=
 (ob (F73 100 x0 x1) fun x2 => (k (decide (x2 ≥ 0))))
def F50 (x0 : Nat) (x1 : FF) : Option (Bool) := D50 u x0 x1 some
theorem f50 (x0 : Nat) (x1 : FF) (k : (Bool) → Option ρ) : D50 u x0 x1 k = ob (F50 u x0 x1) k := by
 simp only [F50,D50,ob_bif,ob_ob,ob_none,ob_some]
theorem e50 (x0 : Nat) (x1 : FF) : evalF (C16 u) u A81 [.v (ro kP x0 x1),.v (.fn 82 0 (listF []))] = ob (F50 u x0 x1) fun t => some [.v (.b t)] := Eq.trans (b := (ob (F73 100 x0 x1) fun x2 => (some [.v (.b (decide (x2 ≥ 0)))]))) (by kernel_rfl) (by
 rw [← f50]
 simp only [D50])
def O50 : Ora where
 o := fun args {ρ} K =>
  wcL kP args fun y4 y5 l2 =>
  wc l2 fun a6 l7 =>
  wv a6 fun c8 =>
  wFn 82 0 c8 fun y9 =>
  wn l7 <|
  (ob (F50 u y4 y5) fun t => K [.v (.b t)])
 nat := fun args {ρ} K => by
  simp only [bind_wFn,bind_wc,bind_wcL,bind_wn,bind_wv,bind_ob,Option.bind_some]
theorem d50 : DO (O50 u) (C16 u) 81 A81 := by
 intro P hmix hC hF args res h
 obtain ⟨a1,y4,y5,l2,rfl,h3,z0⟩ := inv_wcL h
 obtain ⟨a6,l7,rfl,z1⟩ := inv_wc z0
 obtain ⟨c8,rfl,z2⟩ := inv_wv z1
 obtain ⟨y9,h10,z3⟩ := inv_wFn z2
 obtain ⟨hn,z4⟩ := inv_wn z3
 cases hn
 exact Den.weaken (.cons h3 (.cons (WkA.v (wk_fn0 h10)) .nil)) (evalF_sound hmix hC hF ((e50 u y4 y5).trans z4))
def C17 : Oracle := (C16 u).add 81 (fun l => isFn 82 l 1) (O50 100)
def A89 : AF := ⟨30,[.tmp 6],
 (.seq (.region 0 [o1 3 (bx 0 49 0),o1 4 (bx 1 49 1),o1 5 (bx 2 49 2),o1 6 (sk 0)] 3 none) []
 (.seq (.region 1 [o1 7 (fa 49 4 0 0),o1 8 (lo 3 7),o1 9 (fa 49 3 0 0),o1 10 (lo 3 9),o1 11 (bt .sub 3 8 10),o1 12 (fa 49 5 1 1),o1 13 (lo 3 12),o1 14 (fa 49 3 1 1),o1 15 (lo 3 14),o1 16 (bt .sub 3 13 15),o1 17 (bt .mul 3 11 16),o1 18 (fa 49 4 1 1),o1 19 (lo 3 18),o1 20 (fa 49 3 1 1),o1 21 (lo 3 20),o1 22 (bt .sub 3 19 21),o1 23 (fa 49 5 0 0),o1 24 (lo 3 23),o1 25 (fa 49 3 0 0),o1 26 (lo 3 25),o1 27 (bt .sub 3 24 26),o1 28 (bt .mul 3 22 27),o1 29 (bt .sub 3 17 28),o1 6 (sg 29)] 0 none) []
 (.ret (rl 0 6 (rl 7 23 [])))))⟩
def D79 (u : Nat) (x0 x1 x2 x3 x4 x5 : Int) (k : Int → Option ρ) : Option ρ :=
 (k (w64 ((w64 ((w64 (x2 - x0)) * (w64 (x5 - x1)))) - (w64 ((w64 (x3 - x1)) * (w64 (x4 - x0)))))))
def F79 (x0 x1 x2 x3 x4 x5 : Int) : Option (Int) := D79 u x0 x1 x2 x3 x4 x5 some
theorem f79 (x0 x1 x2 x3 x4 x5 : Int) (k : (Int) → Option ρ) : D79 u x0 x1 x2 x3 x4 x5 k = ob (F79 u x0 x1 x2 x3 x4 x5) k := by
 simp only [F79,D79,ob_bif,ob_ob,ob_none,ob_some]
theorem e79 (x0 x1 x2 x3 x4 x5 : Int) : evalF (C17 u) u A89 [.agg [(vi x0),(vi x1)],.agg [(vi x2),(vi x3)],.agg [(vi x4),(vi x5)]] = ob (F79 u x0 x1 x2 x3 x4 x5) fun t => some [.v (vi t)] := Eq.trans (b := (some [.v (vi (w64 ((w64 ((w64 (x2 - x0)) * (w64 (x5 - x1)))) - (w64 ((w64 (x3 - x1)) * (w64 (x4 - x0)))))))])) (by kernel_rfl) (by
 rw [← f79]
 simp only [D79])
def O79 : Ora where
 o := fun args {ρ} K =>
  wc args fun a1 l2 =>
  wagg a1 fun l3 =>
  wdI .i64 l3 fun y7 l5 =>
  wdI .i64 l5 fun y11 l9 =>
  wn l9 <|
  wc l2 fun a12 l13 =>
  wagg a12 fun l14 =>
  wdI .i64 l14 fun y18 l16 =>
  wdI .i64 l16 fun y22 l20 =>
  wn l20 <|
  wc l13 fun a23 l24 =>
  wagg a23 fun l25 =>
  wdI .i64 l25 fun y29 l27 =>
  wdI .i64 l27 fun y33 l31 =>
  wn l31 <|
  wn l24 <|
  (ob (F79 u y7 y11 y18 y22 y29 y33) fun t => K [.v (vi t)])
 nat := fun args {ρ} K => by
  simp only [bind_wagg,bind_wc,bind_wdI,bind_wn,bind_ob,Option.bind_some]
theorem d79 : DO (O79 u) (C17 u) 89 A89 := by
 intro P hmix hC hF args res h
 obtain ⟨a1,l2,rfl,z0⟩ := inv_wc h
 obtain ⟨l3,rfl,z1⟩ := inv_wagg z0
 obtain ⟨a4,y7,l5,rfl,h6,z2⟩ := inv_wdI z1
 obtain ⟨a8,y11,l9,rfl,h10,z3⟩ := inv_wdI z2
 obtain ⟨hn,z4⟩ := inv_wn z3
 cases hn
 obtain ⟨a12,l13,rfl,z5⟩ := inv_wc z4
 obtain ⟨l14,rfl,z6⟩ := inv_wagg z5
 obtain ⟨a15,y18,l16,rfl,h17,z7⟩ := inv_wdI z6
 obtain ⟨a19,y22,l20,rfl,h21,z8⟩ := inv_wdI z7
 obtain ⟨hn,z9⟩ := inv_wn z8
 cases hn
 obtain ⟨a23,l24,rfl,z10⟩ := inv_wc z9
 obtain ⟨l25,rfl,z11⟩ := inv_wagg z10
 obtain ⟨a26,y29,l27,rfl,h28,z12⟩ := inv_wdI z11
 obtain ⟨a30,y33,l31,rfl,h32,z13⟩ := inv_wdI z12
 obtain ⟨hn,z14⟩ := inv_wn z13
 cases hn
 obtain ⟨hn,z15⟩ := inv_wn z14
 cases hn
 exact Den.weaken (.cons (WkA.agg (.cons h6 (.cons h10 .nil))) (.cons (WkA.agg (.cons h17 (.cons h21 .nil))) (.cons (WkA.agg (.cons h28 (.cons h32 .nil))) .nil))) (evalF_sound hmix hC hF ((e79 u y7 y11 y18 y22 y29 y33).trans z15))
def C18 : Oracle := (C17 u).add 89 (fun _ => true) (O79 100)
def A98 : AF := ⟨45,[.tmp 6],
 (.seq (.region 0 [o1 3 (bx 0 49 0),o1 4 (bx 1 49 1),o1 5 (bx 2 49 2),o1 6 (sb false)] 3 none) []
 (.seq (.region 1 [o1 7 (fa 49 3 0 0),o1 8 (lo 3 7),o1 9 (fa 49 4 0 0),o1 10 (lo 3 9),o1 11 (.mm false [(tm 8),(tm 10)] [3,3]),o1 12 (fa 49 5 0 0),o1 13 (lo 3 12),o1 14 (bt .leq 3 11 13),mv 15 14,og 16 (fa 49 5 0 0) 15 true,og 17 (lo 3 16) 15 true,og 18 (fa 49 3 0 0) 15 true,og 19 (lo 3 18) 15 true,og 20 (fa 49 4 0 0) 15 true,og 21 (lo 3 20) 15 true,og 22 (.mm true [(tm 19),(tm 21)] [3,3]) 15 true,og 23 (bt .leq 3 17 22) 15 true,o1 24 (po 15 23),mv 25 24,og 26 (fa 49 3 1 1) 25 true,og 27 (lo 3 26) 25 true,og 28 (fa 49 4 1 1) 25 true,og 29 (lo 3 28) 25 true,og 30 (.mm false [(tm 27),(tm 29)] [3,3]) 25 true,og 31 (fa 49 5 1 1) 25 true,og 32 (lo 3 31) 25 true,og 33 (bt .leq 3 30 32) 25 true,o1 34 (po 25 33),mv 35 34,og 36 (fa 49 5 1 1) 35 true,og 37 (lo 3 36) 35 true,og 38 (fa 49 3 1 1) 35 true,og 39 (lo 3 38) 35 true,og 40 (fa 49 4 1 1) 35 true,og 41 (lo 3 40) 35 true,og 42 (.mm true [(tm 39),(tm 41)] [3,3]) 35 true,og 43 (bt .leq 3 37 42) 35 true,o1 44 (po 35 43),o1 6 (sg 44)] 0 none) []
 (.ret (rl 0 6 (rl 7 38 [])))))⟩
def D87 (u : Nat) (x0 x1 x2 x3 x4 x5 : Int) (k : Bool → Option ρ) : Option ρ :=
 (bif ((decide ((if x2 < x0 then x2 else x0) ≤ x4)) == true) then (bif ((decide (x4 ≤ (if x2 > x0 then x2 else x0))) == true) then (bif ((decide ((if x3 < x1 then x3 else x1) ≤ x5)) == true) then (k (decide (x5 ≤ (if x3 > x1 then x3 else x1)))) else (k false)) else (k false)) else (k false))
def F87 (x0 x1 x2 x3 x4 x5 : Int) : Option (Bool) := D87 u x0 x1 x2 x3 x4 x5 some
theorem f87 (x0 x1 x2 x3 x4 x5 : Int) (k : (Bool) → Option ρ) : D87 u x0 x1 x2 x3 x4 x5 k = ob (F87 u x0 x1 x2 x3 x4 x5) k := by
 simp only [F87,D87,ob_bif,ob_ob,ob_none,ob_some]
theorem e87 (x0 x1 x2 x3 x4 x5 : Int) : evalF (C18 u) u A98 [.agg [(vi x0),(vi x1)],.agg [(vi x2),(vi x3)],.agg [(vi x4),(vi x5)]] = ob (F87 u x0 x1 x2 x3 x4 x5) fun t => some [.v (.b t)] := Eq.trans (b := (bif ((decide ((if x2 < x0 then x2 else x0) ≤ x4)) == true) then (bif ((decide (x4 ≤ (if x2 > x0 then x2 else x0))) == true) then (bif ((decide ((if x3 < x1 then x3 else x1) ≤ x5)) == true) then (some [.v (.b (decide (x5 ≤ (if x3 > x1 then x3 else x1))))]) else (some [.v (.b false)])) else (some [.v (.b false)])) else (some [.v (.b false)]))) (by kernel_rfl) (by
 rw [← f87]
 simp only [D87])
def O87 : Ora where
 o := fun args {ρ} K =>
  wc args fun a1 l2 =>
  wagg a1 fun l3 =>
  wdI .i64 l3 fun y7 l5 =>
  wdI .i64 l5 fun y11 l9 =>
  wn l9 <|
  wc l2 fun a12 l13 =>
  wagg a12 fun l14 =>
  wdI .i64 l14 fun y18 l16 =>
  wdI .i64 l16 fun y22 l20 =>
  wn l20 <|
  wc l13 fun a23 l24 =>
  wagg a23 fun l25 =>
  wdI .i64 l25 fun y29 l27 =>
  wdI .i64 l27 fun y33 l31 =>
  wn l31 <|
  wn l24 <|
  (ob (F87 u y7 y11 y18 y22 y29 y33) fun t => K [.v (.b t)])
 nat := fun args {ρ} K => by
  simp only [bind_wagg,bind_wc,bind_wdI,bind_wn,bind_ob,Option.bind_some]
theorem d87 : DO (O87 u) (C18 u) 98 A98 := by
 intro P hmix hC hF args res h
 obtain ⟨a1,l2,rfl,z0⟩ := inv_wc h
 obtain ⟨l3,rfl,z1⟩ := inv_wagg z0
 obtain ⟨a4,y7,l5,rfl,h6,z2⟩ := inv_wdI z1
 obtain ⟨a8,y11,l9,rfl,h10,z3⟩ := inv_wdI z2
 obtain ⟨hn,z4⟩ := inv_wn z3
 cases hn
 obtain ⟨a12,l13,rfl,z5⟩ := inv_wc z4
 obtain ⟨l14,rfl,z6⟩ := inv_wagg z5
 obtain ⟨a15,y18,l16,rfl,h17,z7⟩ := inv_wdI z6
 obtain ⟨a19,y22,l20,rfl,h21,z8⟩ := inv_wdI z7
 obtain ⟨hn,z9⟩ := inv_wn z8
 cases hn
 obtain ⟨a23,l24,rfl,z10⟩ := inv_wc z9
 obtain ⟨l25,rfl,z11⟩ := inv_wagg z10
 obtain ⟨a26,y29,l27,rfl,h28,z12⟩ := inv_wdI z11
 obtain ⟨a30,y33,l31,rfl,h32,z13⟩ := inv_wdI z12
 obtain ⟨hn,z14⟩ := inv_wn z13
 cases hn
 obtain ⟨hn,z15⟩ := inv_wn z14
 cases hn
 exact Den.weaken (.cons (WkA.agg (.cons h6 (.cons h10 .nil))) (.cons (WkA.agg (.cons h17 (.cons h21 .nil))) (.cons (WkA.agg (.cons h28 (.cons h32 .nil))) .nil))) (evalF_sound hmix hC hF ((e87 u y7 y11 y18 y22 y29 y33).trans z15))
def C19 : Oracle := (C18 u).add 98 (fun _ => true) (O87 100)
def A88 : AF := ⟨18,[.tmp 6],
 (.seq (.region 0 [o1 3 (bx 0 49 0),o1 4 (bx 1 49 1),o1 5 (bx 2 49 2),o1 6 (sb false)] 3 none) []
 (.seq (.region 1 [o1 7 (ln 49 2 3),o1 8 (ln 49 2 4),o1 9 (ln 49 2 5),o1 10 (cs 89 [7,8,9] [49,49,49]),o1 11 (bk .eql 3 10 0),mv 12 11,og 13 (ln 49 2 3) 12 true,og 14 (ln 49 2 4) 12 true,og 15 (ln 49 2 5) 12 true,og 16 (cs 98 [13,14,15] [49,49,49]) 12 true,o1 17 (po 12 16),o1 6 (sg 17)] 0 none) []
 (.ret (rl 0 6 (rl 7 11 [])))))⟩
def D81 (u : Nat) (x0 x1 x2 x3 x4 x5 : Int) (k : Bool → Option ρ) : Option ρ :=
 (ob (F79 100 x0 x1 x2 x3 x4 x5) fun x6 => (bif ((x6 == 0) == true) then (ob (F87 100 x0 x1 x2 x3 x4 x5) fun x7 => (k x7)) else (k false)))
def F81 (x0 x1 x2 x3 x4 x5 : Int) : Option (Bool) := D81 u x0 x1 x2 x3 x4 x5 some
theorem f81 (x0 x1 x2 x3 x4 x5 : Int) (k : (Bool) → Option ρ) : D81 u x0 x1 x2 x3 x4 x5 k = ob (F81 u x0 x1 x2 x3 x4 x5) k := by
 simp only [F81,D81,ob_bif,ob_ob,ob_none,ob_some]
theorem e81 (x0 x1 x2 x3 x4 x5 : Int) : evalF (C19 u) u A88 [.agg [(vi x0),(vi x1)],.agg [(vi x2),(vi x3)],.agg [(vi x4),(vi x5)]] = ob (F81 u x0 x1 x2 x3 x4 x5) fun t => some [.v (.b t)] := Eq.trans (b := (ob (F79 100 x0 x1 x2 x3 x4 x5) fun x6 => (bif ((x6 == 0) == true) then (ob (F87 100 x0 x1 x2 x3 x4 x5) fun x7 => (some [.v (.b x7)])) else (some [.v (.b false)])))) (by kernel_rfl) (by
 rw [← f81]
 simp only [D81])
def O81 : Ora where
 o := fun args {ρ} K =>
  wc args fun a1 l2 =>
  wagg a1 fun l3 =>
  wdI .i64 l3 fun y7 l5 =>
  wdI .i64 l5 fun y11 l9 =>
  wn l9 <|
  wc l2 fun a12 l13 =>
  wagg a12 fun l14 =>
  wdI .i64 l14 fun y18 l16 =>
  wdI .i64 l16 fun y22 l20 =>
  wn l20 <|
  wc l13 fun a23 l24 =>
  wagg a23 fun l25 =>
  wdI .i64 l25 fun y29 l27 =>
  wdI .i64 l27 fun y33 l31 =>
  wn l31 <|
  wn l24 <|
  (ob (F81 u y7 y11 y18 y22 y29 y33) fun t => K [.v (.b t)])
 nat := fun args {ρ} K => by
  simp only [bind_wagg,bind_wc,bind_wdI,bind_wn,bind_ob,Option.bind_some]
theorem d81 : DO (O81 u) (C19 u) 88 A88 := by
 intro P hmix hC hF args res h
 obtain ⟨a1,l2,rfl,z0⟩ := inv_wc h
 obtain ⟨l3,rfl,z1⟩ := inv_wagg z0
 obtain ⟨a4,y7,l5,rfl,h6,z2⟩ := inv_wdI z1
 obtain ⟨a8,y11,l9,rfl,h10,z3⟩ := inv_wdI z2
 obtain ⟨hn,z4⟩ := inv_wn z3
 cases hn
 obtain ⟨a12,l13,rfl,z5⟩ := inv_wc z4
 obtain ⟨l14,rfl,z6⟩ := inv_wagg z5
 obtain ⟨a15,y18,l16,rfl,h17,z7⟩ := inv_wdI z6
 obtain ⟨a19,y22,l20,rfl,h21,z8⟩ := inv_wdI z7
 obtain ⟨hn,z9⟩ := inv_wn z8
 cases hn
 obtain ⟨a23,l24,rfl,z10⟩ := inv_wc z9
 obtain ⟨l25,rfl,z11⟩ := inv_wagg z10
 obtain ⟨a26,y29,l27,rfl,h28,z12⟩ := inv_wdI z11
 obtain ⟨a30,y33,l31,rfl,h32,z13⟩ := inv_wdI z12
 obtain ⟨hn,z14⟩ := inv_wn z13
 cases hn
 obtain ⟨hn,z15⟩ := inv_wn z14
 cases hn
 exact Den.weaken (.cons (WkA.agg (.cons h6 (.cons h10 .nil))) (.cons (WkA.agg (.cons h17 (.cons h21 .nil))) (.cons (WkA.agg (.cons h28 (.cons h32 .nil))) .nil))) (evalF_sound hmix hC hF ((e81 u y7 y11 y18 y22 y29 y33).trans z15))
def C20 : Oracle := (C19 u).add 88 (fun _ => true) (O81 100)
def A105 : AF := ⟨6,[.tmp 2],
 (.seq (.region 0 [o1 2 (sb false)] 0 none) []
 (.seq (.region 1 [mv 3 0,mv 4 0,o1 5 (bt .neq 3 3 4),o1 2 (sg 5)] 0 none) []
 (.ret [0,1,3,4,5])))⟩
def D90 (u : Nat) (x0 : Int) (k : Bool → Option ρ) : Option ρ :=
 (k (x0 != x0))
def F90 (x0 : Int) : Option (Bool) := D90 u x0 some
theorem f90 (x0 : Int) (k : (Bool) → Option ρ) : D90 u x0 k = ob (F90 u x0) k := by
 simp only [F90,D90,ob_bif,ob_ob,ob_none,ob_some]
theorem e90 (x0 : Int) : evalF (C20 u) u A105 [.v (vi x0)] = ob (F90 u x0) fun t => some [.v (.b t)] := Eq.trans (b := (some [.v (.b (x0 != x0))])) (by kernel_rfl) (by
 rw [← f90]
 simp only [D90])
def O90 : Ora where
 o := fun args {ρ} K =>
  wcI .i64 args fun y4 l2 =>
  wn l2 <|
  (ob (F90 u y4) fun t => K [.v (.b t)])
 nat := fun args {ρ} K => by
  simp only [bind_wcI,bind_wn,bind_ob,Option.bind_some]
theorem d90 : DO (O90 u) (C20 u) 105 A105 := by
 intro P hmix hC hF args res h
 obtain ⟨a1,y4,l2,rfl,h3,z0⟩ := inv_wcI h
 obtain ⟨hn,z1⟩ := inv_wn z0
 cases hn
 exact Den.weaken (.cons h3 .nil) (evalF_sound hmix hC hF ((e90 u y4).trans z1))
def C21 : Oracle := (C20 u).add 105 (fun _ => true) (O90 100)
def A104v1 : AC := (.seq (.region 6 [o1 4 (sk (-1))] 0 none) []
 (.ret (rl 0 4 (rl 5 15 []))))
def A104v2 : AC := (.seq (.region 13 [o1 4 (sk 0)] 0 none) []
 (.ret (rl 0 4 (rl 5 15 []))))
def A104v3 : AC := (.seq (.seq (.region 11 [mv 17 0,mv 18 1,o1 19 (bt .gtr 3 17 18)] 0 none) []
 (.cond (tm 19)
 (.seq (.region 12 [o1 4 (sk 1)] 0 none) []
  (.ret (rl 0 4 (rl 5 15 []))))
 .skip)) [4,17,18,19]
 A104v2)
def A104v4 : AC := (.seq (.seq (.region 9 [mv 14 0,mv 15 1,o1 16 (bt .lss 3 14 15)] 0 none) []
 (.cond (tm 16)
 (.seq (.region 10 [o1 4 (sk (-1))] 0 none) []
  (.ret (rl 0 4 (rl 5 15 []))))
 .skip)) [4,14,15,16]
 A104v3)
def A104v5 : AC := (.seq (.seq (.region 7 [mv 13 6] 0 none) []
 (.cond (tm 13)
 (.seq (.region 8 [o1 4 (sk 1)] 0 none) []
  (.ret (rl 0 4 (rl 5 15 []))))
 .skip)) [4,13]
 A104v4)
def A104 : AF := ⟨20,[.tmp 4],
 (.seq (.region 0 [o1 4 (sk 0)] 0 none) []
 (.seq (.region 1 [mv 7 0,o1 8 (cs 105 [7] [3]),o1 5 (sg 8)] 0 none) []
 (.seq (.region 2 [mv 9 1,o1 10 (cs 105 [9] [3]),o1 6 (sg 10)] 0 none) []
 (.seq (.seq (.region 3 [mv 11 5] 0 none) []
 (.cond (tm 11)
 (.seq (.seq (.region 4 [mv 12 6] 0 none) []
  (.cond (tm 12)
  (.seq (.region 5 [o1 4 (sk 0)] 0 none) []
   (.ret (rl 0 4 (rl 5 15 []))))
  .skip)) [4,12]
  A104v1)
 .skip)) [4,11,12]
 A104v5))))⟩
def D89 (u : Nat) (x0 x1 : Int) (k : Int → Option ρ) : Option ρ :=
 (ob (F90 100 x0) fun x2 => (ob (F90 100 x1) fun x3 => (bif x2 then (bif x3 then (k 0) else (k (-1))) else (bif x3 then (k 1) else (bif (decide (x0 < x1)) then (k (-1)) else (bif (decide (x0 > x1)) then (k 1) else (k 0)))))))
def F89 (x0 x1 : Int) : Option (Int) := D89 u x0 x1 some
theorem f89 (x0 x1 : Int) (k : (Int) → Option ρ) : D89 u x0 x1 k = ob (F89 u x0 x1) k := by
 simp only [F89,D89,ob_bif,ob_ob,ob_none,ob_some]
theorem e89 (x0 x1 : Int) : evalF (C21 u) u A104 [.v (vi x0),.v (vi x1)] = ob (F89 u x0 x1) fun t => some [.v (vi t)] := Eq.trans (b := (ob (F90 100 x0) fun x2 => (ob (F90 100 x1) fun x3 => (bif x2 then (bif x3 then (some [.v (vi 0)]) else (some [.v (vi (-1))])) else (bif x3 then (some [.v (vi 1)]) else (bif (decide (x0 < x1)) then (some [.v (vi (-1))]) else (bif (decide (x0 > x1)) then (some [.v (vi 1)]) else (some [.v (vi 0)])))))))) (by kernel_rfl) (by
 rw [← f89]
 simp only [D89])
def O89 : Ora where
 o := fun args {ρ} K =>
  wcI .i64 args fun y4 l2 =>
  wcI .i64 l2 fun y8 l6 =>
  wn l6 <|
  (ob (F89 u y4 y8) fun t => K [.v (vi t)])
 nat := fun args {ρ} K => by
  simp only [bind_wcI,bind_wn,bind_ob,Option.bind_some]
theorem d89 : DO (O89 u) (C21 u) 104 A104 := by
 intro P hmix hC hF args res h
 obtain ⟨a1,y4,l2,rfl,h3,z0⟩ := inv_wcI h
 obtain ⟨a5,y8,l6,rfl,h7,z1⟩ := inv_wcI z0
 obtain ⟨hn,z2⟩ := inv_wn z1
 cases hn
 exact Den.weaken (.cons h3 (.cons h7 .nil)) (evalF_sound hmix hC hF ((e89 u y4 y8).trans z2))
def C22 : Oracle := (C21 u).add 104 (fun _ => true) (O89 100)
def A102 : AF := ⟨5,[.tmp 2],
 (.seq (.region 0 [o1 2 (sk 0)] 0 none) []
 (.seq (.region 1 [mv 3 0,o1 4 (.call 104 [(tm 3),(ic 0)] [3,3] .snap),o1 2 (sg 4)] 0 none) []
 (.ret [0,1,3,4])))⟩
def D86 (u : Nat) (x0 : Int) (k : Int → Option ρ) : Option ρ :=
 (ob (F89 100 x0 0) fun x1 => (k x1))
def F86 (x0 : Int) : Option (Int) := D86 u x0 some
theorem f86 (x0 : Int) (k : (Int) → Option ρ) : D86 u x0 k = ob (F86 u x0) k := by
 simp only [F86,D86,ob_bif,ob_ob,ob_none,ob_some]
theorem e86 (x0 : Int) : evalF (C22 u) u A102 [.v (vi x0)] = ob (F86 u x0) fun t => some [.v (vi t)] := Eq.trans (b := (ob (F89 100 x0 0) fun x1 => (some [.v (vi x1)]))) (by kernel_rfl) (by
 rw [← f86]
 simp only [D86])
def O86 : Ora where
 o := fun args {ρ} K =>
  wcI .i64 args fun y4 l2 =>
  wn l2 <|
  (ob (F86 u y4) fun t => K [.v (vi t)])
 nat := fun args {ρ} K => by
  simp only [bind_wcI,bind_wn,bind_ob,Option.bind_some]
theorem d86 : DO (O86 u) (C22 u) 102 A102 := by
 intro P hmix hC hF args res h
 obtain ⟨a1,y4,l2,rfl,h3,z0⟩ := inv_wcI h
 obtain ⟨hn,z1⟩ := inv_wn z0
 cases hn
 exact Den.weaken (.cons h3 .nil) (evalF_sound hmix hC hF ((e86 u y4).trans z1))
def C23 : Oracle := (C22 u).add 102 (fun _ => true) (O86 100)
def A94v1 : AC := (.seq (.region 3 [o1 31 (ln 49 2 4),o1 32 (ln 49 2 5),o1 33 (ln 49 2 6),o1 34 (cs 89 [31,32,33] [49,49,49]),o1 35 (cs 102 [34] [3]),o1 36 (ln 49 2 4),o1 37 (ln 49 2 5),o1 38 (ln 49 2 7),o1 39 (cs 89 [36,37,38] [49,49,49]),o1 40 (cs 102 [39] [3]),o1 41 (bt .mul 3 35 40),o1 42 (bk .lss 3 41 0),mv 43 42,og 44 (ln 49 2 6) 43 true,og 45 (ln 49 2 7) 43 true,og 46 (ln 49 2 4) 43 true,og 47 (cs 89 [44,45,46] [49,49,49]) 43 true,og 48 (cs 102 [47] [3]) 43 true,og 49 (ln 49 2 6) 43 true,og 50 (ln 49 2 7) 43 true,og 51 (ln 49 2 5) 43 true,og 52 (cs 89 [49,50,51] [49,49,49]) 43 true,og 53 (cs 102 [52] [3]) 43 true,og 54 (bt .mul 3 48 53) 43 true,og 55 (bk .lss 3 54 0) 43 true,o1 56 (po 43 55),o1 8 (sg 56)] 0 (some [[],[],[],[0,1,2],(rl 0 4 []),[],[],[],(rl 0 8 []),(rl 0 9 []),(rl 0 10 []),(rl 0 11 []),(rl 0 12 []),(rl 0 13 []),(rl 0 13 []),(rl 0 13 []),(rl 0 16 []),(rl 0 17 []),(rl 0 13 []),(rl 0 13 []),(rl 0 13 []),(rl 0 21 []),(rl 0 22 []),(rl 0 23 []),(rl 0 24 []),(rl 0 25 []),(rl 0 26 [])])) []
 (.ret (rl 0 8 (rl 9 48 []))))
def A94 : AF := ⟨57,[.tmp 8],
 (.seq (.region 0 [o1 4 (bx 0 49 0),o1 5 (bx 1 49 1),o1 6 (bx 2 49 2),o1 7 (bx 3 49 3),o1 8 (sb false)] 4 none) []
 (.seq (.seq (.region 1 [o1 9 (ln 49 2 4),o1 10 (ln 49 2 5),o1 11 (ln 49 2 6),o1 12 (cs 88 [9,10,11] [49,49,49]),mv 13 12,og 14 (ln 49 2 4) 13 false,og 15 (ln 49 2 5) 13 false,og 16 (ln 49 2 7) 13 false,og 17 (cs 88 [14,15,16] [49,49,49]) 13 false,o1 18 (pa 13 17),mv 19 18,og 20 (ln 49 2 6) 19 false,og 21 (ln 49 2 7) 19 false,og 22 (ln 49 2 4) 19 false,og 23 (cs 88 [20,21,22] [49,49,49]) 19 false,o1 24 (pa 19 23),mv 25 24,og 26 (ln 49 2 6) 25 false,og 27 (ln 49 2 7) 25 false,og 28 (ln 49 2 5) 25 false,og 29 (cs 88 [26,27,28] [49,49,49]) 25 false,o1 30 (pa 25 29)] 0 none) []
 (.cond (tm 30)
 (.seq (.region 2 [o1 8 (sb true)] 0 none) []
  (.ret (rl 0 8 (rl 9 48 []))))
 .skip)) (rl 8 23 [])
 A94v1))⟩
def D80 (u : Nat) (x0 x1 x2 x3 x4 x5 x6 x7 : Int) (k : Bool → Option ρ) : Option ρ :=
 (ob (F81 100 x0 x1 x2 x3 x4 x5) fun x8 => (bif (x8 == false) then (ob (F81 100 x0 x1 x2 x3 x6 x7) fun x9 => (bif (x9 == false) then (ob (F81 100 x4 x5 x6 x7 x0 x1) fun xA => (bif (xA == false) then (ob (F81 100 x4 x5 x6 x7 x2 x3) fun xB => (bif xB then (k true) else (ob (F79 100 x0 x1 x2 x3 x4 x5) fun xC => (ob (F86 100 xC) fun xD => (ob (F79 100 x0 x1 x2 x3 x6 x7) fun xE => (ob (F86 100 xE) fun xF => (bif ((decide ((w64 (xD * xF)) < 0)) == true) then (ob (F79 100 x4 x5 x6 x7 x0 x1) fun xG => (ob (F86 100 xG) fun xH => (ob (F79 100 x4 x5 x6 x7 x2 x3) fun xI => (ob (F86 100 xI) fun xJ => (k (decide ((w64 (xH * xJ)) < 0))))))) else (k false)))))))) else (k true))) else (k true))) else (k true)))
def F80 (x0 x1 x2 x3 x4 x5 x6 x7 : Int) : Option (Bool) := D80 u x0 x1 x2 x3 x4 x5 x6 x7 some
theorem f80 (x0 x1 x2 x3 x4 x5 x6 x7 : Int) (k : (Bool) → Option ρ) : D80 u x0 x1 x2 x3 x4 x5 x6 x7 k = ob (F80 u x0 x1 x2 x3 x4 x5 x6 x7) k := by
 simp only [F80,D80,ob_bif,ob_ob,ob_none,ob_some]
theorem e80 (x0 x1 x2 x3 x4 x5 x6 x7 : Int) : evalF (C23 u) u A94 [.agg [(vi x0),(vi x1)],.agg [(vi x2),(vi x3)],.agg [(vi x4),(vi x5)],.agg [(vi x6),(vi x7)]] = ob (F80 u x0 x1 x2 x3 x4 x5 x6 x7) fun t => some [.v (.b t)] := Eq.trans (b := (ob (F81 100 x0 x1 x2 x3 x4 x5) fun x8 => (bif (x8 == false) then (ob (F81 100 x0 x1 x2 x3 x6 x7) fun x9 => (bif (x9 == false) then (ob (F81 100 x4 x5 x6 x7 x0 x1) fun xA => (bif (xA == false) then (ob (F81 100 x4 x5 x6 x7 x2 x3) fun xB => (bif xB then (some [.v (.b true)]) else (ob (F79 100 x0 x1 x2 x3 x4 x5) fun xC => (ob (F86 100 xC) fun xD => (ob (F79 100 x0 x1 x2 x3 x6 x7) fun xE => (ob (F86 100 xE) fun xF => (bif ((decide ((w64 (xD * xF)) < 0)) == true) then (ob (F79 100 x4 x5 x6 x7 x0 x1) fun xG => (ob (F86 100 xG) fun xH => (ob (F79 100 x4 x5 x6 x7 x2 x3) fun xI => (ob (F86 100 xI) fun xJ => (some [.v (.b (decide ((w64 (xH * xJ)) < 0)))]))))) else (some [.v (.b false)])))))))) else (some [.v (.b true)]))) else (some [.v (.b true)]))) else (some [.v (.b true)])))) (by kernel_rfl) (by
 rw [← f80]
 simp only [D80])
def O80 : Ora where
 o := fun args {ρ} K =>
  wc args fun a1 l2 =>
  wagg a1 fun l3 =>
  wdI .i64 l3 fun y7 l5 =>
  wdI .i64 l5 fun y11 l9 =>
  wn l9 <|
  wc l2 fun a12 l13 =>
  wagg a12 fun l14 =>
  wdI .i64 l14 fun y18 l16 =>
  wdI .i64 l16 fun y22 l20 =>
  wn l20 <|
  wc l13 fun a23 l24 =>
  wagg a23 fun l25 =>
  wdI .i64 l25 fun y29 l27 =>
  wdI .i64 l27 fun y33 l31 =>
  wn l31 <|
  wc l24 fun a34 l35 =>
  wagg a34 fun l36 =>
  wdI .i64 l36 fun y40 l38 =>
  wdI .i64 l38 fun y44 l42 =>
  wn l42 <|
  wn l35 <|
  (ob (F80 u y7 y11 y18 y22 y29 y33 y40 y44) fun t => K [.v (.b t)])
 nat := fun args {ρ} K => by
  simp only [bind_wagg,bind_wc,bind_wdI,bind_wn,bind_ob,Option.bind_some]
theorem d80 : DO (O80 u) (C23 u) 94 A94 := by
 intro P hmix hC hF args res h
 obtain ⟨a1,l2,rfl,z0⟩ := inv_wc h
 obtain ⟨l3,rfl,z1⟩ := inv_wagg z0
 obtain ⟨a4,y7,l5,rfl,h6,z2⟩ := inv_wdI z1
 obtain ⟨a8,y11,l9,rfl,h10,z3⟩ := inv_wdI z2
 obtain ⟨hn,z4⟩ := inv_wn z3
 cases hn
 obtain ⟨a12,l13,rfl,z5⟩ := inv_wc z4
 obtain ⟨l14,rfl,z6⟩ := inv_wagg z5
 obtain ⟨a15,y18,l16,rfl,h17,z7⟩ := inv_wdI z6
 obtain ⟨a19,y22,l20,rfl,h21,z8⟩ := inv_wdI z7
 obtain ⟨hn,z9⟩ := inv_wn z8
 cases hn
 obtain ⟨a23,l24,rfl,z10⟩ := inv_wc z9
 obtain ⟨l25,rfl,z11⟩ := inv_wagg z10
 obtain ⟨a26,y29,l27,rfl,h28,z12⟩ := inv_wdI z11
 obtain ⟨a30,y33,l31,rfl,h32,z13⟩ := inv_wdI z12
 obtain ⟨hn,z14⟩ := inv_wn z13
 cases hn
 obtain ⟨a34,l35,rfl,z15⟩ := inv_wc z14
 obtain ⟨l36,rfl,z16⟩ := inv_wagg z15
 obtain ⟨a37,y40,l38,rfl,h39,z17⟩ := inv_wdI z16
 obtain ⟨a41,y44,l42,rfl,h43,z18⟩ := inv_wdI z17
 obtain ⟨hn,z19⟩ := inv_wn z18
 cases hn
 obtain ⟨hn,z20⟩ := inv_wn z19
 cases hn
 exact Den.weaken (.cons (WkA.agg (.cons h6 (.cons h10 .nil))) (.cons (WkA.agg (.cons h17 (.cons h21 .nil))) (.cons (WkA.agg (.cons h28 (.cons h32 .nil))) (.cons (WkA.agg (.cons h39 (.cons h43 .nil))) .nil)))) (evalF_sound hmix hC hF ((e80 u y7 y11 y18 y22 y29 y33 y40 y44).trans z20))
def C24 : Oracle := (C23 u).add 94 (fun _ => true) (O80 100)
def A83v1 : AC := (.region 13 [mv 73 8,o1 74 (bk .add 3 73 1),o1 8 (sg 74)] 0 none)
def A83v2 : AC := (.seq (.block 3
 (.seq (.region 14 [mv 75 8,o1 76 (bk .add 3 75 1),mv 77 3,o1 78 (bt .rem 3 76 77),mv 79 4,o1 80 (bt .neq 3 78 79),mv 81 80,og 82 (ln 49 2 5) 81 true,og 83 (ln 49 2 6) 81 true,og 84 (.move (tm 0)) 81 true,og 85 (.move (tm 8)) 81 true,og 86 (.indexAddr 37 49 2 (tm 84) (tm 85)) 81 true,og 87 (ln 49 2 86) 81 true,og 88 (.move (tm 0)) 81 true,og 89 (.move (tm 8)) 81 true,og 90 (bk .add 3 89 1) 81 true,og 91 (.move (tm 3)) 81 true,og 92 (bt .rem 3 90 91) 81 true,og 93 (.indexAddr 37 49 2 (tm 88) (tm 92)) 81 true,og 94 (ln 49 2 93) 81 true,og 95 (cs 94 [82,83,87,94] [49,49,49,49]) 81 true,o1 96 (po 81 95)] 0 (some [[],[0],[],[0,1,2],[],(rl 0 5 []),(rl 0 6 []),(rl 0 7 []),(rl 0 7 []),(rl 0 7 []),(rl 0 7 []),(rl 0 7 [9,10]),(rl 0 7 [9,10,11]),(rl 0 7 []),(rl 0 7 []),(rl 0 7 [14]),(rl 0 7 []),(rl 0 7 [14,15,16]),(rl 0 7 (rl 13 5 [])),(rl 0 7 (rl 13 6 [])),(rl 0 20 []),(rl 0 21 [])])) []
  (.cond (tm 96)
  (.seq (.region 15 [o1 2 (sb false)] 0 none) []
   (.ret (0 :: 1 :: (rl 3 95 []))))
  .skip))) (2 :: (rl 75 22 []))
 A83v1)
def A83v3 : AC := (.seq (.seq (.region 12 [mv 70 8,mv 71 3,o1 72 (bt .lss 3 70 71)] 0 none) []
 (.cond (tm 72)
 .skip
 (.exit 2 (1 :: 2 :: (rl 4 8 (rl 14 84 [])))))) [70,71,72]
 A83v2)
def A83v4 : AC := (.seq (.region 11 [mv 68 4,o1 69 (bk .add 3 68 2),o1 8 (sg 69)] 0 none) []
 (.block 2
 (.loop [] (1 :: 2 :: 7 :: 9 :: 10 :: 11 :: (rl 14 84 []))
  A83v3)))
def A83v5 : AC := (.seq (.region 8 [mv 30 0,mv 31 4,o1 32 (bk .add 3 31 2),mv 33 3,o1 34 (bt .rem 3 32 33),o1 35 (.indexAddr 37 49 2 (tm 30) (tm 34)),o1 36 (ln 49 2 35),o1 7 (.alloc 0 49 [vci 0,vci 0]),o0 (.store 49 2 (tm 7) (tm 36))] 1 none) []
 (.seq (.seq (.region 9 [o1 37 (ln 49 2 5),o1 38 (ln 49 2 6),o1 39 (ln 49 2 7),o1 40 (cs 89 [37,38,39] [49,49,49]),o1 41 (bk .eql 3 40 0),mv 42 41,og 43 (fa 49 5 0 0) 42 true,og 44 (lo 3 43) 42 true,og 45 (fa 49 6 0 0) 42 true,og 46 (lo 3 45) 42 true,og 47 (bt .sub 3 44 46) 42 true,og 48 (fa 49 7 0 0) 42 true,og 49 (lo 3 48) 42 true,og 50 (fa 49 6 0 0) 42 true,og 51 (lo 3 50) 42 true,og 52 (bt .sub 3 49 51) 42 true,og 53 (bt .mul 3 47 52) 42 true,og 54 (fa 49 5 1 1) 42 true,og 55 (lo 3 54) 42 true,og 56 (fa 49 6 1 1) 42 true,og 57 (lo 3 56) 42 true,og 58 (bt .sub 3 55 57) 42 true,og 59 (fa 49 7 1 1) 42 true,og 60 (lo 3 59) 42 true,og 61 (fa 49 6 1 1) 42 true,og 62 (lo 3 61) 42 true,og 63 (bt .sub 3 60 62) 42 true,og 64 (bt .mul 3 58 63) 42 true,og 65 (bt .add 3 53 64) 42 true,og 66 (bk .gtr 3 65 0) 42 true,o1 67 (po 42 66)] 0 none) []
 (.cond (tm 67)
 (.seq (.region 10 [o1 2 (sb false)] 0 none) []
  (.ret (0 :: 1 :: (rl 3 95 []))))
 .skip)) (2 :: (rl 37 31 []))
 A83v4))
def A83v6 : AC := (.region 16 [o1 97 (bk .add 3 13 1),mv 13 97] 0 none)
def A83v7 : AC := (.seq (.block 1
 (.seq (.region 4 [mv 15 13,o1 4 (sg 15)] 0 none) []
  (.seq (.region 5 [mv 16 0,mv 17 4,o1 18 (.indexAddr 37 49 2 (tm 16) (tm 17)),o1 19 (ln 49 2 18),mv 20 0,mv 21 4,o1 22 (bk .add 3 21 1),mv 23 3,o1 24 (bt .rem 3 22 23),o1 25 (.indexAddr 37 49 2 (tm 20) (tm 24)),o1 26 (ln 49 2 25),o1 5 (.alloc 0 49 [vci 0,vci 0]),o1 6 (.alloc 1 49 [vci 0,vci 0]),o0 (.store 49 2 (tm 5) (tm 19)),o0 (.store 49 2 (tm 6) (tm 26))] 2 (some [[],[],[0,1],[0,1,2],[],[],[5],[],[5,6,7],(rl 4 5 []),(rl 4 6 []),[],[],(rl 0 4 [11,12]),(rl 0 14 [])])) []
  (.seq (.seq (.region 6 [o1 27 (ln 49 2 5),o1 28 (ln 49 2 6),o1 29 (.eqA false kP 49 (tm 27) (tm 28) 49)] 0 none) []
  (.cond (tm 29)
  (.seq (.region 7 [o1 2 (sb false)] 0 none) []
   (.ret (0 :: 1 :: (rl 3 95 []))))
  .skip)) [2,27,28,29]
  A83v5)))) (2 :: (rl 4 5 (rl 15 82 [])))
 A83v6)
def A83v8 : AC := (.seq (.region 3 [o1 14 (bt .lss 3 13 12)] 0 none) []
 (.seq (.cond (tm 14)
 .skip
 (.exit 0 (rl 0 98 []))) []
 A83v7))
def A83v9 : AC := (.seq (.region 17 [o1 2 (sb true)] 0 none) []
 (.ret (0 :: 1 :: (rl 3 95 []))))
def A83 : AF := ⟨98,[.tmp 2],
 (.seq (.region 0 [o1 2 (sb false)] 0 none) []
 (.seq (.region 1 [mv 9 0,o1 10 (.len 37 false (tm 9)),o1 3 (sg 10)] 0 none) []
 (.seq (.seq (.region 2 [mv 11 0,o1 12 (.len 37 false (tm 11)),o1 13 (.move (ic 0))] 0 none) []
 (.block 0
 (.loop [] (1 :: 2 :: (rl 4 8 (rl 14 84 [])))
  A83v8))) (2 :: (rl 4 5 (rl 11 87 [])))
 A83v9)))⟩
def B62v2 (C : Oracle) (u : Nat) : St → (Ex → St → Option ρ) → Option ρ := fun st k => evalC C u A83v3 st k
def N62v2 : St → Option St := fun s => s.norm (1 :: 2 :: 7 :: 9 :: 10 :: 11 :: (rl 14 84 [])) 3
def s62v0 (x0 : Nat) (x1 : FF) (x2 x3 x4 x5 x6 x7 x8 x9 xA : Int) : St := ⟨(.x (.c (ro kP x0 x1)) :: .u :: .u :: vxi x2 :: vxi x3 :: .x (.ptr 0 0) :: .x (.ptr 1 0) :: .u :: vxi x4 :: (us 3 (vxi x2 :: vxi x3 :: (us 84 [])))),[.box [(vci x5),(vci x6)],.box [(vci x7),(vci x8)],.box [(vci x9),(vci xA)]]⟩
def s62v1 (x0 x1 x2 x3 x4 x5 : Int) : St := ⟨(.u :: .u :: vxb false :: (us 95 [])),[.box [(vci x0),(vci x1)],.box [(vci x2),(vci x3)],.box [(vci x4),(vci x5)]]⟩
def s62v2 (x0 : Nat) (x1 : FF) (x2 x3 x4 x5 x6 x7 x8 x9 : Int) : St := ⟨(.x (.c (ro kP x0 x1)) :: .u :: .u :: vxi x2 :: (us 8 (vxi x2 :: vxi x3 :: (us 84 [])))),[.box [(vci x4),(vci x5)],.box [(vci x6),(vci x7)],.box [(vci x8),(vci x9)]]⟩
def L62v2 {ρ : Type} (u : Nat) (x0 : Nat) (x1 : FF) (x2 x3 x4 x5 x6 x7 x8 x9 : Int) : Nat → Int → (Option ρ) → (Option ρ) → Option ρ
 | 0,_,_,_ => none
 | m + 1,xA,k0,k1 =>
  (bif (decide (xA < x2)) then (bif (x2 == 0) then none else (bif (((Int.tmod (w64 (xA + 1)) x2) != x3) == true) then (bif (inb xA x0) then (bif (x2 == 0) then none else (bif (inb (Int.tmod (w64 (xA + 1)) x2) x0) then (ob (F80 100 x4 x5 x6 x7 (x1 xA.toNat 0).int (x1 xA.toNat 1).int (CV.int (x1 (Int.toNat (Int.tmod (w64 (xA + 1)) x2)) 0)) (CV.int (x1 (Int.toNat (Int.tmod (w64 (xA + 1)) x2)) 1))) fun xB => (bif xB then k0 else (L62v2 u x0 x1 x2 x3 x4 x5 x6 x7 x8 x9 m (w64 (xA + 1)) k0 k1))) else none)) else none) else (L62v2 u x0 x1 x2 x3 x4 x5 x6 x7 x8 x9 m (w64 (xA + 1)) k0 k1))) else k1)
theorem nl62v2 {ρ σ : Type} (u : Nat) (x0 : Nat) (x1 : FF) (x2 x3 x4 x5 x6 x7 x8 x9 : Int) (g : ρ → Option σ) : ∀ (m : Nat) (xA : Int) (k0 : Option ρ) (k1 : Option ρ),ob (L62v2 u x0 x1 x2 x3 x4 x5 x6 x7 x8 x9 m xA k0 k1) g = L62v2 u x0 x1 x2 x3 x4 x5 x6 x7 x8 x9 m xA (ob k0 g) (ob k1 g)
 | 0,_,_,_ => rfl
 | m + 1,xA,k0,k1 => by
  simp only [L62v2,ob_bif,ob_ob,ob_none,nl62v2 u x0 x1 x2 x3 x4 x5 x6 x7 x8 x9 g m]
theorem r62v2 (m : Nat) (k : Ex → St → Option ρ) (x0 : Nat) (x1 : FF) (x2 x3 x4 x5 x6 x7 x8 x9 xA : Int) :
  loopH (B62v2 (C24 u) u) N62v2 (m + 1) (s62v0 x0 x1 x2 x3 xA x4 x5 x6 x7 x8 x9) k =
  (bif (decide (xA < x2)) then (bif (x2 == 0) then none else (bif (((Int.tmod (w64 (xA + 1)) x2) != x3) == true) then (bif (inb xA x0) then (bif (x2 == 0) then none else (bif (inb (Int.tmod (w64 (xA + 1)) x2) x0) then (ob (F80 100 x4 x5 x6 x7 (x1 xA.toNat 0).int (x1 xA.toNat 1).int (CV.int (x1 (Int.toNat (Int.tmod (w64 (xA + 1)) x2)) 0)) (CV.int (x1 (Int.toNat (Int.tmod (w64 (xA + 1)) x2)) 1))) fun xB => (bif xB then (k .ret (s62v1 x4 x5 x6 x7 x8 x9)) else (loopH (B62v2 (C24 u) u) N62v2 m (s62v0 x0 x1 x2 x3 (w64 (xA + 1)) x4 x5 x6 x7 x8 x9) k))) else none)) else none) else (loopH (B62v2 (C24 u) u) N62v2 m (s62v0 x0 x1 x2 x3 (w64 (xA + 1)) x4 x5 x6 x7 x8 x9) k))) else (k (.exit 2) (s62v2 x0 x1 x2 x3 x4 x5 x6 x7 x8 x9))) := by kernel_rfl
theorem q62v2 (u : Nat) (x0 : Nat) (x1 : FF) (x2 x3 x4 x5 x6 x7 x8 x9 : Int) {ρ : Type} (k : Ex → St → Option ρ) : ∀ (m : Nat) (xA : Int),
  loopH (B62v2 (C24 u) u) N62v2 m (s62v0 x0 x1 x2 x3 xA x4 x5 x6 x7 x8 x9) k = L62v2 u x0 x1 x2 x3 x4 x5 x6 x7 x8 x9 m xA (k .ret (s62v1 x4 x5 x6 x7 x8 x9)) (k (.exit 2) (s62v2 x0 x1 x2 x3 x4 x5 x6 x7 x8 x9))
 | 0,_ => rfl
 | m + 1,xA => by
  rw [r62v2]
  simp only [L62v2,q62v2 u x0 x1 x2 x3 x4 x5 x6 x7 x8 x9 k m]
def B62v3 (C : Oracle) (u : Nat) : St → (Ex → St → Option ρ) → Option ρ := fun st k => evalC C u A83v8 st k
def N62v3 : St → Option St := fun s => s.norm (1 :: 2 :: (rl 4 8 (rl 14 84 []))) 0
def s62v3 (x0 : Nat) (x1 : FF) (x2 x3 : Int) : St := ⟨(.x (.c (ro kP x0 x1)) :: .u :: .u :: vxi x2 :: (us 8 (vxi x2 :: vxi x3 :: (us 84 [])))),[]⟩
def s62v4 (x0 x1 x2 x3 : Int) : St := ⟨(.u :: .u :: vxb false :: (us 95 [])),[.box [(vci x0),(vci x1)],.box [(vci x2),(vci x3)]]⟩
def s62v5 (x0 x1 x2 x3 x4 x5 : Int) : St := ⟨(.u :: .u :: vxb false :: (us 95 [])),[.box [(vci x0),(vci x1)],.box [(vci x2),(vci x3)],.box [(vci x4),(vci x5)]]⟩
def s62v6 : St := ⟨(us 98 []),[]⟩
def L62v3 {ρ : Type} (u : Nat) (x0 : Nat) (x1 : FF) (x2 : Int) : Nat → Int → (Int → Int → Int → Int → Option ρ) → (Int → Int → Int → Int → Int → Int → Option ρ) → (Option ρ) → Option ρ
 | 0,_,_,_,_ => none
 | m + 1,x3,k0,k1,k2 =>
  (bif (decide (x3 < x2)) then (bif (inb x3 x0) then (bif (x2 == 0) then none else (bif (inb (Int.tmod (w64 (x3 + 1)) x2) x0) then (bif (((x1 x3.toNat 0).int == (CV.int (x1 (Int.toNat (Int.tmod (w64 (x3 + 1)) x2)) 0))) && (((x1 x3.toNat 1).int == (CV.int (x1 (Int.toNat (Int.tmod (w64 (x3 + 1)) x2)) 1))) && true)) then (k0 (x1 x3.toNat 0).int (x1 x3.toNat 1).int (CV.int (x1 (Int.toNat (Int.tmod (w64 (x3 + 1)) x2)) 0)) (CV.int (x1 (Int.toNat (Int.tmod (w64 (x3 + 1)) x2)) 1))) else (bif (x2 == 0) then none else (bif (inb (Int.tmod (w64 (x3 + 2)) x2) x0) then (ob (F79 100 (x1 x3.toNat 0).int (x1 x3.toNat 1).int (CV.int (x1 (Int.toNat (Int.tmod (w64 (x3 + 1)) x2)) 0)) (CV.int (x1 (Int.toNat (Int.tmod (w64 (x3 + 1)) x2)) 1)) (CV.int (x1 (Int.toNat (Int.tmod (w64 (x3 + 2)) x2)) 0)) (CV.int (x1 (Int.toNat (Int.tmod (w64 (x3 + 2)) x2)) 1))) fun x4 => (bif ((x4 == 0) == true) then (bif (decide ((w64 ((w64 ((w64 ((x1 x3.toNat 0).int - (CV.int (x1 (Int.toNat (Int.tmod (w64 (x3 + 1)) x2)) 0)))) * (w64 ((CV.int (x1 (Int.toNat (Int.tmod (w64 (x3 + 2)) x2)) 0)) - (CV.int (x1 (Int.toNat (Int.tmod (w64 (x3 + 1)) x2)) 0)))))) + (w64 ((w64 ((x1 x3.toNat 1).int - (CV.int (x1 (Int.toNat (Int.tmod (w64 (x3 + 1)) x2)) 1)))) * (w64 ((CV.int (x1 (Int.toNat (Int.tmod (w64 (x3 + 2)) x2)) 1)) - (CV.int (x1 (Int.toNat (Int.tmod (w64 (x3 + 1)) x2)) 1)))))))) > 0)) then (k1 (x1 x3.toNat 0).int (x1 x3.toNat 1).int (CV.int (x1 (Int.toNat (Int.tmod (w64 (x3 + 1)) x2)) 0)) (CV.int (x1 (Int.toNat (Int.tmod (w64 (x3 + 1)) x2)) 1)) (CV.int (x1 (Int.toNat (Int.tmod (w64 (x3 + 2)) x2)) 0)) (CV.int (x1 (Int.toNat (Int.tmod (w64 (x3 + 2)) x2)) 1))) else (L62v2 u x0 x1 x2 x3 (x1 x3.toNat 0).int (x1 x3.toNat 1).int (CV.int (x1 (Int.toNat (Int.tmod (w64 (x3 + 1)) x2)) 0)) (CV.int (x1 (Int.toNat (Int.tmod (w64 (x3 + 1)) x2)) 1)) (CV.int (x1 (Int.toNat (Int.tmod (w64 (x3 + 2)) x2)) 0)) (CV.int (x1 (Int.toNat (Int.tmod (w64 (x3 + 2)) x2)) 1)) u (w64 (x3 + 2))
  (k1 (x1 x3.toNat 0).int (x1 x3.toNat 1).int (CV.int (x1 (Int.toNat (Int.tmod (w64 (x3 + 1)) x2)) 0)) (CV.int (x1 (Int.toNat (Int.tmod (w64 (x3 + 1)) x2)) 1)) (CV.int (x1 (Int.toNat (Int.tmod (w64 (x3 + 2)) x2)) 0)) (CV.int (x1 (Int.toNat (Int.tmod (w64 (x3 + 2)) x2)) 1)))
  (L62v3 u x0 x1 x2 m (w64 (x3 + 1)) k0 k1 k2))) else (L62v2 u x0 x1 x2 x3 (x1 x3.toNat 0).int (x1 x3.toNat 1).int (CV.int (x1 (Int.toNat (Int.tmod (w64 (x3 + 1)) x2)) 0)) (CV.int (x1 (Int.toNat (Int.tmod (w64 (x3 + 1)) x2)) 1)) (CV.int (x1 (Int.toNat (Int.tmod (w64 (x3 + 2)) x2)) 0)) (CV.int (x1 (Int.toNat (Int.tmod (w64 (x3 + 2)) x2)) 1)) u (w64 (x3 + 2))
  (k1 (x1 x3.toNat 0).int (x1 x3.toNat 1).int (CV.int (x1 (Int.toNat (Int.tmod (w64 (x3 + 1)) x2)) 0)) (CV.int (x1 (Int.toNat (Int.tmod (w64 (x3 + 1)) x2)) 1)) (CV.int (x1 (Int.toNat (Int.tmod (w64 (x3 + 2)) x2)) 0)) (CV.int (x1 (Int.toNat (Int.tmod (w64 (x3 + 2)) x2)) 1)))
  (L62v3 u x0 x1 x2 m (w64 (x3 + 1)) k0 k1 k2)))) else none))) else none)) else none) else k2)
theorem nl62v3 {ρ σ : Type} (u : Nat) (x0 : Nat) (x1 : FF) (x2 : Int) (g : ρ → Option σ) : ∀ (m : Nat) (x3 : Int) (k0 : Int → Int → Int → Int → Option ρ) (k1 : Int → Int → Int → Int → Int → Int → Option ρ) (k2 : Option ρ),ob (L62v3 u x0 x1 x2 m x3 k0 k1 k2) g = L62v3 u x0 x1 x2 m x3 (fun x4 x5 x6 x7 => ob (k0 x4 x5 x6 x7) g) (fun x8 x9 xA xB xC xD => ob (k1 x8 x9 xA xB xC xD) g) (ob k2 g)
 | 0,_,_,_,_ => rfl
 | m + 1,x3,k0,k1,k2 => by
  simp only [L62v3,ob_bif,ob_ob,ob_none,nl62v3 u x0 x1 x2 g m,nl62v2]
def s62v7 (x0 : Nat) (x1 : FF) (x2 x3 : Int) : St := ⟨(.x (.c (ro kP x0 x1)) :: .u :: .u :: vxi x2 :: vxi x3 :: .x (.ptr 0 0) :: .x (.ptr 1 0) :: .x (.ptr 2 0) :: vxi (w64 (x3 + 2)) :: (us 3 (vxi x2 :: vxi x3 :: vxb true :: vxi x3 :: .x (.c (ro kP x0 x1)) :: vxi x3 :: .x (.c (.rp kP (x1 x3.toNat))) :: .agg [(vci (x1 x3.toNat 0).int),(vci (x1 x3.toNat 1).int)] :: .x (.c (ro kP x0 x1)) :: vxi x3 :: vxi (w64 (x3 + 1)) :: vxi x2 :: vxi (Int.tmod (w64 (x3 + 1)) x2) :: .x (.c (.rp kP (x1 (Int.toNat (Int.tmod (w64 (x3 + 1)) x2))))) :: .agg [(vci (CV.int (x1 (Int.toNat (Int.tmod (w64 (x3 + 1)) x2)) 0))),(vci (CV.int (x1 (Int.toNat (Int.tmod (w64 (x3 + 1)) x2)) 1)))] :: (us 3 (.x (.c (ro kP x0 x1)) :: vxi x3 :: vxi (w64 (x3 + 2)) :: vxi x2 :: vxi (Int.tmod (w64 (x3 + 2)) x2) :: .x (.c (.rp kP (x1 (Int.toNat (Int.tmod (w64 (x3 + 2)) x2))))) :: .agg [(vci (CV.int (x1 (Int.toNat (Int.tmod (w64 (x3 + 2)) x2)) 0))),(vci (CV.int (x1 (Int.toNat (Int.tmod (w64 (x3 + 2)) x2)) 1)))] :: (us 31 (vxi x3 :: vxi (w64 (x3 + 2)) :: (us 28 [])))))))),[.box [(vci (x1 x3.toNat 0).int),(vci (x1 x3.toNat 1).int)],.box [(vci (CV.int (x1 (Int.toNat (Int.tmod (w64 (x3 + 1)) x2)) 0))),(vci (CV.int (x1 (Int.toNat (Int.tmod (w64 (x3 + 1)) x2)) 1)))],.box [(vci (CV.int (x1 (Int.toNat (Int.tmod (w64 (x3 + 2)) x2)) 0))),(vci (CV.int (x1 (Int.toNat (Int.tmod (w64 (x3 + 2)) x2)) 1)))]]⟩
theorem r62v3 (m : Nat) (k : Ex → St → Option ρ) (x0 : Nat) (x1 : FF) (x2 x3 : Int) :
  loopH (B62v3 (C24 u) u) N62v3 (m + 1) (s62v3 x0 x1 x2 x3) k =
  (bif (decide (x3 < x2)) then (bif (inb x3 x0) then (bif (x2 == 0) then none else (bif (inb (Int.tmod (w64 (x3 + 1)) x2) x0) then (bif (((x1 x3.toNat 0).int == (CV.int (x1 (Int.toNat (Int.tmod (w64 (x3 + 1)) x2)) 0))) && (((x1 x3.toNat 1).int == (CV.int (x1 (Int.toNat (Int.tmod (w64 (x3 + 1)) x2)) 1))) && true)) then (k .ret (s62v4 (x1 x3.toNat 0).int (x1 x3.toNat 1).int (CV.int (x1 (Int.toNat (Int.tmod (w64 (x3 + 1)) x2)) 0)) (CV.int (x1 (Int.toNat (Int.tmod (w64 (x3 + 1)) x2)) 1)))) else (bif (x2 == 0) then none else (bif (inb (Int.tmod (w64 (x3 + 2)) x2) x0) then (ob (F79 100 (x1 x3.toNat 0).int (x1 x3.toNat 1).int (CV.int (x1 (Int.toNat (Int.tmod (w64 (x3 + 1)) x2)) 0)) (CV.int (x1 (Int.toNat (Int.tmod (w64 (x3 + 1)) x2)) 1)) (CV.int (x1 (Int.toNat (Int.tmod (w64 (x3 + 2)) x2)) 0)) (CV.int (x1 (Int.toNat (Int.tmod (w64 (x3 + 2)) x2)) 1))) fun x4 => (bif ((x4 == 0) == true) then (bif (decide ((w64 ((w64 ((w64 ((x1 x3.toNat 0).int - (CV.int (x1 (Int.toNat (Int.tmod (w64 (x3 + 1)) x2)) 0)))) * (w64 ((CV.int (x1 (Int.toNat (Int.tmod (w64 (x3 + 2)) x2)) 0)) - (CV.int (x1 (Int.toNat (Int.tmod (w64 (x3 + 1)) x2)) 0)))))) + (w64 ((w64 ((x1 x3.toNat 1).int - (CV.int (x1 (Int.toNat (Int.tmod (w64 (x3 + 1)) x2)) 1)))) * (w64 ((CV.int (x1 (Int.toNat (Int.tmod (w64 (x3 + 2)) x2)) 1)) - (CV.int (x1 (Int.toNat (Int.tmod (w64 (x3 + 1)) x2)) 1)))))))) > 0)) then (k .ret (s62v5 (x1 x3.toNat 0).int (x1 x3.toNat 1).int (CV.int (x1 (Int.toNat (Int.tmod (w64 (x3 + 1)) x2)) 0)) (CV.int (x1 (Int.toNat (Int.tmod (w64 (x3 + 1)) x2)) 1)) (CV.int (x1 (Int.toNat (Int.tmod (w64 (x3 + 2)) x2)) 0)) (CV.int (x1 (Int.toNat (Int.tmod (w64 (x3 + 2)) x2)) 1)))) else (loopN (B62v2 (C24 u) u) N62v2 u (s62v7 x0 x1 x2 x3) (kBlk 2 (kBlk 1 (kSeq (C24 u) u (2 :: (rl 4 5 (rl 15 82 []))) A83v6 (kLoop (B62v3 (C24 u) u) N62v3 m k)))))) else (loopN (B62v2 (C24 u) u) N62v2 u (s62v7 x0 x1 x2 x3) (kBlk 2 (kBlk 1 (kSeq (C24 u) u (2 :: (rl 4 5 (rl 15 82 []))) A83v6 (kLoop (B62v3 (C24 u) u) N62v3 m k))))))) else none))) else none)) else none) else (k (.exit 0) s62v6)) := by kernel_rfl
theorem t62v1 (k : Ex → St → Option ρ) (x0 : Nat) (x1 : FF) (x2 x3 : Int) :
  loopN (B62v2 (C24 u) u) N62v2 u (s62v7 x0 x1 x2 x3) k =
  L62v2 u x0 x1 x2 x3 (x1 x3.toNat 0).int (x1 x3.toNat 1).int (CV.int (x1 (Int.toNat (Int.tmod (w64 (x3 + 1)) x2)) 0)) (CV.int (x1 (Int.toNat (Int.tmod (w64 (x3 + 1)) x2)) 1)) (CV.int (x1 (Int.toNat (Int.tmod (w64 (x3 + 2)) x2)) 0)) (CV.int (x1 (Int.toNat (Int.tmod (w64 (x3 + 2)) x2)) 1)) u (w64 (x3 + 2)) (k .ret (s62v1 (x1 x3.toNat 0).int (x1 x3.toNat 1).int (CV.int (x1 (Int.toNat (Int.tmod (w64 (x3 + 1)) x2)) 0)) (CV.int (x1 (Int.toNat (Int.tmod (w64 (x3 + 1)) x2)) 1)) (CV.int (x1 (Int.toNat (Int.tmod (w64 (x3 + 2)) x2)) 0)) (CV.int (x1 (Int.toNat (Int.tmod (w64 (x3 + 2)) x2)) 1)))) (k (.exit 2) (s62v2 x0 x1 x2 x3 (x1 x3.toNat 0).int (x1 x3.toNat 1).int (CV.int (x1 (Int.toNat (Int.tmod (w64 (x3 + 1)) x2)) 0)) (CV.int (x1 (Int.toNat (Int.tmod (w64 (x3 + 1)) x2)) 1)) (CV.int (x1 (Int.toNat (Int.tmod (w64 (x3 + 2)) x2)) 0)) (CV.int (x1 (Int.toNat (Int.tmod (w64 (x3 + 2)) x2)) 1)))) :=
 (loopN_at (st' := (s62v0 x0 x1 x2 x3 (w64 (x3 + 2)) (x1 x3.toNat 0).int (x1 x3.toNat 1).int (CV.int (x1 (Int.toNat (Int.tmod (w64 (x3 + 1)) x2)) 0)) (CV.int (x1 (Int.toNat (Int.tmod (w64 (x3 + 1)) x2)) 1)) (CV.int (x1 (Int.toNat (Int.tmod (w64 (x3 + 2)) x2)) 0)) (CV.int (x1 (Int.toNat (Int.tmod (w64 (x3 + 2)) x2)) 1)))) (by kernel_rfl)).trans (q62v2 u x0 x1 x2 x3 (x1 x3.toNat 0).int (x1 x3.toNat 1).int (CV.int (x1 (Int.toNat (Int.tmod (w64 (x3 + 1)) x2)) 0)) (CV.int (x1 (Int.toNat (Int.tmod (w64 (x3 + 1)) x2)) 1)) (CV.int (x1 (Int.toNat (Int.tmod (w64 (x3 + 2)) x2)) 0)) (CV.int (x1 (Int.toNat (Int.tmod (w64 (x3 + 2)) x2)) 1)) k u (w64 (x3 + 2)))
theorem g62v2 (m : Nat) (k : Ex → St → Option ρ) (x0 : FF) (x1 x2 : Int) :
  (kBlk 2 (kBlk 1 (kSeq (C24 u) u (2 :: (rl 4 5 (rl 15 82 []))) A83v6 (kLoop (B62v3 (C24 u) u) N62v3 m k)))) .ret (s62v1 (x0 x1.toNat 0).int (x0 x1.toNat 1).int (CV.int (x0 (Int.toNat (Int.tmod (w64 (x1 + 1)) x2)) 0)) (CV.int (x0 (Int.toNat (Int.tmod (w64 (x1 + 1)) x2)) 1)) (CV.int (x0 (Int.toNat (Int.tmod (w64 (x1 + 2)) x2)) 0)) (CV.int (x0 (Int.toNat (Int.tmod (w64 (x1 + 2)) x2)) 1))) =
  (k .ret (s62v5 (x0 x1.toNat 0).int (x0 x1.toNat 1).int (CV.int (x0 (Int.toNat (Int.tmod (w64 (x1 + 1)) x2)) 0)) (CV.int (x0 (Int.toNat (Int.tmod (w64 (x1 + 1)) x2)) 1)) (CV.int (x0 (Int.toNat (Int.tmod (w64 (x1 + 2)) x2)) 0)) (CV.int (x0 (Int.toNat (Int.tmod (w64 (x1 + 2)) x2)) 1)))) := by kernel_rfl
theorem g62v3 (m : Nat) (k : Ex → St → Option ρ) (x0 : Nat) (x1 : FF) (x2 x3 : Int) :
  (kBlk 2 (kBlk 1 (kSeq (C24 u) u (2 :: (rl 4 5 (rl 15 82 []))) A83v6 (kLoop (B62v3 (C24 u) u) N62v3 m k)))) (.exit 2) (s62v2 x0 x1 x2 x3 (x1 x3.toNat 0).int (x1 x3.toNat 1).int (CV.int (x1 (Int.toNat (Int.tmod (w64 (x3 + 1)) x2)) 0)) (CV.int (x1 (Int.toNat (Int.tmod (w64 (x3 + 1)) x2)) 1)) (CV.int (x1 (Int.toNat (Int.tmod (w64 (x3 + 2)) x2)) 0)) (CV.int (x1 (Int.toNat (Int.tmod (w64 (x3 + 2)) x2)) 1))) =
  (loopH (B62v3 (C24 u) u) N62v3 m (s62v3 x0 x1 x2 (w64 (x3 + 1))) k) := by kernel_rfl
theorem t62v4 (k : Ex → St → Option ρ) (x0 : Nat) (x1 : FF) (x2 x3 : Int) :
  loopN (B62v2 (C24 u) u) N62v2 u (s62v7 x0 x1 x2 x3) k =
  L62v2 u x0 x1 x2 x3 (x1 x3.toNat 0).int (x1 x3.toNat 1).int (CV.int (x1 (Int.toNat (Int.tmod (w64 (x3 + 1)) x2)) 0)) (CV.int (x1 (Int.toNat (Int.tmod (w64 (x3 + 1)) x2)) 1)) (CV.int (x1 (Int.toNat (Int.tmod (w64 (x3 + 2)) x2)) 0)) (CV.int (x1 (Int.toNat (Int.tmod (w64 (x3 + 2)) x2)) 1)) u (w64 (x3 + 2)) (k .ret (s62v1 (x1 x3.toNat 0).int (x1 x3.toNat 1).int (CV.int (x1 (Int.toNat (Int.tmod (w64 (x3 + 1)) x2)) 0)) (CV.int (x1 (Int.toNat (Int.tmod (w64 (x3 + 1)) x2)) 1)) (CV.int (x1 (Int.toNat (Int.tmod (w64 (x3 + 2)) x2)) 0)) (CV.int (x1 (Int.toNat (Int.tmod (w64 (x3 + 2)) x2)) 1)))) (k (.exit 2) (s62v2 x0 x1 x2 x3 (x1 x3.toNat 0).int (x1 x3.toNat 1).int (CV.int (x1 (Int.toNat (Int.tmod (w64 (x3 + 1)) x2)) 0)) (CV.int (x1 (Int.toNat (Int.tmod (w64 (x3 + 1)) x2)) 1)) (CV.int (x1 (Int.toNat (Int.tmod (w64 (x3 + 2)) x2)) 0)) (CV.int (x1 (Int.toNat (Int.tmod (w64 (x3 + 2)) x2)) 1)))) :=
 (loopN_at (st' := (s62v0 x0 x1 x2 x3 (w64 (x3 + 2)) (x1 x3.toNat 0).int (x1 x3.toNat 1).int (CV.int (x1 (Int.toNat (Int.tmod (w64 (x3 + 1)) x2)) 0)) (CV.int (x1 (Int.toNat (Int.tmod (w64 (x3 + 1)) x2)) 1)) (CV.int (x1 (Int.toNat (Int.tmod (w64 (x3 + 2)) x2)) 0)) (CV.int (x1 (Int.toNat (Int.tmod (w64 (x3 + 2)) x2)) 1)))) (by kernel_rfl)).trans (q62v2 u x0 x1 x2 x3 (x1 x3.toNat 0).int (x1 x3.toNat 1).int (CV.int (x1 (Int.toNat (Int.tmod (w64 (x3 + 1)) x2)) 0)) (CV.int (x1 (Int.toNat (Int.tmod (w64 (x3 + 1)) x2)) 1)) (CV.int (x1 (Int.toNat (Int.tmod (w64 (x3 + 2)) x2)) 0)) (CV.int (x1 (Int.toNat (Int.tmod (w64 (x3 + 2)) x2)) 1)) k u (w64 (x3 + 2)))
theorem g62v5 (m : Nat) (k : Ex → St → Option ρ) (x0 : FF) (x1 x2 : Int) :
  (kBlk 2 (kBlk 1 (kSeq (C24 u) u (2 :: (rl 4 5 (rl 15 82 []))) A83v6 (kLoop (B62v3 (C24 u) u) N62v3 m k)))) .ret (s62v1 (x0 x1.toNat 0).int (x0 x1.toNat 1).int (CV.int (x0 (Int.toNat (Int.tmod (w64 (x1 + 1)) x2)) 0)) (CV.int (x0 (Int.toNat (Int.tmod (w64 (x1 + 1)) x2)) 1)) (CV.int (x0 (Int.toNat (Int.tmod (w64 (x1 + 2)) x2)) 0)) (CV.int (x0 (Int.toNat (Int.tmod (w64 (x1 + 2)) x2)) 1))) =
  (k .ret (s62v5 (x0 x1.toNat 0).int (x0 x1.toNat 1).int (CV.int (x0 (Int.toNat (Int.tmod (w64 (x1 + 1)) x2)) 0)) (CV.int (x0 (Int.toNat (Int.tmod (w64 (x1 + 1)) x2)) 1)) (CV.int (x0 (Int.toNat (Int.tmod (w64 (x1 + 2)) x2)) 0)) (CV.int (x0 (Int.toNat (Int.tmod (w64 (x1 + 2)) x2)) 1)))) := by kernel_rfl
theorem g62v6 (m : Nat) (k : Ex → St → Option ρ) (x0 : Nat) (x1 : FF) (x2 x3 : Int) :
  (kBlk 2 (kBlk 1 (kSeq (C24 u) u (2 :: (rl 4 5 (rl 15 82 []))) A83v6 (kLoop (B62v3 (C24 u) u) N62v3 m k)))) (.exit 2) (s62v2 x0 x1 x2 x3 (x1 x3.toNat 0).int (x1 x3.toNat 1).int (CV.int (x1 (Int.toNat (Int.tmod (w64 (x3 + 1)) x2)) 0)) (CV.int (x1 (Int.toNat (Int.tmod (w64 (x3 + 1)) x2)) 1)) (CV.int (x1 (Int.toNat (Int.tmod (w64 (x3 + 2)) x2)) 0)) (CV.int (x1 (Int.toNat (Int.tmod (w64 (x3 + 2)) x2)) 1))) =
  (loopH (B62v3 (C24 u) u) N62v3 m (s62v3 x0 x1 x2 (w64 (x3 + 1))) k) := by kernel_rfl
theorem q62v3 (u : Nat) (x0 : Nat) (x1 : FF) (x2 : Int) {ρ : Type} (k : Ex → St → Option ρ) : ∀ (m : Nat) (x3 : Int),
  loopH (B62v3 (C24 u) u) N62v3 m (s62v3 x0 x1 x2 x3) k = L62v3 u x0 x1 x2 m x3 (fun x4 x5 x6 x7 => k .ret (s62v4 x4 x5 x6 x7)) (fun x8 x9 xA xB xC xD => k .ret (s62v5 x8 x9 xA xB xC xD)) (k (.exit 0) s62v6)
 | 0,_ => rfl
 | m + 1,x3 => by
  rw [r62v3]
  simp only [L62v3,q62v3 u x0 x1 x2 k m,t62v1,g62v2,g62v3,t62v4,g62v5,g62v6]
def D62 (x0 : Nat) (x1 : FF) (k : Bool → Option ρ) : Option ρ :=
 (L62v3 u x0 x1 (Int.ofNat x0) u 0
  (fun x2 x3 x4 x5 => (k false))
  (fun x6 x7 x8 x9 xA xB => (k false))
  (k true))
def F62 (x0 : Nat) (x1 : FF) : Option (Bool) := D62 u x0 x1 some
theorem f62 (x0 : Nat) (x1 : FF) (k : (Bool) → Option ρ) : D62 u x0 x1 k = ob (F62 u x0 x1) k := by
 simp only [F62,D62,ob_bif,ob_ob,ob_none,ob_some,nl62v3]
def s62v8 (x0 : Nat) (x1 : FF) : St := ⟨[.x (.c (ro kP x0 x1)),uu,vxb false,vxi (Int.ofNat x0),uu,uu,uu,uu,uu,.x (.c (ro kP x0 x1)),vxi (Int.ofNat x0),.x (.c (ro kP x0 x1)),vxi (Int.ofNat x0),vxi 0,uu,uu,uu,uu,uu,uu,uu,uu,uu,uu,uu,uu,uu,uu,uu,uu,uu,uu,uu,uu,uu,uu,uu,uu,uu,uu,uu,uu,uu,uu,uu,uu,uu,uu,uu,uu,uu,uu,uu,uu,uu,uu,uu,uu,uu,uu,uu,uu,uu,uu,uu,uu,uu,uu,uu,uu,uu,uu,uu,uu,uu,uu,uu,uu,uu,uu,uu,uu,uu,uu,uu,uu,uu,uu,uu,uu,uu,uu,uu,uu,uu,uu,uu,uu],[]⟩
theorem t62v7 (k : Ex → St → Option ρ) (x0 : Nat) (x1 : FF) :
  loopN (B62v3 (C24 u) u) N62v3 u (s62v8 x0 x1) k =
  L62v3 u x0 x1 (Int.ofNat x0) u 0 (fun x2 x3 x4 x5 => k .ret (s62v4 x2 x3 x4 x5)) (fun x6 x7 x8 x9 xA xB => k .ret (s62v5 x6 x7 x8 x9 xA xB)) (k (.exit 0) s62v6) :=
 (loopN_at (st' := (s62v3 x0 x1 (Int.ofNat x0) 0)) (by kernel_rfl)).trans (q62v3 u x0 x1 (Int.ofNat x0) k u 0)
theorem g62v8 (x0 x1 x2 x3 : Int) :
  (kBlk 0 (kSeq (C24 u) u (2 :: (rl 4 5 (rl 11 87 []))) A83v9 (finish A83))) .ret (s62v4 x0 x1 x2 x3) =
  (some [.v (.b false)]) := by kernel_rfl
theorem g62v9 (x0 x1 x2 x3 x4 x5 : Int) :
  (kBlk 0 (kSeq (C24 u) u (2 :: (rl 4 5 (rl 11 87 []))) A83v9 (finish A83))) .ret (s62v5 x0 x1 x2 x3 x4 x5) =
  (some [.v (.b false)]) := by kernel_rfl
theorem g62v10 :
  (kBlk 0 (kSeq (C24 u) u (2 :: (rl 4 5 (rl 11 87 []))) A83v9 (finish A83))) (.exit 0) s62v6 =
  (some [.v (.b true)]) := by kernel_rfl
theorem e62 (x0 : Nat) (x1 : FF) : evalF (C24 u) u A83 [.v (ro kP x0 x1)] = ob (F62 u x0 x1) fun t => some [.v (.b t)] := Eq.trans (b := (loopN (B62v3 (C24 u) u) N62v3 u (s62v8 x0 x1) (kBlk 0 (kSeq (C24 u) u (2 :: (rl 4 5 (rl 11 87 []))) A83v9 (finish A83))))) (by kernel_rfl) (by
 rw [← f62]
 simp only [D62,t62v7,g62v8,g62v9,g62v10])
def O62 : Ora where
 o := fun args {ρ} K =>
  wcL kP args fun y4 y5 l2 =>
  wn l2 <|
  (ob (F62 u y4 y5) fun t => K [.v (.b t)])
 nat := fun args {ρ} K => by
  simp only [bind_wcL,bind_wn,bind_ob,Option.bind_some]
theorem d62 : DO (O62 u) (C24 u) 83 A83 := by
 intro P hmix hC hF args res h
 obtain ⟨a1,y4,y5,l2,rfl,h3,z0⟩ := inv_wcL h
 obtain ⟨hn,z1⟩ := inv_wn z0
 cases hn
 exact Den.weaken (.cons h3 .nil) (evalF_sound hmix hC hF ((e62 u y4 y5).trans z1))
def C25 : Oracle := (C24 u).add 83 (fun _ => true) (O62 100)
def A84v1 : AC := (.seq (.block 1
 (.seq (.region 4 [mv 11 9,o1 12 (.indexAddr 37 49 2 (tm 7) (tm 9)),o1 13 (ln 49 2 12),o1 5 (.alloc 0 49 [vci 0,vci 0]),o1 4 (sg 11),o0 (.store 49 2 (tm 5) (tm 13))] 1 none) []
  (.seq (.region 5 [mv 14 0,mv 15 4,o1 16 (bk .add 3 15 1),mv 17 0,o1 18 (.len 37 false (tm 17)),o1 19 (bt .rem 3 16 18),o1 20 (.indexAddr 37 49 2 (tm 14) (tm 19)),o1 21 (ln 49 2 20),o1 6 (.alloc 0 49 [vci 0,vci 0]),o0 (.store 49 2 (tm 6) (tm 21))] 1 none) []
  (.region 6 [mv 22 3,o1 23 (fa 49 5 0 0),o1 24 (lo 3 23),o1 25 (fa 49 6 1 1),o1 26 (lo 3 25),o1 27 (bt .mul 3 24 26),o1 28 (fa 49 6 0 0),o1 29 (lo 3 28),o1 30 (fa 49 5 1 1),o1 31 (lo 3 30),o1 32 (bt .mul 3 29 31),o1 33 (bt .sub 3 27 32),o1 34 (bt .add 3 22 33),o1 3 (sg 34)] 0 none)))) []
 (.region 7 [o1 35 (bk .add 3 9 1),mv 9 35] 0 none))
def A84v2 : AC := (.seq (.region 3 [o1 10 (bt .lss 3 9 8)] 0 none) []
 (.seq (.cond (tm 10)
 .skip
 (.exit 0 (0 :: 1 :: 2 :: (rl 4 33 [])))) []
 A84v1))
def A84v3 : AC := (.seq (.region 8 [mv 36 3,o1 2 (sg 36)] 0 none) []
 (.ret (0 :: 1 :: (rl 3 34 []))))
def A84 : AF := ⟨37,[.tmp 2],
 (.seq (.region 0 [o1 2 (sk 0)] 0 none) []
 (.seq (.region 1 [o1 3 (sk 0)] 0 none) []
 (.seq (.seq (.region 2 [mv 7 0,o1 8 (.len 37 false (tm 7)),o1 9 (.move (ic 0))] 0 none) []
 (.block 0
 (.loop [] (1 :: 2 :: 4 :: 5 :: 6 :: (rl 10 27 []))
  A84v2))) (rl 4 32 [])
 A84v3)))⟩
def B63v1 (C : Oracle) (u : Nat) : St → (Ex → St → Option ρ) → Option ρ := fun st k => evalC C u A84v2 st k
def N63v1 : St → Option St := fun s => s.norm (1 :: 2 :: 4 :: 5 :: 6 :: (rl 10 27 [])) 0
def s63v0 (x0 : Nat) (x1 : FF) (x2 x3 x4 : Int) : St := ⟨(.x (.c (ro kP x0 x1)) :: .u :: .u :: vxi x2 :: (us 3 (.x (.c (ro kP x0 x1)) :: vxi x3 :: vxi x4 :: (us 27 [])))),[]⟩
def s63v1 (x0 : Int) : St := ⟨(us 3 (vxi x0 :: (us 33 []))),[]⟩
def L63v1 {ρ : Type} (u : Nat) (x0 : Nat) (x1 : FF) (x2 : Int) : Nat → Int → Int → (Int → Option ρ) → Option ρ
 | 0,_,_,_ => none
 | m + 1,x3,x4,k0 =>
  (bif (decide (x4 < x2)) then (bif (inb x4 x0) then (bif ((Int.ofNat x0) == 0) then none else (bif (inb (Int.tmod (w64 (x4 + 1)) (Int.ofNat x0)) x0) then (L63v1 u x0 x1 x2 m (w64 (x3 + (w64 ((w64 ((x1 x4.toNat 0).int * (CV.int (x1 (Int.toNat (Int.tmod (w64 (x4 + 1)) (Int.ofNat x0))) 1)))) - (w64 ((CV.int (x1 (Int.toNat (Int.tmod (w64 (x4 + 1)) (Int.ofNat x0))) 0)) * (x1 x4.toNat 1).int)))))) (w64 (x4 + 1)) k0) else none)) else none) else (k0 x3))
theorem nl63v1 {ρ σ : Type} (u : Nat) (x0 : Nat) (x1 : FF) (x2 : Int) (g : ρ → Option σ) : ∀ (m : Nat) (x3 x4 : Int) (k0 : Int → Option ρ),ob (L63v1 u x0 x1 x2 m x3 x4 k0) g = L63v1 u x0 x1 x2 m x3 x4 (fun x5 => ob (k0 x5) g)
 | 0,_,_,_ => rfl
 | m + 1,x3,x4,k0 => by
  simp only [L63v1,ob_bif,ob_ob,ob_none,nl63v1 u x0 x1 x2 g m]
theorem r63v1 (m : Nat) (k : Ex → St → Option ρ) (x0 : Nat) (x1 : FF) (x2 x3 x4 : Int) :
  loopH (B63v1 (C25 u) u) N63v1 (m + 1) (s63v0 x0 x1 x3 x2 x4) k =
  (bif (decide (x4 < x2)) then (bif (inb x4 x0) then (bif ((Int.ofNat x0) == 0) then none else (bif (inb (Int.tmod (w64 (x4 + 1)) (Int.ofNat x0)) x0) then (loopH (B63v1 (C25 u) u) N63v1 m (s63v0 x0 x1 (w64 (x3 + (w64 ((w64 ((x1 x4.toNat 0).int * (CV.int (x1 (Int.toNat (Int.tmod (w64 (x4 + 1)) (Int.ofNat x0))) 1)))) - (w64 ((CV.int (x1 (Int.toNat (Int.tmod (w64 (x4 + 1)) (Int.ofNat x0))) 0)) * (x1 x4.toNat 1).int)))))) x2 (w64 (x4 + 1))) k) else none)) else none) else (k (.exit 0) (s63v1 x3))) := by kernel_rfl
theorem q63v1 (u : Nat) (x0 : Nat) (x1 : FF) (x2 : Int) {ρ : Type} (k : Ex → St → Option ρ) : ∀ (m : Nat) (x3 x4 : Int),
  loopH (B63v1 (C25 u) u) N63v1 m (s63v0 x0 x1 x3 x2 x4) k = L63v1 u x0 x1 x2 m x3 x4 (fun x5 => k (.exit 0) (s63v1 x5))
 | 0,_,_ => rfl
 | m + 1,x3,x4 => by
  rw [r63v1]
  simp only [L63v1,q63v1 u x0 x1 x2 k m]
def D63 (x0 : Nat) (x1 : FF) (k : Int → Option ρ) : Option ρ :=
 (L63v1 u x0 x1 (Int.ofNat x0) u 0 0
  (fun x2 => (k x2)))
def F63 (x0 : Nat) (x1 : FF) : Option (Int) := D63 u x0 x1 some
theorem f63 (x0 : Nat) (x1 : FF) (k : (Int) → Option ρ) : D63 u x0 x1 k = ob (F63 u x0 x1) k := by
 simp only [F63,D63,ob_bif,ob_ob,ob_none,ob_some,nl63v1]
def s63v2 (x0 : Nat) (x1 : FF) : St := ⟨[.x (.c (ro kP x0 x1)),uu,vxi 0,vxi 0,uu,uu,uu,.x (.c (ro kP x0 x1)),vxi (Int.ofNat x0),vxi 0,uu,uu,uu,uu,uu,uu,uu,uu,uu,uu,uu,uu,uu,uu,uu,uu,uu,uu,uu,uu,uu,uu,uu,uu,uu,uu,uu],[]⟩
theorem t63v1 (k : Ex → St → Option ρ) (x0 : Nat) (x1 : FF) :
  loopN (B63v1 (C25 u) u) N63v1 u (s63v2 x0 x1) k =
  L63v1 u x0 x1 (Int.ofNat x0) u 0 0 (fun x2 => k (.exit 0) (s63v1 x2)) :=
 (loopN_at (st' := (s63v0 x0 x1 0 (Int.ofNat x0) 0)) (by kernel_rfl)).trans (q63v1 u x0 x1 (Int.ofNat x0) k u 0 0)
theorem g63v2 (x0 : Int) :
  (kBlk 0 (kSeq (C25 u) u (rl 4 32 []) A84v3 (finish A84))) (.exit 0) (s63v1 x0) =
  (some [.v (vi x0)]) := by kernel_rfl
theorem e63 (x0 : Nat) (x1 : FF) : evalF (C25 u) u A84 [.v (ro kP x0 x1)] = ob (F63 u x0 x1) fun t => some [.v (vi t)] := Eq.trans (b := (loopN (B63v1 (C25 u) u) N63v1 u (s63v2 x0 x1) (kBlk 0 (kSeq (C25 u) u (rl 4 32 []) A84v3 (finish A84))))) (by kernel_rfl) (by
 rw [← f63]
 simp only [D63,t63v1,g63v2])
def O63 : Ora where
 o := fun args {ρ} K =>
  wcL kP args fun y4 y5 l2 =>
  wn l2 <|
  (ob (F63 u y4 y5) fun t => K [.v (vi t)])
 nat := fun args {ρ} K => by
  simp only [bind_wcL,bind_wn,bind_ob,Option.bind_some]
theorem d63 : DO (O63 u) (C25 u) 84 A84 := by
 intro P hmix hC hF args res h
 obtain ⟨a1,y4,y5,l2,rfl,h3,z0⟩ := inv_wcL h
 obtain ⟨hn,z1⟩ := inv_wn z0
 cases hn
 exact Den.weaken (.cons h3 .nil) (evalF_sound hmix hC hF ((e63 u y4 y5).trans z1))
def C26 : Oracle := (C25 u).add 84 (fun _ => true) (O63 100)
def A66v1 : AC := (.seq (.region 9 [o1 2 (sk 0)] 0 none) []
 (.ret (0 :: 1 :: (rl 3 20 []))))
def A66 : AF := ⟨23,[.tmp 2],
 (.seq (.region 0 [o1 2 (sk 0)] 0 none) []
 (.seq (.block 0
 (.seq (.region 1 [mv 4 0,o1 5 (.len 37 false (tm 4)),o1 6 (bk .lss 3 5 3),o1 3 (sg 6)] 0 none) []
  (.cond (tm 3)
  (.seq (.region 2 [o1 2 (sk 3)] 0 none) []
   (.ret (0 :: 1 :: (rl 3 20 []))))
  (.seq (.region 3 [mv 8 0,o1 9 (.len 37 false (tm 8)),o1 10 (bk .gtr 3 9 32),o1 7 (sg 10)] 0 none) []
   (.cond (tm 7)
   (.seq (.region 4 [o1 2 (sk 4)] 0 none) []
    (.ret (0 :: 1 :: (rl 3 20 []))))
   (.seq (.region 5 [mv 12 0,o1 13 (.call 81 [(tm 12),(.func 82)] [37,93] .snap),o1 11 (sg 13)] 0 none) []
    (.cond (tm 11)
    (.seq (.region 6 [o1 2 (sk 9)] 0 none) []
     (.ret (0 :: 1 :: (rl 3 20 []))))
    (.seq (.region 7 [mv 15 0,o1 16 (cs 83 [15] [37]),o1 17 (.unOp .not 4 (tm 16)),mv 18 17,og 19 (.move (tm 0)) 18 false,og 20 (cs 84 [19] [37]) 18 false,og 21 (bk .eql 3 20 0) 18 false,o1 22 (pa 18 21),o1 14 (sg 22)] 0 none) []
     (.cond (tm 14)
     (.seq (.region 8 [o1 2 (sk 17)] 0 none) []
      (.ret (0 :: 1 :: (rl 3 20 []))))
     .skip))))))))) (rl 2 21 [])
 A66v1))⟩
def D33 (u : Nat) (x0 : Nat) (x1 : FF) (k : Int → Option ρ) : Option ρ :=
 (bif (decide ((Int.ofNat x0) < 3)) then (k 3) else (bif (decide ((Int.ofNat x0) > 32)) then (k 4) else (ob (F50 100 x0 x1) fun x2 => (bif x2 then (k 9) else (ob (F62 100 x0 x1) fun x3 => (bif ((!x3) == false) then (ob (F63 100 x0 x1) fun x4 => (bif (x4 == 0) then (k 17) else (k 0))) else (k 17)))))))
def F33 (x0 : Nat) (x1 : FF) : Option (Int) := D33 u x0 x1 some
theorem f33 (x0 : Nat) (x1 : FF) (k : (Int) → Option ρ) : D33 u x0 x1 k = ob (F33 u x0 x1) k := by
 simp only [F33,D33,ob_bif,ob_ob,ob_none,ob_some]
theorem e33 (x0 : Nat) (x1 : FF) : evalF (C26 u) u A66 [.v (ro kP x0 x1)] = ob (F33 u x0 x1) fun t => some [.v (vi t)] := Eq.trans (b := (bif (decide ((Int.ofNat x0) < 3)) then (some [.v (vi 3)]) else (bif (decide ((Int.ofNat x0) > 32)) then (some [.v (vi 4)]) else (ob (F50 100 x0 x1) fun x2 => (bif x2 then (some [.v (vi 9)]) else (ob (F62 100 x0 x1) fun x3 => (bif ((!x3) == false) then (ob (F63 100 x0 x1) fun x4 => (bif (x4 == 0) then (some [.v (vi 17)]) else (some [.v (vi 0)]))) else (some [.v (vi 17)])))))))) (by kernel_rfl) (by
 rw [← f33]
 simp only [D33])
def O33 : Ora where
 o := fun args {ρ} K =>
  wcL kP args fun y4 y5 l2 =>
  wn l2 <|
  (ob (F33 u y4 y5) fun t => K [.v (vi t)])
 nat := fun args {ρ} K => by
  simp only [bind_wcL,bind_wn,bind_ob,Option.bind_some]
theorem d33 : DO (O33 u) (C26 u) 66 A66 := by
 intro P hmix hC hF args res h
 obtain ⟨a1,y4,y5,l2,rfl,h3,z0⟩ := inv_wcL h
 obtain ⟨hn,z1⟩ := inv_wn z0
 cases hn
 exact Den.weaken (.cons h3 .nil) (evalF_sound hmix hC hF ((e33 u y4 y5).trans z1))
def C27 : Oracle := (C26 u).add 66 (fun _ => true) (O33 100)
def A67v1 : AC := (.seq (.region 3 [mv 6 0,o1 7 (cs 84 [6] [37]),o1 2 (sg 7)] 0 none) []
 (.ret (0 :: 1 :: (rl 3 5 []))))
def A67 : AF := ⟨8,[.tmp 2],
 (.seq (.region 0 [o1 2 (sk 0)] 0 none) []
 (.seq (.seq (.region 1 [mv 3 0,o1 4 (cs 66 [3] [37]),o1 5 (bk .neq 73 4 0)] 0 none) []
 (.cond (tm 5)
 (.seq (.region 2 [o1 2 (sk 0)] 0 none) []
  (.ret (0 :: 1 :: (rl 3 5 []))))
 .skip)) (rl 2 4 [])
 A67v1))⟩
def D34 (u : Nat) (x0 : Nat) (x1 : FF) (k : Int → Option ρ) : Option ρ :=
 (ob (F33 100 x0 x1) fun x2 => (bif (x2 != 0) then (k 0) else (ob (F63 100 x0 x1) fun x3 => (k x3))))
def F34 (x0 : Nat) (x1 : FF) : Option (Int) := D34 u x0 x1 some
theorem f34 (x0 : Nat) (x1 : FF) (k : (Int) → Option ρ) : D34 u x0 x1 k = ob (F34 u x0 x1) k := by
 simp only [F34,D34,ob_bif,ob_ob,ob_none,ob_some]
theorem e34 (x0 : Nat) (x1 : FF) : evalF (C27 u) u A67 [.v (ro kP x0 x1)] = ob (F34 u x0 x1) fun t => some [.v (vi t)] := Eq.trans (b := (ob (F33 100 x0 x1) fun x2 => (bif (x2 != 0) then (some [.v (vi 0)]) else (ob (F63 100 x0 x1) fun x3 => (some [.v (vi x3)]))))) (by kernel_rfl) (by
 rw [← f34]
 simp only [D34])
def O34 : Ora where
 o := fun args {ρ} K =>
  wcL kP args fun y4 y5 l2 =>
  wn l2 <|
  (ob (F34 u y4 y5) fun t => K [.v (vi t)])
 nat := fun args {ρ} K => by
  simp only [bind_wcL,bind_wn,bind_ob,Option.bind_some]
theorem d34 : DO (O34 u) (C27 u) 67 A67 := by
 intro P hmix hC hF args res h
 obtain ⟨a1,y4,y5,l2,rfl,h3,z0⟩ := inv_wcL h
 obtain ⟨hn,z1⟩ := inv_wn z0
 cases hn
 exact Den.weaken (.cons h3 .nil) (evalF_sound hmix hC hF ((e34 u y4 y5).trans z1))
def C28 : Oracle := (C27 u).add 67 (fun _ => true) (O34 100)
def A96 : AF := ⟨30,[.tmp 6],
 (.seq (.region 0 [o1 3 (bx 0 49 0),o1 4 (bx 1 49 1),o1 5 (bx 2 49 2),o1 6 (sk 0)] 3 none) []
 (.seq (.region 1 [o1 7 (fa 49 4 0 0),o1 8 (lo 3 7),o1 9 (fa 49 3 0 0),o1 10 (lo 3 9),o1 11 (bt .sub 3 8 10),o1 12 (fa 49 5 1 1),o1 13 (lo 3 12),o1 14 (fa 49 3 1 1),o1 15 (lo 3 14),o1 16 (bt .sub 3 13 15),o1 17 (bt .mul 3 11 16),o1 18 (fa 49 4 1 1),o1 19 (lo 3 18),o1 20 (fa 49 3 1 1),o1 21 (lo 3 20),o1 22 (bt .sub 3 19 21),o1 23 (fa 49 5 0 0),o1 24 (lo 3 23),o1 25 (fa 49 3 0 0),o1 26 (lo 3 25),o1 27 (bt .sub 3 24 26),o1 28 (bt .mul 3 22 27),o1 29 (bt .sub 3 17 28),o1 6 (sg 29)] 0 none) []
 (.ret (rl 0 6 (rl 7 23 [])))))⟩
def D75 (u : Nat) (x0 x1 x2 x3 x4 x5 : Int) (k : Int → Option ρ) : Option ρ :=
 (k (w64 ((w64 ((w64 (x2 - x0)) * (w64 (x5 - x1)))) - (w64 ((w64 (x3 - x1)) * (w64 (x4 - x0)))))))
def F75 (x0 x1 x2 x3 x4 x5 : Int) : Option (Int) := D75 u x0 x1 x2 x3 x4 x5 some
theorem f75 (x0 x1 x2 x3 x4 x5 : Int) (k : (Int) → Option ρ) : D75 u x0 x1 x2 x3 x4 x5 k = ob (F75 u x0 x1 x2 x3 x4 x5) k := by
 simp only [F75,D75,ob_bif,ob_ob,ob_none,ob_some]
theorem e75 (x0 x1 x2 x3 x4 x5 : Int) : evalF (C28 u) u A96 [.agg [(vi x0),(vi x1)],.agg [(vi x2),(vi x3)],.agg [(vi x4),(vi x5)]] = ob (F75 u x0 x1 x2 x3 x4 x5) fun t => some [.v (vi t)] := Eq.trans (b := (some [.v (vi (w64 ((w64 ((w64 (x2 - x0)) * (w64 (x5 - x1)))) - (w64 ((w64 (x3 - x1)) * (w64 (x4 - x0)))))))])) (by kernel_rfl) (by
 rw [← f75]
 simp only [D75])
def O75 : Ora where
 o := fun args {ρ} K =>
  wc args fun a1 l2 =>
  wagg a1 fun l3 =>
  wdI .i64 l3 fun y7 l5 =>
  wdI .i64 l5 fun y11 l9 =>
  wn l9 <|
  wc l2 fun a12 l13 =>
  wagg a12 fun l14 =>
  wdI .i64 l14 fun y18 l16 =>
  wdI .i64 l16 fun y22 l20 =>
  wn l20 <|
  wc l13 fun a23 l24 =>
  wagg a23 fun l25 =>
  wdI .i64 l25 fun y29 l27 =>
  wdI .i64 l27 fun y33 l31 =>
  wn l31 <|
  wn l24 <|
  (ob (F75 u y7 y11 y18 y22 y29 y33) fun t => K [.v (vi t)])
 nat := fun args {ρ} K => by
  simp only [bind_wagg,bind_wc,bind_wdI,bind_wn,bind_ob,Option.bind_some]
theorem d75 : DO (O75 u) (C28 u) 96 A96 := by
 intro P hmix hC hF args res h
 obtain ⟨a1,l2,rfl,z0⟩ := inv_wc h
 obtain ⟨l3,rfl,z1⟩ := inv_wagg z0
 obtain ⟨a4,y7,l5,rfl,h6,z2⟩ := inv_wdI z1
 obtain ⟨a8,y11,l9,rfl,h10,z3⟩ := inv_wdI z2
 obtain ⟨hn,z4⟩ := inv_wn z3
 cases hn
 obtain ⟨a12,l13,rfl,z5⟩ := inv_wc z4
 obtain ⟨l14,rfl,z6⟩ := inv_wagg z5
 obtain ⟨a15,y18,l16,rfl,h17,z7⟩ := inv_wdI z6
 obtain ⟨a19,y22,l20,rfl,h21,z8⟩ := inv_wdI z7
 obtain ⟨hn,z9⟩ := inv_wn z8
 cases hn
 obtain ⟨a23,l24,rfl,z10⟩ := inv_wc z9
 obtain ⟨l25,rfl,z11⟩ := inv_wagg z10
 obtain ⟨a26,y29,l27,rfl,h28,z12⟩ := inv_wdI z11
 obtain ⟨a30,y33,l31,rfl,h32,z13⟩ := inv_wdI z12
 obtain ⟨hn,z14⟩ := inv_wn z13
 cases hn
 obtain ⟨hn,z15⟩ := inv_wn z14
 cases hn
 exact Den.weaken (.cons (WkA.agg (.cons h6 (.cons h10 .nil))) (.cons (WkA.agg (.cons h17 (.cons h21 .nil))) (.cons (WkA.agg (.cons h28 (.cons h32 .nil))) .nil))) (evalF_sound hmix hC hF ((e75 u y7 y11 y18 y22 y29 y33).trans z15))
def C29 : Oracle := (C28 u).add 96 (fun _ => true) (O75 100)
def A95 : AF := ⟨6,[.tmp 2],
 (.seq (.region 0 [o1 2 (sk 0)] 0 none) []
 (.seq (.region 1 [mv 3 0,o1 4 (.mm true [(tm 3),(ic (-1))] [3,3]),o1 5 (.mm false [(tm 4),(ic 1)] [3,3]),o1 2 (sg 5)] 0 none) []
 (.ret [0,1,3,4,5])))⟩
def D74 (u : Nat) (x0 : Int) (k : Int → Option ρ) : Option ρ :=
 (k (if 1 < (if (-1) > x0 then (-1) else x0) then 1 else (if (-1) > x0 then (-1) else x0)))
def F74 (x0 : Int) : Option (Int) := D74 u x0 some
theorem f74 (x0 : Int) (k : (Int) → Option ρ) : D74 u x0 k = ob (F74 u x0) k := by
 simp only [F74,D74,ob_bif,ob_ob,ob_none,ob_some]
theorem e74 (x0 : Int) : evalF (C29 u) u A95 [.v (vi x0)] = ob (F74 u x0) fun t => some [.v (vi t)] := Eq.trans (b := (some [.v (vi (if 1 < (if (-1) > x0 then (-1) else x0) then 1 else (if (-1) > x0 then (-1) else x0)))])) (by kernel_rfl) (by
 rw [← f74]
 simp only [D74])
def O74 : Ora where
 o := fun args {ρ} K =>
  wcI .i64 args fun y4 l2 =>
  wn l2 <|
  (ob (F74 u y4) fun t => K [.v (vi t)])
 nat := fun args {ρ} K => by
  simp only [bind_wcI,bind_wn,bind_ob,Option.bind_some]
theorem d74 : DO (O74 u) (C29 u) 95 A95 := by
 intro P hmix hC hF args res h
 obtain ⟨a1,y4,l2,rfl,h3,z0⟩ := inv_wcI h
 obtain ⟨hn,z1⟩ := inv_wn z0
 cases hn
 exact Den.weaken (.cons h3 .nil) (evalF_sound hmix hC hF ((e74 u y4).trans z1))
def C30 : Oracle := (C29 u).add 95 (fun _ => true) (O74 100)
def A97 : AF := ⟨45,[.tmp 6],
 (.seq (.region 0 [o1 3 (bx 0 49 0),o1 4 (bx 1 49 1),o1 5 (bx 2 49 2),o1 6 (sb false)] 3 none) []
 (.seq (.region 1 [o1 7 (fa 49 5 0 0),o1 8 (lo 3 7),o1 9 (fa 49 3 0 0),o1 10 (lo 3 9),o1 11 (fa 49 4 0 0),o1 12 (lo 3 11),o1 13 (.mm false [(tm 10),(tm 12)] [3,3]),o1 14 (bt .geq 3 8 13),mv 15 14,og 16 (fa 49 5 0 0) 15 true,og 17 (lo 3 16) 15 true,og 18 (fa 49 3 0 0) 15 true,og 19 (lo 3 18) 15 true,og 20 (fa 49 4 0 0) 15 true,og 21 (lo 3 20) 15 true,og 22 (.mm true [(tm 19),(tm 21)] [3,3]) 15 true,og 23 (bt .leq 3 17 22) 15 true,o1 24 (po 15 23),mv 25 24,og 26 (fa 49 5 1 1) 25 true,og 27 (lo 3 26) 25 true,og 28 (fa 49 3 1 1) 25 true,og 29 (lo 3 28) 25 true,og 30 (fa 49 4 1 1) 25 true,og 31 (lo 3 30) 25 true,og 32 (.mm false [(tm 29),(tm 31)] [3,3]) 25 true,og 33 (bt .geq 3 27 32) 25 true,o1 34 (po 25 33),mv 35 34,og 36 (fa 49 5 1 1) 35 true,og 37 (lo 3 36) 35 true,og 38 (fa 49 3 1 1) 35 true,og 39 (lo 3 38) 35 true,og 40 (fa 49 4 1 1) 35 true,og 41 (lo 3 40) 35 true,og 42 (.mm true [(tm 39),(tm 41)] [3,3]) 35 true,og 43 (bt .leq 3 37 42) 35 true,o1 44 (po 35 43),o1 6 (sg 44)] 0 none) []
 (.ret (rl 0 6 (rl 7 38 [])))))⟩
def D76 (u : Nat) (x0 x1 x2 x3 x4 x5 : Int) (k : Bool → Option ρ) : Option ρ :=
 (bif ((decide (x4 ≥ (if x2 < x0 then x2 else x0))) == true) then (bif ((decide (x4 ≤ (if x2 > x0 then x2 else x0))) == true) then (bif ((decide (x5 ≥ (if x3 < x1 then x3 else x1))) == true) then (k (decide (x5 ≤ (if x3 > x1 then x3 else x1)))) else (k false)) else (k false)) else (k false))
def F76 (x0 x1 x2 x3 x4 x5 : Int) : Option (Bool) := D76 u x0 x1 x2 x3 x4 x5 some
theorem f76 (x0 x1 x2 x3 x4 x5 : Int) (k : (Bool) → Option ρ) : D76 u x0 x1 x2 x3 x4 x5 k = ob (F76 u x0 x1 x2 x3 x4 x5) k := by
 simp only [F76,D76,ob_bif,ob_ob,ob_none,ob_some]
theorem e76 (x0 x1 x2 x3 x4 x5 : Int) : evalF (C30 u) u A97 [.agg [(vi x0),(vi x1)],.agg [(vi x2),(vi x3)],.agg [(vi x4),(vi x5)]] = ob (F76 u x0 x1 x2 x3 x4 x5) fun t => some [.v (.b t)] := Eq.trans (b := (bif ((decide (x4 ≥ (if x2 < x0 then x2 else x0))) == true) then (bif ((decide (x4 ≤ (if x2 > x0 then x2 else x0))) == true) then (bif ((decide (x5 ≥ (if x3 < x1 then x3 else x1))) == true) then (some [.v (.b (decide (x5 ≤ (if x3 > x1 then x3 else x1))))]) else (some [.v (.b false)])) else (some [.v (.b false)])) else (some [.v (.b false)]))) (by kernel_rfl) (by
 rw [← f76]
 simp only [D76])
def O76 : Ora where
 o := fun args {ρ} K =>
  wc args fun a1 l2 =>
  wagg a1 fun l3 =>
  wdI .i64 l3 fun y7 l5 =>
  wdI .i64 l5 fun y11 l9 =>
  wn l9 <|
  wc l2 fun a12 l13 =>
  wagg a12 fun l14 =>
  wdI .i64 l14 fun y18 l16 =>
  wdI .i64 l16 fun y22 l20 =>
  wn l20 <|
  wc l13 fun a23 l24 =>
  wagg a23 fun l25 =>
  wdI .i64 l25 fun y29 l27 =>
  wdI .i64 l27 fun y33 l31 =>
  wn l31 <|
  wn l24 <|
  (ob (F76 u y7 y11 y18 y22 y29 y33) fun t => K [.v (.b t)])
 nat := fun args {ρ} K => by
  simp only [bind_wagg,bind_wc,bind_wdI,bind_wn,bind_ob,Option.bind_some]
theorem d76 : DO (O76 u) (C30 u) 97 A97 := by
 intro P hmix hC hF args res h
 obtain ⟨a1,l2,rfl,z0⟩ := inv_wc h
 obtain ⟨l3,rfl,z1⟩ := inv_wagg z0
 obtain ⟨a4,y7,l5,rfl,h6,z2⟩ := inv_wdI z1
 obtain ⟨a8,y11,l9,rfl,h10,z3⟩ := inv_wdI z2
 obtain ⟨hn,z4⟩ := inv_wn z3
 cases hn
 obtain ⟨a12,l13,rfl,z5⟩ := inv_wc z4
 obtain ⟨l14,rfl,z6⟩ := inv_wagg z5
 obtain ⟨a15,y18,l16,rfl,h17,z7⟩ := inv_wdI z6
 obtain ⟨a19,y22,l20,rfl,h21,z8⟩ := inv_wdI z7
 obtain ⟨hn,z9⟩ := inv_wn z8
 cases hn
 obtain ⟨a23,l24,rfl,z10⟩ := inv_wc z9
 obtain ⟨l25,rfl,z11⟩ := inv_wagg z10
 obtain ⟨a26,y29,l27,rfl,h28,z12⟩ := inv_wdI z11
 obtain ⟨a30,y33,l31,rfl,h32,z13⟩ := inv_wdI z12
 obtain ⟨hn,z14⟩ := inv_wn z13
 cases hn
 obtain ⟨hn,z15⟩ := inv_wn z14
 cases hn
 exact Den.weaken (.cons (WkA.agg (.cons h6 (.cons h10 .nil))) (.cons (WkA.agg (.cons h17 (.cons h21 .nil))) (.cons (WkA.agg (.cons h28 (.cons h32 .nil))) .nil))) (evalF_sound hmix hC hF ((e76 u y7 y11 y18 y22 y29 y33).trans z15))
def C31 : Oracle := (C30 u).add 97 (fun _ => true) (O76 100)
def A86v1 : AC := (.seq (.region 5 [mv 43 9,o1 44 (bk .eql 3 43 0),mv 45 44,og 46 (ln 49 2 4) 45 true,og 47 (ln 49 2 5) 45 true,og 48 (ln 49 2 6) 45 true,og 49 (cs 97 [46,47,48] [49,49,49]) 45 true,o1 50 (po 45 49),mv 51 50,og 52 (.move (tm 10)) 51 false,og 53 (bk .eql 3 52 0) 51 false,og 54 (.move (tm 53)) 51 false,og 55 (ln 49 2 4) 54 true,og 56 (ln 49 2 5) 54 true,og 57 (ln 49 2 7) 54 true,og 58 (cs 97 [55,56,57] [49,49,49]) 54 true,og 59 (po 54 58) 51 false,o1 60 (pa 51 59),mv 61 60,og 62 (.move (tm 11)) 61 false,og 63 (bk .eql 3 62 0) 61 false,og 64 (.move (tm 63)) 61 false,og 65 (ln 49 2 6) 64 true,og 66 (ln 49 2 7) 64 true,og 67 (ln 49 2 4) 64 true,og 68 (cs 97 [65,66,67] [49,49,49]) 64 true,og 69 (po 64 68) 61 false,o1 70 (pa 61 69),mv 71 70,og 72 (.move (tm 12)) 71 false,og 73 (bk .eql 3 72 0) 71 false,og 74 (.move (tm 73)) 71 false,og 75 (ln 49 2 6) 74 true,og 76 (ln 49 2 7) 74 true,og 77 (ln 49 2 5) 74 true,og 78 (cs 97 [75,76,77] [49,49,49]) 74 true,og 79 (po 74 78) 71 false,o1 80 (pa 71 79),o1 8 (sg 80)] 0 none) []
 (.ret (rl 0 8 (rl 9 72 []))))
def A86 : AF := ⟨81,[.tmp 8],
 (.seq (.region 0 [o1 4 (bx 0 49 0),o1 5 (bx 1 49 1),o1 6 (bx 2 49 2),o1 7 (bx 3 49 3),o1 8 (sb false)] 4 none) []
 (.seq (.region 1 [o1 13 (ln 49 2 4),o1 14 (ln 49 2 5),o1 15 (ln 49 2 6),o1 16 (cs 96 [13,14,15] [49,49,49]),o1 17 (cs 95 [16] [3]),o1 18 (ln 49 2 4),o1 19 (ln 49 2 5),o1 20 (ln 49 2 7),o1 21 (cs 96 [18,19,20] [49,49,49]),o1 22 (cs 95 [21] [3]),o1 9 (sg 17),o1 10 (sg 22)] 0 (some [[],[],[],[0,1,2],(rl 0 4 []),[],[],[],(rl 0 8 []),(rl 0 9 []),(rl 0 10 []),(rl 0 11 [])])) []
 (.seq (.region 2 [o1 23 (ln 49 2 6),o1 24 (ln 49 2 7),o1 25 (ln 49 2 4),o1 26 (cs 96 [23,24,25] [49,49,49]),o1 27 (cs 95 [26] [3]),o1 28 (ln 49 2 6),o1 29 (ln 49 2 7),o1 30 (ln 49 2 5),o1 31 (cs 96 [28,29,30] [49,49,49]),o1 32 (cs 95 [31] [3]),o1 11 (sg 27),o1 12 (sg 32)] 0 (some [[],[],[],[0,1,2],(rl 0 4 []),[],[],[],(rl 0 8 []),(rl 0 9 []),(rl 0 10 []),(rl 0 11 [])])) []
 (.seq (.seq (.region 3 [mv 33 9,mv 34 10,o1 35 (bt .mul 3 33 34),o1 36 (bk .lss 3 35 0),mv 37 36,og 38 (.move (tm 11)) 37 true,og 39 (.move (tm 12)) 37 true,og 40 (bt .mul 3 38 39) 37 true,og 41 (bk .lss 3 40 0) 37 true,o1 42 (po 37 41)] 0 none) []
 (.cond (tm 42)
 (.seq (.region 4 [o1 8 (sb true)] 0 none) []
  (.ret (rl 0 8 (rl 9 72 []))))
 .skip)) (8 :: (rl 33 10 []))
 A86v1))))⟩
def D56 (u : Nat) (x0 x1 x2 x3 x4 x5 x6 x7 : Int) (k : Bool → Option ρ) : Option ρ :=
 (ob (F75 100 x0 x1 x2 x3 x4 x5) fun x8 => (ob (F74 100 x8) fun x9 => (ob (F75 100 x0 x1 x2 x3 x6 x7) fun xA => (ob (F74 100 xA) fun xB => (ob (F75 100 x4 x5 x6 x7 x0 x1) fun xC => (ob (F74 100 xC) fun xD => (ob (F75 100 x4 x5 x6 x7 x2 x3) fun xE => (ob (F74 100 xE) fun xF => (bif ((decide ((w64 (x9 * xB)) < 0)) == true) then (bif (decide ((w64 (xD * xF)) < 0)) then (k true) else (bif ((x9 == 0) == true) then (ob (F76 100 x0 x1 x2 x3 x4 x5) fun xG => (bif (xG == false) then (bif ((xB == 0) == true) then (ob (F76 100 x0 x1 x2 x3 x6 x7) fun xH => (bif (xH == false) then (bif ((xD == 0) == true) then (ob (F76 100 x4 x5 x6 x7 x0 x1) fun xI => (bif (xI == false) then (bif ((xF == 0) == true) then (ob (F76 100 x4 x5 x6 x7 x2 x3) fun xJ => (k xJ)) else (k false)) else (k true))) else (bif ((xF == 0) == true) then (ob (F76 100 x4 x5 x6 x7 x2 x3) fun xK => (k xK)) else (k false))) else (k true))) else (bif ((xD == 0) == true) then (ob (F76 100 x4 x5 x6 x7 x0 x1) fun xL => (bif (xL == false) then (bif ((xF == 0) == true) then (ob (F76 100 x4 x5 x6 x7 x2 x3) fun xM => (k xM)) else (k false)) else (k true))) else (bif ((xF == 0) == true) then (ob (F76 100 x4 x5 x6 x7 x2 x3) fun xN => (k xN)) else (k false)))) else (k true))) else (bif ((xB == 0) == true) then (ob (F76 100 x0 x1 x2 x3 x6 x7) fun xO => (bif (xO == false) then (bif ((xD == 0) == true) then (ob (F76 100 x4 x5 x6 x7 x0 x1) fun xP => (bif (xP == false) then (bif ((xF == 0) == true) then (ob (F76 100 x4 x5 x6 x7 x2 x3) fun xQ => (k xQ)) else (k false)) else (k true))) else (bif ((xF == 0) == true) then (ob (F76 100 x4 x5 x6 x7 x2 x3) fun xR => (k xR)) else (k false))) else (k true))) else (bif ((xD == 0) == true) then (ob (F76 100 x4 x5 x6 x7 x0 x1) fun xS => (bif (xS == false) then (bif ((xF == 0) == true) then (ob (F76 100 x4 x5 x6 x7 x2 x3) fun xT => (k xT)) else (k false)) else (k true))) else (bif ((xF == 0) == true) then (ob (F76 100 x4 x5 x6 x7 x2 x3) fun xU => (k xU)) else (k false)))))) else (bif ((x9 == 0) == true) then (ob (F76 100 x0 x1 x2 x3 x4 x5) fun xV => (bif (xV == false) then (bif ((xB == 0) == true) then (ob (F76 100 x0 x1 x2 x3 x6 x7) fun xW => (bif (xW == false) then (bif ((xD == 0) == true) then (ob (F76 100 x4 x5 x6 x7 x0 x1) fun xX => (bif (xX == false) then (bif ((xF == 0) == true) then (ob (F76 100 x4 x5 x6 x7 x2 x3) fun xY => (k xY)) else (k false)) else (k true))) else (bif ((xF == 0) == true) then (ob (F76 100 x4 x5 x6 x7 x2 x3) fun xZ => (k xZ)) else (k false))) else (k true))) else (bif ((xD == 0) == true) then (ob (F76 100 x4 x5 x6 x7 x0 x1) fun xa => (bif (xa == false) then (bif ((xF == 0) == true) then (ob (F76 100 x4 x5 x6 x7 x2 x3) fun xb => (k xb)) else (k false)) else (k true))) else (bif ((xF == 0) == true) then (ob (F76 100 x4 x5 x6 x7 x2 x3) fun xc => (k xc)) else (k false)))) else (k true))) else (bif ((xB == 0) == true) then (ob (F76 100 x0 x1 x2 x3 x6 x7) fun xd => (bif (xd == false) then (bif ((xD == 0) == true) then (ob (F76 100 x4 x5 x6 x7 x0 x1) fun xe => (bif (xe == false) then (bif ((xF == 0) == true) then (ob (F76 100 x4 x5 x6 x7 x2 x3) fun xf => (k xf)) else (k false)) else (k true))) else (bif ((xF == 0) == true) then (ob (F76 100 x4 x5 x6 x7 x2 x3) fun xg => (k xg)) else (k false))) else (k true))) else (bif ((xD == 0) == true) then (ob (F76 100 x4 x5 x6 x7 x0 x1) fun xh => (bif (xh == false) then (bif ((xF == 0) == true) then (ob (F76 100 x4 x5 x6 x7 x2 x3) fun xi => (k xi)) else (k false)) else (k true))) else (bif ((xF == 0) == true) then (ob (F76 100 x4 x5 x6 x7 x2 x3) fun xj => (k xj)) else (k false))))))))))))))
def F56 (x0 x1 x2 x3 x4 x5 x6 x7 : Int) : Option (Bool) := D56 u x0 x1 x2 x3 x4 x5 x6 x7 some
theorem f56 (x0 x1 x2 x3 x4 x5 x6 x7 : Int) (k : (Bool) → Option ρ) : D56 u x0 x1 x2 x3 x4 x5 x6 x7 k = ob (F56 u x0 x1 x2 x3 x4 x5 x6 x7) k := by
 simp only [F56,D56,ob_bif,ob_ob,ob_none,ob_some]
theorem e56 (x0 x1 x2 x3 x4 x5 x6 x7 : Int) : evalF (C31 u) u A86 [.agg [(vi x0),(vi x1)],.agg [(vi x2),(vi x3)],.agg [(vi x4),(vi x5)],.agg [(vi x6),(vi x7)]] = ob (F56 u x0 x1 x2 x3 x4 x5 x6 x7) fun t => some [.v (.b t)] := Eq.trans (b := (ob (F75 100 x0 x1 x2 x3 x4 x5) fun x8 => (ob (F74 100 x8) fun x9 => (ob (F75 100 x0 x1 x2 x3 x6 x7) fun xA => (ob (F74 100 xA) fun xB => (ob (F75 100 x4 x5 x6 x7 x0 x1) fun xC => (ob (F74 100 xC) fun xD => (ob (F75 100 x4 x5 x6 x7 x2 x3) fun xE => (ob (F74 100 xE) fun xF => (bif ((decide ((w64 (x9 * xB)) < 0)) == true) then (bif (decide ((w64 (xD * xF)) < 0)) then (some [.v (.b true)]) else (bif ((x9 == 0) == true) then (ob (F76 100 x0 x1 x2 x3 x4 x5) fun xG => (bif (xG == false) then (bif ((xB == 0) == true) then (ob (F76 100 x0 x1 x2 x3 x6 x7) fun xH => (bif (xH == false) then (bif ((xD == 0) == true) then (ob (F76 100 x4 x5 x6 x7 x0 x1) fun xI => (bif (xI == false) then (bif ((xF == 0) == true) then (ob (F76 100 x4 x5 x6 x7 x2 x3) fun xJ => (some [.v (.b xJ)])) else (some [.v (.b false)])) else (some [.v (.b true)]))) else (bif ((xF == 0) == true) then (ob (F76 100 x4 x5 x6 x7 x2 x3) fun xK => (some [.v (.b xK)])) else (some [.v (.b false)]))) else (some [.v (.b true)]))) else (bif ((xD == 0) == true) then (ob (F76 100 x4 x5 x6 x7 x0 x1) fun xL => (bif (xL == false) then (bif ((xF == 0) == true) then (ob (F76 100 x4 x5 x6 x7 x2 x3) fun xM => (some [.v (.b xM)])) else (some [.v (.b false)])) else (some [.v (.b true)]))) else (bif ((xF == 0) == true) then (ob (F76 100 x4 x5 x6 x7 x2 x3) fun xN => (some [.v (.b xN)])) else (some [.v (.b false)])))) else (some [.v (.b true)]))) else (bif ((xB == 0) == true) then (ob (F76 100 x0 x1 x2 x3 x6 x7) fun xO => (bif (xO == false) then (bif ((xD == 0) == true) then (ob (F76 100 x4 x5 x6 x7 x0 x1) fun xP => (bif (xP == false) then (bif ((xF == 0) == true) then (ob (F76 100 x4 x5 x6 x7 x2 x3) fun xQ => (some [.v (.b xQ)])) else (some [.v (.b false)])) else (some [.v (.b true)]))) else (bif ((xF == 0) == true) then (ob (F76 100 x4 x5 x6 x7 x2 x3) fun xR => (some [.v (.b xR)])) else (some [.v (.b false)]))) else (some [.v (.b true)]))) else (bif ((xD == 0) == true) then (ob (F76 100 x4 x5 x6 x7 x0 x1) fun xS => (bif (xS == false) then (bif ((xF == 0) == true) then (ob (F76 100 x4 x5 x6 x7 x2 x3) fun xT => (some [.v (.b xT)])) else (some [.v (.b false)])) else (some [.v (.b true)]))) else (bif ((xF == 0) == true) then (ob (F76 100 x4 x5 x6 x7 x2 x3) fun xU => (some [.v (.b xU)])) else (some [.v (.b false)])))))) else (bif ((x9 == 0) == true) then (ob (F76 100 x0 x1 x2 x3 x4 x5) fun xV => (bif (xV == false) then (bif ((xB == 0) == true) then (ob (F76 100 x0 x1 x2 x3 x6 x7) fun xW => (bif (xW == false) then (bif ((xD == 0) == true) then (ob (F76 100 x4 x5 x6 x7 x0 x1) fun xX => (bif (xX == false) then (bif ((xF == 0) == true) then (ob (F76 100 x4 x5 x6 x7 x2 x3) fun xY => (some [.v (.b xY)])) else (some [.v (.b false)])) else (some [.v (.b true)]))) else (bif ((xF == 0) == true) then (ob (F76 100 x4 x5 x6 x7 x2 x3) fun xZ => (some [.v (.b xZ)])) else (some [.v (.b false)]))) else (some [.v (.b true)]))) else (bif ((xD == 0) == true) then (ob (F76 100 x4 x5 x6 x7 x0 x1) fun xa => (bif (xa == false) then (bif ((xF == 0) == true) then (ob (F76 100 x4 x5 x6 x7 x2 x3) fun xb => (some [.v (.b xb)])) else (some [.v (.b false)])) else (some [.v (.b true)]))) else (bif ((xF == 0) == true) then (ob (F76 100 x4 x5 x6 x7 x2 x3) fun xc => (some [.v (.b xc)])) else (some [.v (.b false)])))) else (some [.v (.b true)]))) else (bif ((xB == 0) == true) then (ob (F76 100 x0 x1 x2 x3 x6 x7) fun xd => (bif (xd == false) then (bif ((xD == 0) == true) then (ob (F76 100 x4 x5 x6 x7 x0 x1) fun xe => (bif (xe == false) then (bif ((xF == 0) == true) then (ob (F76 100 x4 x5 x6 x7 x2 x3) fun xf => (some [.v (.b xf)])) else (some [.v (.b false)])) else (some [.v (.b true)]))) else (bif ((xF == 0) == true) then (ob (F76 100 x4 x5 x6 x7 x2 x3) fun xg => (some [.v (.b xg)])) else (some [.v (.b false)]))) else (some [.v (.b true)]))) else (bif ((xD == 0) == true) then (ob (F76 100 x4 x5 x6 x7 x0 x1) fun xh => (bif (xh == false) then (bif ((xF == 0) == true) then (ob (F76 100 x4 x5 x6 x7 x2 x3) fun xi => (some [.v (.b xi)])) else (some [.v (.b false)])) else (some [.v (.b true)]))) else (bif ((xF == 0) == true) then (ob (F76 100 x4 x5 x6 x7 x2 x3) fun xj => (some [.v (.b xj)])) else (some [.v (.b false)]))))))))))))))) (by kernel_rfl) (by
 rw [← f56]
 simp only [D56])
def O56 : Ora where
 o := fun args {ρ} K =>
  wc args fun a1 l2 =>
  wagg a1 fun l3 =>
  wdI .i64 l3 fun y7 l5 =>
  wdI .i64 l5 fun y11 l9 =>
  wn l9 <|
  wc l2 fun a12 l13 =>
  wagg a12 fun l14 =>
  wdI .i64 l14 fun y18 l16 =>
  wdI .i64 l16 fun y22 l20 =>
  wn l20 <|
  wc l13 fun a23 l24 =>
  wagg a23 fun l25 =>
  wdI .i64 l25 fun y29 l27 =>
  wdI .i64 l27 fun y33 l31 =>
  wn l31 <|
  wc l24 fun a34 l35 =>
  wagg a34 fun l36 =>
  wdI .i64 l36 fun y40 l38 =>
  wdI .i64 l38 fun y44 l42 =>
  wn l42 <|
  wn l35 <|
  (ob (F56 u y7 y11 y18 y22 y29 y33 y40 y44) fun t => K [.v (.b t)])
 nat := fun args {ρ} K => by
  simp only [bind_wagg,bind_wc,bind_wdI,bind_wn,bind_ob,Option.bind_some]
theorem d56 : DO (O56 u) (C31 u) 86 A86 := by
 intro P hmix hC hF args res h
 obtain ⟨a1,l2,rfl,z0⟩ := inv_wc h
 obtain ⟨l3,rfl,z1⟩ := inv_wagg z0
 obtain ⟨a4,y7,l5,rfl,h6,z2⟩ := inv_wdI z1
 obtain ⟨a8,y11,l9,rfl,h10,z3⟩ := inv_wdI z2
 obtain ⟨hn,z4⟩ := inv_wn z3
 cases hn
 obtain ⟨a12,l13,rfl,z5⟩ := inv_wc z4
 obtain ⟨l14,rfl,z6⟩ := inv_wagg z5
 obtain ⟨a15,y18,l16,rfl,h17,z7⟩ := inv_wdI z6
 obtain ⟨a19,y22,l20,rfl,h21,z8⟩ := inv_wdI z7
 obtain ⟨hn,z9⟩ := inv_wn z8
 cases hn
 obtain ⟨a23,l24,rfl,z10⟩ := inv_wc z9
 obtain ⟨l25,rfl,z11⟩ := inv_wagg z10
 obtain ⟨a26,y29,l27,rfl,h28,z12⟩ := inv_wdI z11
 obtain ⟨a30,y33,l31,rfl,h32,z13⟩ := inv_wdI z12
 obtain ⟨hn,z14⟩ := inv_wn z13
 cases hn
 obtain ⟨a34,l35,rfl,z15⟩ := inv_wc z14
 obtain ⟨l36,rfl,z16⟩ := inv_wagg z15
 obtain ⟨a37,y40,l38,rfl,h39,z17⟩ := inv_wdI z16
 obtain ⟨a41,y44,l42,rfl,h43,z18⟩ := inv_wdI z17
 obtain ⟨hn,z19⟩ := inv_wn z18
 cases hn
 obtain ⟨hn,z20⟩ := inv_wn z19
 cases hn
 exact Den.weaken (.cons (WkA.agg (.cons h6 (.cons h10 .nil))) (.cons (WkA.agg (.cons h17 (.cons h21 .nil))) (.cons (WkA.agg (.cons h28 (.cons h32 .nil))) (.cons (WkA.agg (.cons h39 (.cons h43 .nil))) .nil)))) (evalF_sound hmix hC hF ((e56 u y7 y11 y18 y22 y29 y33 y40 y44).trans z20))
def C32 : Oracle := (C31 u).add 86 (fun _ => true) (O56 100)
def A85v1 : AC := (.region 9 [o1 45 (bk .add 3 20 1),mv 20 45] 0 none)
def A85v2 : AC := (.seq (.block 3
 (.seq (.region 6 [mv 22 20,o1 23 (.indexAddr 37 49 2 (tm 18) (tm 20)),o1 24 (ln 49 2 23),o1 10 (.alloc 0 49 [vci 0,vci 0]),o1 9 (sg 22),o0 (.store 49 2 (tm 10) (tm 24))] 1 none) []
  (.seq (.region 7 [mv 25 2,o1 26 (ln 49 2 8),mv 27 0,mv 28 7,o1 29 (bk .add 3 28 1),mv 30 0,o1 31 (.len 37 false (tm 30)),o1 32 (bt .rem 3 29 31),o1 33 (.indexAddr 37 49 2 (tm 27) (tm 32)),o1 34 (ln 49 2 33),o1 35 (ln 49 2 10),mv 36 1,mv 37 9,o1 38 (bk .add 3 37 1),mv 39 1,o1 40 (.len 37 false (tm 39)),o1 41 (bt .rem 3 38 40),o1 42 (.indexAddr 37 49 2 (tm 36) (tm 41)),o1 43 (ln 49 2 42),o1 44 (.callv (tm 25) [(tm 26),(tm 34),(tm 35),(tm 43)] [49,49,49,49] .snap)] 0 (some [[],[],[],[],[3],[],[5],(rl 3 4 []),(rl 2 6 []),(rl 2 7 []),[],[],[],[12],[],[14],(rl 12 4 []),(rl 11 6 []),(rl 11 7 []),(rl 0 19 [])])) []
  (.cond (tm 44)
  (.seq (.region 8 [o1 6 (sb true)] 0 none) []
   (.ret (rl 0 6 (rl 7 40 []))))
  .skip)))) (6 :: 9 :: 10 :: (rl 22 23 []))
 A85v1)
def A85v3 : AC := (.seq (.region 5 [o1 21 (bt .lss 3 20 19)] 0 none) []
 (.seq (.cond (tm 21)
 .skip
 (.exit 2 (rl 3 8 (rl 14 33 [])))) []
 A85v2))
def A85v4 : AC := (.region 10 [o1 46 (bk .add 3 13 1),mv 13 46] 0 none)
def A85v5 : AC := (.seq (.block 1
 (.seq (.region 3 [mv 15 13,o1 16 (.indexAddr 37 49 2 (tm 11) (tm 13)),o1 17 (ln 49 2 16),o1 8 (.alloc 0 49 [vci 0,vci 0]),o1 7 (sg 15),o0 (.store 49 2 (tm 8) (tm 17))] 1 none) []
  (.seq (.region 4 [mv 18 1,o1 19 (.len 37 false (tm 18)),o1 20 (.move (ic 0))] 0 none) []
  (.block 2
  (.loop [] (rl 3 4 (9 :: 10 :: (rl 14 4 (rl 21 26 []))))
   A85v3))))) (rl 6 5 (rl 15 31 []))
 A85v4)
def A85v6 : AC := (.seq (.region 2 [o1 14 (bt .lss 3 13 12)] 0 none) []
 (.seq (.cond (tm 14)
 .skip
 (.exit 0 (rl 0 47 []))) []
 A85v5))
def A85v7 : AC := (.seq (.region 11 [o1 6 (sb false)] 0 none) []
 (.ret (rl 0 6 (rl 7 40 []))))
def A85 : AF := ⟨47,[.tmp 6],
 (.seq (.region 0 [o1 6 (sb false)] 0 none) []
 (.seq (.seq (.region 1 [mv 11 0,o1 12 (.len 37 false (tm 11)),o1 13 (.move (ic 0))] 0 none) []
 (.block 0
 (.loop [] (rl 3 8 (rl 14 33 []))
  A85v6))) (rl 6 41 [])
 A85v7))⟩
def B58v2 (C : Oracle) (u : Nat) : St → (Ex → St → Option ρ) → Option ρ := fun st k => evalC C u A85v3 st k
def N58v2 : St → Option St := fun s => s.norm (rl 3 4 (9 :: 10 :: (rl 14 4 (rl 21 26 [])))) 1
def s58v0 (x0 : Nat) (x1 : FF) (x2 : Nat) (x3 : FF) (x4 x5 x6 x7 x8 x9 : Int) : St := ⟨(.x (.c (ro kP x0 x1)) :: .x (.c (ro kP x2 x3)) :: .x (.c (.fn 86 0 (listF []))) :: (us 4 (vxi x4 :: .x (.ptr 0 0) :: .u :: .u :: .x (.c (ro kP x0 x1)) :: vxi x5 :: vxi x4 :: (us 4 (.x (.c (ro kP x2 x3)) :: vxi x6 :: vxi x7 :: (us 26 [])))))),[.box [(vci x8),(vci x9)]]⟩
def s58v1 (x0 x1 x2 x3 : Int) : St := ⟨(us 6 (vxb true :: (us 40 []))),[.box [(vci x0),(vci x1)],.box [(vci x2),(vci x3)]]⟩
def s58v2 (x0 : Nat) (x1 : FF) (x2 : Nat) (x3 : FF) (x4 x5 x6 x7 : Int) : St := ⟨(.x (.c (ro kP x0 x1)) :: .x (.c (ro kP x2 x3)) :: .x (.c (.fn 86 0 (listF []))) :: (us 8 (.x (.c (ro kP x0 x1)) :: vxi x4 :: vxi x5 :: (us 33 [])))),[.box [(vci x6),(vci x7)]]⟩
def L58v2 {ρ : Type} (u : Nat) (x0 : Nat) (x1 : FF) (x2 : Nat) (x3 : FF) (x4 x5 x6 x7 x8 : Int) : Nat → Int → (Int → Int → Option ρ) → (Option ρ) → Option ρ
 | 0,_,_,_ => none
 | m + 1,x9,k0,k1 =>
  (bif (decide (x9 < x6)) then (bif (inb x9 x2) then (bif ((Int.ofNat x0) == 0) then none else (bif (inb (Int.tmod (w64 (x4 + 1)) (Int.ofNat x0)) x0) then (bif ((Int.ofNat x2) == 0) then none else (bif (inb (Int.tmod (w64 (x9 + 1)) (Int.ofNat x2)) x2) then (ob (F56 100 x7 x8 (CV.int (x1 (Int.toNat (Int.tmod (w64 (x4 + 1)) (Int.ofNat x0))) 0)) (CV.int (x1 (Int.toNat (Int.tmod (w64 (x4 + 1)) (Int.ofNat x0))) 1)) (x3 x9.toNat 0).int (x3 x9.toNat 1).int (CV.int (x3 (Int.toNat (Int.tmod (w64 (x9 + 1)) (Int.ofNat x2))) 0)) (CV.int (x3 (Int.toNat (Int.tmod (w64 (x9 + 1)) (Int.ofNat x2))) 1))) fun xA => (bif xA then (k0 (x3 x9.toNat 0).int (x3 x9.toNat 1).int) else (L58v2 u x0 x1 x2 x3 x4 x5 x6 x7 x8 m (w64 (x9 + 1)) k0 k1))) else none)) else none)) else none) else k1)
theorem nl58v2 {ρ σ : Type} (u : Nat) (x0 : Nat) (x1 : FF) (x2 : Nat) (x3 : FF) (x4 x5 x6 x7 x8 : Int) (g : ρ → Option σ) : ∀ (m : Nat) (x9 : Int) (k0 : Int → Int → Option ρ) (k1 : Option ρ),ob (L58v2 u x0 x1 x2 x3 x4 x5 x6 x7 x8 m x9 k0 k1) g = L58v2 u x0 x1 x2 x3 x4 x5 x6 x7 x8 m x9 (fun xA xB => ob (k0 xA xB) g) (ob k1 g)
 | 0,_,_,_ => rfl
 | m + 1,x9,k0,k1 => by
  simp only [L58v2,ob_bif,ob_ob,ob_none,nl58v2 u x0 x1 x2 x3 x4 x5 x6 x7 x8 g m]
theorem r58v2 (m : Nat) (k : Ex → St → Option ρ) (x0 : Nat) (x1 : FF) (x2 : Nat) (x3 : FF) (x4 x5 x6 x7 x8 x9 : Int) :
  loopH (B58v2 (C32 u) u) N58v2 (m + 1) (s58v0 x0 x1 x2 x3 x4 x5 x6 x9 x7 x8) k =
  (bif (decide (x9 < x6)) then (bif (inb x9 x2) then (bif ((Int.ofNat x0) == 0) then none else (bif (inb (Int.tmod (w64 (x4 + 1)) (Int.ofNat x0)) x0) then (bif ((Int.ofNat x2) == 0) then none else (bif (inb (Int.tmod (w64 (x9 + 1)) (Int.ofNat x2)) x2) then (ob (F56 100 x7 x8 (CV.int (x1 (Int.toNat (Int.tmod (w64 (x4 + 1)) (Int.ofNat x0))) 0)) (CV.int (x1 (Int.toNat (Int.tmod (w64 (x4 + 1)) (Int.ofNat x0))) 1)) (x3 x9.toNat 0).int (x3 x9.toNat 1).int (CV.int (x3 (Int.toNat (Int.tmod (w64 (x9 + 1)) (Int.ofNat x2))) 0)) (CV.int (x3 (Int.toNat (Int.tmod (w64 (x9 + 1)) (Int.ofNat x2))) 1))) fun xA => (bif xA then (k .ret (s58v1 x7 x8 (x3 x9.toNat 0).int (x3 x9.toNat 1).int)) else (loopH (B58v2 (C32 u) u) N58v2 m (s58v0 x0 x1 x2 x3 x4 x5 x6 (w64 (x9 + 1)) x7 x8) k))) else none)) else none)) else none) else (k (.exit 2) (s58v2 x0 x1 x2 x3 x5 x4 x7 x8))) := by kernel_rfl
theorem q58v2 (u : Nat) (x0 : Nat) (x1 : FF) (x2 : Nat) (x3 : FF) (x4 x5 x6 x7 x8 : Int) {ρ : Type} (k : Ex → St → Option ρ) : ∀ (m : Nat) (x9 : Int),
  loopH (B58v2 (C32 u) u) N58v2 m (s58v0 x0 x1 x2 x3 x4 x5 x6 x9 x7 x8) k = L58v2 u x0 x1 x2 x3 x4 x5 x6 x7 x8 m x9 (fun xA xB => k .ret (s58v1 x7 x8 xA xB)) (k (.exit 2) (s58v2 x0 x1 x2 x3 x5 x4 x7 x8))
 | 0,_ => rfl
 | m + 1,x9 => by
  rw [r58v2]
  simp only [L58v2,q58v2 u x0 x1 x2 x3 x4 x5 x6 x7 x8 k m]
def B58v3 (C : Oracle) (u : Nat) : St → (Ex → St → Option ρ) → Option ρ := fun st k => evalC C u A85v6 st k
def N58v3 : St → Option St := fun s => s.norm (rl 3 8 (rl 14 33 [])) 0
def s58v3 (x0 : Nat) (x1 : FF) (x2 : Nat) (x3 : FF) (x4 x5 : Int) : St := ⟨(.x (.c (ro kP x0 x1)) :: .x (.c (ro kP x2 x3)) :: .x (.c (.fn 86 0 (listF []))) :: (us 8 (.x (.c (ro kP x0 x1)) :: vxi x4 :: vxi x5 :: (us 33 [])))),[]⟩
def s58v4 (x0 x1 x2 x3 : Int) : St := ⟨(us 6 (vxb true :: (us 40 []))),[.box [(vci x0),(vci x1)],.box [(vci x2),(vci x3)]]⟩
def s58v5 : St := ⟨(us 47 []),[]⟩
def L58v3 {ρ : Type} (u : Nat) (x0 : Nat) (x1 : FF) (x2 : Nat) (x3 : FF) (x4 : Int) : Nat → Int → (Int → Int → Int → Int → Option ρ) → (Option ρ) → Option ρ
 | 0,_,_,_ => none
 | m + 1,x5,k0,k1 =>
  (bif (decide (x5 < x4)) then (bif (inb x5 x0) then (L58v2 u x0 x1 x2 x3 x5 x4 (Int.ofNat x2) (x1 x5.toNat 0).int (x1 x5.toNat 1).int u 0
  (fun x6 x7 => (k0 (x1 x5.toNat 0).int (x1 x5.toNat 1).int x6 x7))
  (L58v3 u x0 x1 x2 x3 x4 m (w64 (x5 + 1)) k0 k1)) else none) else k1)
theorem nl58v3 {ρ σ : Type} (u : Nat) (x0 : Nat) (x1 : FF) (x2 : Nat) (x3 : FF) (x4 : Int) (g : ρ → Option σ) : ∀ (m : Nat) (x5 : Int) (k0 : Int → Int → Int → Int → Option ρ) (k1 : Option ρ),ob (L58v3 u x0 x1 x2 x3 x4 m x5 k0 k1) g = L58v3 u x0 x1 x2 x3 x4 m x5 (fun x6 x7 x8 x9 => ob (k0 x6 x7 x8 x9) g) (ob k1 g)
 | 0,_,_,_ => rfl
 | m + 1,x5,k0,k1 => by
  simp only [L58v3,ob_bif,ob_ob,ob_none,nl58v3 u x0 x1 x2 x3 x4 g m,nl58v2]
def s58v6 (x0 : Nat) (x1 : FF) (x2 : Nat) (x3 : FF) (x4 x5 : Int) : St := ⟨(.x (.c (ro kP x0 x1)) :: .x (.c (ro kP x2 x3)) :: .x (.c (.fn 86 0 (listF []))) :: (us 4 (vxi x4 :: .x (.ptr 0 0) :: .u :: .u :: .x (.c (ro kP x0 x1)) :: vxi x5 :: vxi x4 :: vxb true :: vxi x4 :: .x (.c (.rp kP (x1 x4.toNat))) :: .agg [(vci (x1 x4.toNat 0).int),(vci (x1 x4.toNat 1).int)] :: .x (.c (ro kP x2 x3)) :: vxi (Int.ofNat x2) :: vxi 0 :: (us 26 [])))),[.box [(vci (x1 x4.toNat 0).int),(vci (x1 x4.toNat 1).int)]]⟩
theorem r58v3 (m : Nat) (k : Ex → St → Option ρ) (x0 : Nat) (x1 : FF) (x2 : Nat) (x3 : FF) (x4 x5 : Int) :
  loopH (B58v3 (C32 u) u) N58v3 (m + 1) (s58v3 x0 x1 x2 x3 x4 x5) k =
  (bif (decide (x5 < x4)) then (bif (inb x5 x0) then (loopN (B58v2 (C32 u) u) N58v2 u (s58v6 x0 x1 x2 x3 x5 x4) (kBlk 2 (kBlk 1 (kSeq (C32 u) u (rl 6 5 (rl 15 31 [])) A85v4 (kLoop (B58v3 (C32 u) u) N58v3 m k))))) else none) else (k (.exit 0) s58v5)) := by kernel_rfl
theorem t58v1 (k : Ex → St → Option ρ) (x0 : Nat) (x1 : FF) (x2 : Nat) (x3 : FF) (x4 x5 : Int) :
  loopN (B58v2 (C32 u) u) N58v2 u (s58v6 x0 x1 x2 x3 x4 x5) k =
  L58v2 u x0 x1 x2 x3 x4 x5 (Int.ofNat x2) (x1 x4.toNat 0).int (x1 x4.toNat 1).int u 0 (fun x6 x7 => k .ret (s58v1 (x1 x4.toNat 0).int (x1 x4.toNat 1).int x6 x7)) (k (.exit 2) (s58v2 x0 x1 x2 x3 x5 x4 (x1 x4.toNat 0).int (x1 x4.toNat 1).int)) :=
 (loopN_at (st' := (s58v0 x0 x1 x2 x3 x4 x5 (Int.ofNat x2) 0 (x1 x4.toNat 0).int (x1 x4.toNat 1).int)) (by kernel_rfl)).trans (q58v2 u x0 x1 x2 x3 x4 x5 (Int.ofNat x2) (x1 x4.toNat 0).int (x1 x4.toNat 1).int k u 0)
theorem g58v2 (m : Nat) (k : Ex → St → Option ρ) (x0 : FF) (x1 x2 x3 : Int) :
  (kBlk 2 (kBlk 1 (kSeq (C32 u) u (rl 6 5 (rl 15 31 [])) A85v4 (kLoop (B58v3 (C32 u) u) N58v3 m k)))) .ret (s58v1 (x0 x1.toNat 0).int (x0 x1.toNat 1).int x2 x3) =
  (k .ret (s58v4 (x0 x1.toNat 0).int (x0 x1.toNat 1).int x2 x3)) := by kernel_rfl
theorem g58v3 (m : Nat) (k : Ex → St → Option ρ) (x0 : Nat) (x1 : FF) (x2 : Nat) (x3 : FF) (x4 x5 : Int) :
  (kBlk 2 (kBlk 1 (kSeq (C32 u) u (rl 6 5 (rl 15 31 [])) A85v4 (kLoop (B58v3 (C32 u) u) N58v3 m k)))) (.exit 2) (s58v2 x0 x1 x2 x3 x4 x5 (x1 x5.toNat 0).int (x1 x5.toNat 1).int) =
  (loopH (B58v3 (C32 u) u) N58v3 m (s58v3 x0 x1 x2 x3 x4 (w64 (x5 + 1))) k) := by kernel_rfl
theorem q58v3 (u : Nat) (x0 : Nat) (x1 : FF) (x2 : Nat) (x3 : FF) (x4 : Int) {ρ : Type} (k : Ex → St → Option ρ) : ∀ (m : Nat) (x5 : Int),
  loopH (B58v3 (C32 u) u) N58v3 m (s58v3 x0 x1 x2 x3 x4 x5) k = L58v3 u x0 x1 x2 x3 x4 m x5 (fun x6 x7 x8 x9 => k .ret (s58v4 x6 x7 x8 x9)) (k (.exit 0) s58v5)
 | 0,_ => rfl
 | m + 1,x5 => by
  rw [r58v3]
  simp only [L58v3,q58v3 u x0 x1 x2 x3 x4 k m,t58v1,g58v2,g58v3]
def D58 (x0 : Nat) (x1 : FF) (x2 : Nat) (x3 : FF) (k : Bool → Option ρ) : Option ρ :=
 (L58v3 u x0 x1 x2 x3 (Int.ofNat x0) u 0
  (fun x4 x5 x6 x7 => (k true))
  (k false))
def F58 (x0 : Nat) (x1 : FF) (x2 : Nat) (x3 : FF) : Option (Bool) := D58 u x0 x1 x2 x3 some
theorem f58 (x0 : Nat) (x1 : FF) (x2 : Nat) (x3 : FF) (k : (Bool) → Option ρ) : D58 u x0 x1 x2 x3 k = ob (F58 u x0 x1 x2 x3) k := by
 simp only [F58,D58,ob_bif,ob_ob,ob_none,ob_some,nl58v3]
def s58v7 (x0 : Nat) (x1 : FF) (x2 : Nat) (x3 : FF) : St := ⟨[.x (.c (ro kP x0 x1)),.x (.c (ro kP x2 x3)),.x (.c (.fn 86 0 (listF []))),uu,uu,uu,vxb false,uu,uu,uu,uu,.x (.c (ro kP x0 x1)),vxi (Int.ofNat x0),vxi 0,uu,uu,uu,uu,uu,uu,uu,uu,uu,uu,uu,uu,uu,uu,uu,uu,uu,uu,uu,uu,uu,uu,uu,uu,uu,uu,uu,uu,uu,uu,uu,uu,uu],[]⟩
theorem t58v4 (k : Ex → St → Option ρ) (x0 : Nat) (x1 : FF) (x2 : Nat) (x3 : FF) :
  loopN (B58v3 (C32 u) u) N58v3 u (s58v7 x0 x1 x2 x3) k =
  L58v3 u x0 x1 x2 x3 (Int.ofNat x0) u 0 (fun x4 x5 x6 x7 => k .ret (s58v4 x4 x5 x6 x7)) (k (.exit 0) s58v5) :=
 (loopN_at (st' := (s58v3 x0 x1 x2 x3 (Int.ofNat x0) 0)) (by kernel_rfl)).trans (q58v3 u x0 x1 x2 x3 (Int.ofNat x0) k u 0)
theorem g58v5 (x0 x1 x2 x3 : Int) :
  (kBlk 0 (kSeq (C32 u) u (rl 6 41 []) A85v7 (finish A85))) .ret (s58v4 x0 x1 x2 x3) =
  (some [.v (.b true)]) := by kernel_rfl
theorem g58v6 :
  (kBlk 0 (kSeq (C32 u) u (rl 6 41 []) A85v7 (finish A85))) (.exit 0) s58v5 =
  (some [.v (.b false)]) := by kernel_rfl
theorem e58 (x0 : Nat) (x1 : FF) (x2 : Nat) (x3 : FF) : evalF (C32 u) u A85 [.v (ro kP x0 x1),.v (ro kP x2 x3),.v (.fn 86 0 (listF []))] = ob (F58 u x0 x1 x2 x3) fun t => some [.v (.b t)] := Eq.trans (b := (loopN (B58v3 (C32 u) u) N58v3 u (s58v7 x0 x1 x2 x3) (kBlk 0 (kSeq (C32 u) u (rl 6 41 []) A85v7 (finish A85))))) (by kernel_rfl) (by
 rw [← f58]
 simp only [D58,t58v4,g58v5,g58v6])
def O58 : Ora where
 o := fun args {ρ} K =>
  wcL kP args fun y4 y5 l2 =>
  wcL kP l2 fun y9 y10 l7 =>
  wc l7 fun a11 l12 =>
  wv a11 fun c13 =>
  wFn 86 0 c13 fun y14 =>
  wn l12 <|
  (ob (F58 u y4 y5 y9 y10) fun t => K [.v (.b t)])
 nat := fun args {ρ} K => by
  simp only [bind_wFn,bind_wc,bind_wcL,bind_wn,bind_wv,bind_ob,Option.bind_some]
theorem d58 : DO (O58 u) (C32 u) 85 A85 := by
 intro P hmix hC hF args res h
 obtain ⟨a1,y4,y5,l2,rfl,h3,z0⟩ := inv_wcL h
 obtain ⟨a6,y9,y10,l7,rfl,h8,z1⟩ := inv_wcL z0
 obtain ⟨a11,l12,rfl,z2⟩ := inv_wc z1
 obtain ⟨c13,rfl,z3⟩ := inv_wv z2
 obtain ⟨y14,h15,z4⟩ := inv_wFn z3
 obtain ⟨hn,z5⟩ := inv_wn z4
 cases hn
 exact Den.weaken (.cons h3 (.cons h8 (.cons (WkA.v (wk_fn0 h15)) .nil))) (evalF_sound hmix hC hF ((e58 u y4 y5 y9 y10).trans z5))
def C33 : Oracle := (C32 u).add 85 (fun l => isFn 86 l 2) (O58 100)
def A70v1 : AC := (.seq (.region 11 [o1 47 (ln 49 2 7),o1 48 (ln 49 2 8),o1 49 (ln 49 2 3),o1 50 (cs 89 [47,48,49] [49,49,49]),o1 51 (bk .gtr 3 50 0),o1 9 (sg 51)] 0 none) []
 (.seq (.region 12 [mv 52 9,o1 53 (fa 49 8 1 1),o1 54 (lo 3 53),o1 55 (fa 49 7 1 1),o1 56 (lo 3 55),o1 57 (bt .gtr 3 54 56),o1 58 (.eqB false 4 (tm 52) (tm 57) 4)] 0 none) []
 (.cond (tm 58)
 (.region 13 [mv 59 5,o1 60 (.unOp .not 4 (tm 59)),o1 5 (sg 60)] 0 none)
 .skip)))
def A70v2 : AC := (.seq (.seq (.region 10 [o1 36 (fa 49 7 1 1),o1 37 (lo 3 36),o1 38 (fa 49 3 1 1),o1 39 (lo 3 38),o1 40 (bt .gtr 3 37 39),o1 41 (fa 49 8 1 1),o1 42 (lo 3 41),o1 43 (fa 49 3 1 1),o1 44 (lo 3 43),o1 45 (bt .gtr 3 42 44),o1 46 (.eqB false 4 (tm 40) (tm 45) 4)] 0 none) []
 (.cond (tm 46)
 (.exit 1 (1 :: 2 :: 4 :: (rl 6 11 (rl 20 43 []))))
 .skip)) (rl 36 11 [])
 A70v1)
def A70v3 : AC := (.region 14 [o1 61 (bk .add 3 19 1),mv 19 61] 0 none)
def A70v4 : AC := (.seq (.block 1
 (.seq (.region 6 [mv 21 19,o1 22 (.indexAddr 37 49 2 (tm 17) (tm 19)),o1 23 (ln 49 2 22),o1 7 (.alloc 0 49 [vci 0,vci 0]),o1 6 (sg 21),o0 (.store 49 2 (tm 7) (tm 23))] 1 none) []
  (.seq (.region 7 [mv 24 0,mv 25 6,o1 26 (bk .add 3 25 1),mv 27 0,o1 28 (.len 37 false (tm 27)),o1 29 (bt .rem 3 26 28),o1 30 (.indexAddr 37 49 2 (tm 24) (tm 29)),o1 31 (ln 49 2 30),o1 8 (.alloc 0 49 [vci 0,vci 0]),o0 (.store 49 2 (tm 8) (tm 31))] 1 none) []
  (.seq (.seq (.region 8 [o1 32 (ln 49 2 7),o1 33 (ln 49 2 8),o1 34 (ln 49 2 3),o1 35 (cs 88 [32,33,34] [49,49,49])] 0 none) []
  (.cond (tm 35)
  (.seq (.region 9 [o1 4 (sk 0)] 0 none) []
   (.ret (rl 0 4 (rl 5 58 []))))
  .skip)) (4 :: (rl 32 4 []))
  A70v2)))) (4 :: (rl 6 4 (rl 21 40 [])))
 A70v3)
def A70v5 : AC := (.seq (.region 5 [o1 20 (bt .lss 3 19 18)] 0 none) []
 (.seq (.cond (tm 20)
 .skip
 (.exit 0 (rl 0 5 (rl 6 57 [])))) []
 A70v4))
def A70v6 : AC := (.seq (.region 17 [o1 4 (sk (-1))] 0 none) []
 (.ret (rl 0 4 (rl 5 58 []))))
def A70v7 : AC := (.seq (.seq (.region 15 [mv 62 5] 0 none) []
 (.cond (tm 62)
 (.seq (.region 16 [o1 4 (sk 1)] 0 none) []
  (.ret (rl 0 4 (rl 5 58 []))))
 .skip)) [4,62]
 A70v6)
def A70v8 : AC := (.seq (.region 3 [o1 5 (sb false)] 0 none) []
 (.seq (.seq (.region 4 [mv 17 0,o1 18 (.len 37 false (tm 17)),o1 19 (.move (ic 0))] 0 none) []
 (.block 0
 (.loop [] (1 :: 2 :: 4 :: (rl 6 11 (rl 20 43 [])))
  A70v5))) (4 :: (rl 6 4 (rl 17 45 [])))
 A70v7))
def A70 : AF := ⟨63,[.tmp 4],
 (.seq (.region 0 [o1 3 (bx 0 49 1),o1 4 (sk 0)] 1 none) []
 (.seq (.seq (.region 1 [o1 10 (ln 49 2 3),o1 11 (cs 82 [10] [49]),mv 12 11,og 13 (.move (tm 0)) 12 false,og 14 (cs 66 [13] [37]) 12 false,og 15 (bk .neq 73 14 0) 12 false,o1 16 (pa 12 15)] 0 none) []
 (.cond (tm 16)
 (.seq (.region 2 [o1 4 (sk (-1))] 0 none) []
  (.ret (rl 0 4 (rl 5 58 []))))
 .skip)) (4 :: (rl 10 7 []))
 A70v8))⟩
def B65v1 (C : Oracle) (u : Nat) : St → (Ex → St → Option ρ) → Option ρ := fun st k => evalC C u A70v5 st k
def N65v1 : St → Option St := fun s => s.norm (1 :: 2 :: 4 :: (rl 6 11 (rl 20 43 []))) 1
def s65v0 (x0 : Nat) (x1 : FF) (x2 : Bool) (x3 x4 x5 x6 : Int) : St := ⟨(.x (.c (ro kP x0 x1)) :: .u :: .u :: .x (.ptr 0 0) :: .u :: vxb x2 :: (us 11 (.x (.c (ro kP x0 x1)) :: vxi x3 :: vxi x4 :: (us 43 [])))),[.box [(vci x5),(vci x6)]]⟩
def s65v1 (x0 x1 x2 x3 x4 x5 : Int) : St := ⟨(us 4 (vxi 0 :: (us 58 []))),[.box [(vci x0),(vci x1)],.box [(vci x2),(vci x3)],.box [(vci x4),(vci x5)]]⟩
def s65v2 (x0 : Bool) (x1 x2 : Int) : St := ⟨(us 5 (vxb x0 :: (us 57 []))),[.box [(vci x1),(vci x2)]]⟩
def L65v1 {ρ : Type} (u : Nat) (x0 : Nat) (x1 : FF) (x2 x3 x4 : Int) : Nat → Bool → Int → (Int → Int → Int → Int → Option ρ) → (Bool → Option ρ) → Option ρ
 | 0,_,_,_,_ => none
 | m + 1,x5,x6,k0,k1 =>
  (bif (decide (x6 < x2)) then (bif (inb x6 x0) then (bif ((Int.ofNat x0) == 0) then none else (bif (inb (Int.tmod (w64 (x6 + 1)) (Int.ofNat x0)) x0) then (ob (F81 100 (x1 x6.toNat 0).int (x1 x6.toNat 1).int (CV.int (x1 (Int.toNat (Int.tmod (w64 (x6 + 1)) (Int.ofNat x0))) 0)) (CV.int (x1 (Int.toNat (Int.tmod (w64 (x6 + 1)) (Int.ofNat x0))) 1)) x3 x4) fun x7 => (bif x7 then (k0 (x1 x6.toNat 0).int (x1 x6.toNat 1).int (CV.int (x1 (Int.toNat (Int.tmod (w64 (x6 + 1)) (Int.ofNat x0))) 0)) (CV.int (x1 (Int.toNat (Int.tmod (w64 (x6 + 1)) (Int.ofNat x0))) 1))) else (bif ((decide ((x1 x6.toNat 1).int > x4)) == (decide ((CV.int (x1 (Int.toNat (Int.tmod (w64 (x6 + 1)) (Int.ofNat x0))) 1)) > x4))) then (L65v1 u x0 x1 x2 x3 x4 m x5 (w64 (x6 + 1)) k0 k1) else (ob (F79 100 (x1 x6.toNat 0).int (x1 x6.toNat 1).int (CV.int (x1 (Int.toNat (Int.tmod (w64 (x6 + 1)) (Int.ofNat x0))) 0)) (CV.int (x1 (Int.toNat (Int.tmod (w64 (x6 + 1)) (Int.ofNat x0))) 1)) x3 x4) fun x8 => (bif ((decide (x8 > 0)) == (decide ((CV.int (x1 (Int.toNat (Int.tmod (w64 (x6 + 1)) (Int.ofNat x0))) 1)) > (x1 x6.toNat 1).int))) then (L65v1 u x0 x1 x2 x3 x4 m (!x5) (w64 (x6 + 1)) k0 k1) else (L65v1 u x0 x1 x2 x3 x4 m x5 (w64 (x6 + 1)) k0 k1)))))) else none)) else none) else (k1 x5))
theorem nl65v1 {ρ σ : Type} (u : Nat) (x0 : Nat) (x1 : FF) (x2 x3 x4 : Int) (g : ρ → Option σ) : ∀ (m : Nat) (x5 : Bool) (x6 : Int) (k0 : Int → Int → Int → Int → Option ρ) (k1 : Bool → Option ρ),ob (L65v1 u x0 x1 x2 x3 x4 m x5 x6 k0 k1) g = L65v1 u x0 x1 x2 x3 x4 m x5 x6 (fun x7 x8 x9 xA => ob (k0 x7 x8 x9 xA) g) (fun xB => ob (k1 xB) g)
 | 0,_,_,_,_ => rfl
 | m + 1,x5,x6,k0,k1 => by
  simp only [L65v1,ob_bif,ob_ob,ob_none,nl65v1 u x0 x1 x2 x3 x4 g m]
theorem r65v1 (m : Nat) (k : Ex → St → Option ρ) (x0 : Nat) (x1 : FF) (x2 x3 x4 : Int) (x5 : Bool) (x6 : Int) :
  loopH (B65v1 (C33 u) u) N65v1 (m + 1) (s65v0 x0 x1 x5 x2 x6 x3 x4) k =
  (bif (decide (x6 < x2)) then (bif (inb x6 x0) then (bif ((Int.ofNat x0) == 0) then none else (bif (inb (Int.tmod (w64 (x6 + 1)) (Int.ofNat x0)) x0) then (ob (F81 100 (x1 x6.toNat 0).int (x1 x6.toNat 1).int (CV.int (x1 (Int.toNat (Int.tmod (w64 (x6 + 1)) (Int.ofNat x0))) 0)) (CV.int (x1 (Int.toNat (Int.tmod (w64 (x6 + 1)) (Int.ofNat x0))) 1)) x3 x4) fun x7 => (bif x7 then (k .ret (s65v1 x3 x4 (x1 x6.toNat 0).int (x1 x6.toNat 1).int (CV.int (x1 (Int.toNat (Int.tmod (w64 (x6 + 1)) (Int.ofNat x0))) 0)) (CV.int (x1 (Int.toNat (Int.tmod (w64 (x6 + 1)) (Int.ofNat x0))) 1)))) else (bif ((decide ((x1 x6.toNat 1).int > x4)) == (decide ((CV.int (x1 (Int.toNat (Int.tmod (w64 (x6 + 1)) (Int.ofNat x0))) 1)) > x4))) then (loopH (B65v1 (C33 u) u) N65v1 m (s65v0 x0 x1 x5 x2 (w64 (x6 + 1)) x3 x4) k) else (ob (F79 100 (x1 x6.toNat 0).int (x1 x6.toNat 1).int (CV.int (x1 (Int.toNat (Int.tmod (w64 (x6 + 1)) (Int.ofNat x0))) 0)) (CV.int (x1 (Int.toNat (Int.tmod (w64 (x6 + 1)) (Int.ofNat x0))) 1)) x3 x4) fun x8 => (bif ((decide (x8 > 0)) == (decide ((CV.int (x1 (Int.toNat (Int.tmod (w64 (x6 + 1)) (Int.ofNat x0))) 1)) > (x1 x6.toNat 1).int))) then (loopH (B65v1 (C33 u) u) N65v1 m (s65v0 x0 x1 (!x5) x2 (w64 (x6 + 1)) x3 x4) k) else (loopH (B65v1 (C33 u) u) N65v1 m (s65v0 x0 x1 x5 x2 (w64 (x6 + 1)) x3 x4) k)))))) else none)) else none) else (k (.exit 0) (s65v2 x5 x3 x4))) := by kernel_rfl
theorem q65v1 (u : Nat) (x0 : Nat) (x1 : FF) (x2 x3 x4 : Int) {ρ : Type} (k : Ex → St → Option ρ) : ∀ (m : Nat) (x5 : Bool) (x6 : Int),
  loopH (B65v1 (C33 u) u) N65v1 m (s65v0 x0 x1 x5 x2 x6 x3 x4) k = L65v1 u x0 x1 x2 x3 x4 m x5 x6 (fun x7 x8 x9 xA => k .ret (s65v1 x3 x4 x7 x8 x9 xA)) (fun xB => k (.exit 0) (s65v2 xB x3 x4))
 | 0,_,_ => rfl
 | m + 1,x5,x6 => by
  rw [r65v1]
  simp only [L65v1,q65v1 u x0 x1 x2 x3 x4 k m]
def D65 (x0 : Nat) (x1 : FF) (x2 x3 : Int) (k : Int → Option ρ) : Option ρ :=
 (ob (F61 100 x2 x3) fun x4 => (bif (x4 == false) then (ob (F33 100 x0 x1) fun x5 => (bif (x5 != 0) then (k (-1)) else (L65v1 u x0 x1 (Int.ofNat x0) x2 x3 u false 0
  (fun x6 x7 x8 x9 => (k 0))
  (fun xA => (bif xA then (k 1) else (k (-1))))))) else (k (-1))))
def F65 (x0 : Nat) (x1 : FF) (x2 x3 : Int) : Option (Int) := D65 u x0 x1 x2 x3 some
theorem f65 (x0 : Nat) (x1 : FF) (x2 x3 : Int) (k : (Int) → Option ρ) : D65 u x0 x1 x2 x3 k = ob (F65 u x0 x1 x2 x3) k := by
 simp only [F65,D65,ob_bif,ob_ob,ob_none,ob_some,nl65v1]
def s65v3 (x0 : Nat) (x1 : FF) (x2 x3 : Int) : St := ⟨(.x (.c (ro kP x0 x1)) :: .agg [(vci x2),(vci x3)] :: uu :: .x (.ptr 0 0) :: .u :: vxb false :: uu :: uu :: uu :: uu :: (us 7 [.x (.c (ro kP x0 x1)),vxi (Int.ofNat x0),vxi 0,uu,uu,uu,uu,uu,uu,uu,uu,uu,uu,uu,uu,uu,uu,uu,uu,uu,uu,uu,uu,uu,uu,uu,uu,uu,uu,uu,uu,uu,uu,uu,uu,uu,uu,uu,uu,uu,uu,uu,uu,uu,uu,uu])),[.box [(vci x2),(vci x3)]]⟩
theorem t65v1 (k : Ex → St → Option ρ) (x0 : Nat) (x1 : FF) (x2 x3 : Int) :
  loopN (B65v1 (C33 u) u) N65v1 u (s65v3 x0 x1 x2 x3) k =
  L65v1 u x0 x1 (Int.ofNat x0) x2 x3 u false 0 (fun x4 x5 x6 x7 => k .ret (s65v1 x2 x3 x4 x5 x6 x7)) (fun x8 => k (.exit 0) (s65v2 x8 x2 x3)) :=
 (loopN_at (st' := (s65v0 x0 x1 false (Int.ofNat x0) 0 x2 x3)) (by kernel_rfl)).trans (q65v1 u x0 x1 (Int.ofNat x0) x2 x3 k u false 0)
theorem g65v2 (x0 x1 x2 x3 x4 x5 : Int) :
  (kBlk 0 (kSeq (C33 u) u (4 :: (rl 6 4 (rl 17 45 []))) A70v7 (finish A70))) .ret (s65v1 x0 x1 x2 x3 x4 x5) =
  (some [.v (vi 0)]) := by kernel_rfl
theorem g65v3 (x0 : Bool) (x1 x2 : Int) :
  (kBlk 0 (kSeq (C33 u) u (4 :: (rl 6 4 (rl 17 45 []))) A70v7 (finish A70))) (.exit 0) (s65v2 x0 x1 x2) =
  (bif x0 then (some [.v (vi 1)]) else (some [.v (vi (-1))])) := by kernel_rfl
theorem e65 (x0 : Nat) (x1 : FF) (x2 x3 : Int) : evalF (C33 u) u A70 [.v (ro kP x0 x1),.agg [(vi x2),(vi x3)]] = ob (F65 u x0 x1 x2 x3) fun t => some [.v (vi t)] := Eq.trans (b := (ob (F61 100 x2 x3) fun x4 => (bif (x4 == false) then (ob (F33 100 x0 x1) fun x5 => (bif (x5 != 0) then (some [.v (vi (-1))]) else (loopN (B65v1 (C33 u) u) N65v1 u (s65v3 x0 x1 x2 x3) (kBlk 0 (kSeq (C33 u) u (4 :: (rl 6 4 (rl 17 45 []))) A70v7 (finish A70)))))) else (some [.v (vi (-1))])))) (by kernel_rfl) (by
 rw [← f65]
 simp only [D65,t65v1,g65v2,g65v3])
def O65 : Ora where
 o := fun args {ρ} K =>
  wcL kP args fun y4 y5 l2 =>
  wc l2 fun a6 l7 =>
  wagg a6 fun l8 =>
  wdI .i64 l8 fun y12 l10 =>
  wdI .i64 l10 fun y16 l14 =>
  wn l14 <|
  wn l7 <|
  (ob (F65 u y4 y5 y12 y16) fun t => K [.v (vi t)])
 nat := fun args {ρ} K => by
  simp only [bind_wagg,bind_wc,bind_wcL,bind_wdI,bind_wn,bind_ob,Option.bind_some]
theorem d65 : DO (O65 u) (C33 u) 70 A70 := by
 intro P hmix hC hF args res h
 obtain ⟨a1,y4,y5,l2,rfl,h3,z0⟩ := inv_wcL h
 obtain ⟨a6,l7,rfl,z1⟩ := inv_wc z0
 obtain ⟨l8,rfl,z2⟩ := inv_wagg z1
 obtain ⟨a9,y12,l10,rfl,h11,z3⟩ := inv_wdI z2
 obtain ⟨a13,y16,l14,rfl,h15,z4⟩ := inv_wdI z3
 obtain ⟨hn,z5⟩ := inv_wn z4
 cases hn
 obtain ⟨hn,z6⟩ := inv_wn z5
 cases hn
 exact Den.weaken (.cons h3 (.cons (WkA.agg (.cons h11 (.cons h15 .nil))) .nil)) (evalF_sound hmix hC hF ((e65 u y4 y5 y12 y16).trans z6))
def C34 : Oracle := (C33 u).add 70 (fun _ => true) (O65 100)
def A87 : AF := ⟨8,[.tmp 3],
 (.seq (.region 0 [o1 2 (bx 0 49 0),o1 3 (sb false)] 1 none) []
 (.seq (.region 1 [o1 4 (lo 37 1),o1 5 (ln 49 2 2),o1 6 (cs 70 [4,5] [37,49]),o1 7 (bk .neq 3 6 1),o1 3 (sg 7)] 0 none) []
 (.ret (0 :: 1 :: 2 :: (rl 4 4 [])))))⟩
def D64 (u : Nat) (x0 x1 : Int) (x2 : Nat → CV) (k : Bool → Option ρ) : Option ρ :=
 (ob (F65 100 (x2 0).len (x2 0).el x0 x1) fun x3 => (k (x3 != 1)))
def F64 (x0 x1 : Int) (x2 : Nat → CV) : Option (Bool) := D64 u x0 x1 x2 some
theorem f64 (x0 x1 : Int) (x2 : Nat → CV) (k : (Bool) → Option ρ) : D64 u x0 x1 x2 k = ob (F64 u x0 x1 x2) k := by
 simp only [F64,D64,ob_bif,ob_ob,ob_none,ob_some]
theorem e64 (x0 x1 : Int) (x2 : Nat → CV) : evalF (C34 u) u A87 [.agg [(vi x0),(vi x1)],.v (.rp (.pr (.sl kP) .nil) x2)] = ob (F64 u x0 x1 x2) fun t => some [.v (.b t)] := Eq.trans (b := (ob (F65 100 (x2 0).len (x2 0).el x0 x1) fun x3 => (some [.v (.b (x3 != 1))]))) (by kernel_rfl) (by
 rw [← f64]
 simp only [D64])
def O64 : Ora where
 o := fun args {ρ} K =>
  wc args fun a1 l2 =>
  wagg a1 fun l3 =>
  wdI .i64 l3 fun y7 l5 =>
  wdI .i64 l5 fun y11 l9 =>
  wn l9 <|
  wc l2 fun a12 l13 =>
  wv a12 fun c14 =>
  wP (.pr (.sl kP) .nil) c14 fun y15 =>
  wn l13 <|
  (ob (F64 u y7 y11 y15) fun t => K [.v (.b t)])
 nat := fun args {ρ} K => by
  simp only [bind_wP,bind_wagg,bind_wc,bind_wdI,bind_wn,bind_wv,bind_ob,Option.bind_some]
theorem d64 : DO (O64 u) (C34 u) 87 A87 := by
 intro P hmix hC hF args res h
 obtain ⟨a1,l2,rfl,z0⟩ := inv_wc h
 obtain ⟨l3,rfl,z1⟩ := inv_wagg z0
 obtain ⟨a4,y7,l5,rfl,h6,z2⟩ := inv_wdI z1
 obtain ⟨a8,y11,l9,rfl,h10,z3⟩ := inv_wdI z2
 obtain ⟨hn,z4⟩ := inv_wn z3
 cases hn
 obtain ⟨a12,l13,rfl,z5⟩ := inv_wc z4
 obtain ⟨c14,rfl,z6⟩ := inv_wv z5
 obtain ⟨y15,h16,z7⟩ := inv_wP z6
 obtain ⟨hn,z8⟩ := inv_wn z7
 cases hn
 exact Den.weaken (.cons (WkA.agg (.cons h6 (.cons h10 .nil))) (.cons (WkA.v (wk_rp h16)) .nil)) (evalF_sound hmix hC hF ((e64 u y7 y11 y15).trans z8))
def C35 : Oracle := (C34 u).add 87 (fun _ => true) (O64 100)
def B73bv1 (C : Oracle) (u : Nat) : St → (Ex → St → Option ρ) → Option ρ := fun st k => evalC C u A93v3 st k
def N73bv1 : St → Option St := fun s => s.norm (rl 2 5 (rl 9 10 [])) 0
def s73bv0 (x0 : Nat) (x1 : FF) (x2 : Nat → CV) (x3 x4 : Int) : St := ⟨(.x (.c (ro kP x0 x1)) :: .x (.c (.fn 87 1 (listF [(.rp (.pr (.sl kP) .nil) x2)]))) :: (us 5 (vxi x3 :: vxi x4 :: (us 10 [])))),[]⟩
def s73bv1 (x0 : Int) : St := ⟨(us 4 (vxi x0 :: (us 14 []))),[]⟩
def s73bv2 : St := ⟨(us 19 []),[]⟩
def L73bv1 {ρ : Type} (u : Nat) (x0 : Nat) (x1 : FF) (x2 : Nat → CV) (x3 : Int) : Nat → Int → (Int → Option ρ) → (Option ρ) → Option ρ
 | 0,_,_,_ => none
 | m + 1,x4,k0,k1 =>
  (bif (decide (x4 < x3)) then (bif (inb x4 x0) then (ob (F64 100 (x1 x4.toNat 0).int (x1 x4.toNat 1).int x2) fun x5 => (bif x5 then (k0 x4) else (L73bv1 u x0 x1 x2 x3 m (w64 (x4 + 1)) k0 k1))) else none) else k1)
theorem nl73bv1 {ρ σ : Type} (u : Nat) (x0 : Nat) (x1 : FF) (x2 : Nat → CV) (x3 : Int) (g : ρ → Option σ) : ∀ (m : Nat) (x4 : Int) (k0 : Int → Option ρ) (k1 : Option ρ),ob (L73bv1 u x0 x1 x2 x3 m x4 k0 k1) g = L73bv1 u x0 x1 x2 x3 m x4 (fun x5 => ob (k0 x5) g) (ob k1 g)
 | 0,_,_,_ => rfl
 | m + 1,x4,k0,k1 => by
  simp only [L73bv1,ob_bif,ob_ob,ob_none,nl73bv1 u x0 x1 x2 x3 g m]
theorem r73bv1 (m : Nat) (k : Ex → St → Option ρ) (x0 : Nat) (x1 : FF) (x2 : Nat → CV) (x3 x4 : Int) :
  loopH (B73bv1 (C35 u) u) N73bv1 (m + 1) (s73bv0 x0 x1 x2 x3 x4) k =
  (bif (decide (x4 < x3)) then (bif (inb x4 x0) then (ob (F64 100 (x1 x4.toNat 0).int (x1 x4.toNat 1).int x2) fun x5 => (bif x5 then (k .ret (s73bv1 x4)) else (loopH (B73bv1 (C35 u) u) N73bv1 m (s73bv0 x0 x1 x2 x3 (w64 (x4 + 1))) k))) else none) else (k (.exit 0) s73bv2)) := by kernel_rfl
theorem q73bv1 (u : Nat) (x0 : Nat) (x1 : FF) (x2 : Nat → CV) (x3 : Int) {ρ : Type} (k : Ex → St → Option ρ) : ∀ (m : Nat) (x4 : Int),
  loopH (B73bv1 (C35 u) u) N73bv1 m (s73bv0 x0 x1 x2 x3 x4) k = L73bv1 u x0 x1 x2 x3 m x4 (fun x5 => k .ret (s73bv1 x5)) (k (.exit 0) s73bv2)
 | 0,_ => rfl
 | m + 1,x4 => by
  rw [r73bv1]
  simp only [L73bv1,q73bv1 u x0 x1 x2 x3 k m]
def D73b (x0 : Nat) (x1 : FF) (x2 : Nat → CV) (k : Int → Option ρ) : Option ρ :=
 (L73bv1 u x0 x1 x2 (Int.ofNat x0) u 0
  (fun x3 => (k x3))
  (k (-1)))
def F73b (x0 : Nat) (x1 : FF) (x2 : Nat → CV) : Option (Int) := D73b u x0 x1 x2 some
theorem f73b (x0 : Nat) (x1 : FF) (x2 : Nat → CV) (k : (Int) → Option ρ) : D73b u x0 x1 x2 k = ob (F73b u x0 x1 x2) k := by
 simp only [F73b,D73b,ob_bif,ob_ob,ob_none,ob_some,nl73bv1]
def s73bv3 (x0 : Nat) (x1 : FF) (x2 : Nat → CV) : St := ⟨[.x (.c (ro kP x0 x1)),.x (.c (.fn 87 1 (listF [(.rp (.pr (.sl kP) .nil) x2)]))),uu,uu,vxi 0,uu,.x (.c (ro kP x0 x1)),vxi (Int.ofNat x0),vxi 0,uu,uu,uu,uu,uu,uu,uu,uu,uu,uu],[]⟩
theorem t73bv1 (k : Ex → St → Option ρ) (x0 : Nat) (x1 : FF) (x2 : Nat → CV) :
  loopN (B73bv1 (C35 u) u) N73bv1 u (s73bv3 x0 x1 x2) k =
  L73bv1 u x0 x1 x2 (Int.ofNat x0) u 0 (fun x3 => k .ret (s73bv1 x3)) (k (.exit 0) s73bv2) :=
 (loopN_at (st' := (s73bv0 x0 x1 x2 (Int.ofNat x0) 0)) (by kernel_rfl)).trans (q73bv1 u x0 x1 x2 (Int.ofNat x0) k u 0)
theorem g73bv2 (x0 : Int) :
  (kBlk 0 (kSeq (C35 u) u (rl 4 15 []) A93v4 (finish A93))) .ret (s73bv1 x0) =
  (some [.v (vi x0)]) := by kernel_rfl
theorem g73bv3 :
  (kBlk 0 (kSeq (C35 u) u (rl 4 15 []) A93v4 (finish A93))) (.exit 0) s73bv2 =
  (some [.v (vi (-1))]) := by kernel_rfl
theorem e73b (x0 : Nat) (x1 : FF) (x2 : Nat → CV) : evalF (C35 u) u A93 [.v (ro kP x0 x1),.v (.fn 87 1 (listF [(.rp (.pr (.sl kP) .nil) x2)]))] = ob (F73b u x0 x1 x2) fun t => some [.v (vi t)] := Eq.trans (b := (loopN (B73bv1 (C35 u) u) N73bv1 u (s73bv3 x0 x1 x2) (kBlk 0 (kSeq (C35 u) u (rl 4 15 []) A93v4 (finish A93))))) (by kernel_rfl) (by
 rw [← f73b]
 simp only [D73b,t73bv1,g73bv2,g73bv3])
def O73b : Ora where
 o := fun args {ρ} K =>
  wcL kP args fun y4 y5 l2 =>
  wc l2 fun a6 l7 =>
  wv a6 fun c8 =>
  wFn 87 1 c8 fun y9 =>
  wP (.pr (.sl kP) .nil) (y9 0) fun y11 =>
  wn l7 <|
  (ob (F73b u y4 y5 y11) fun t => K [.v (vi t)])
 nat := fun args {ρ} K => by
  simp only [bind_wFn,bind_wP,bind_wc,bind_wcL,bind_wn,bind_wv,bind_ob,Option.bind_some]
theorem d73b : DO (O73b u) (C35 u) 93 A93 := by
 intro P hmix hC hF args res h
 obtain ⟨a1,y4,y5,l2,rfl,h3,z0⟩ := inv_wcL h
 obtain ⟨a6,l7,rfl,z1⟩ := inv_wc z0
 obtain ⟨c8,rfl,z2⟩ := inv_wv z1
 obtain ⟨y9,h10,z3⟩ := inv_wFn z2
 obtain ⟨y11,h12,z4⟩ := inv_wP z3
 obtain ⟨hn,z5⟩ := inv_wn z4
 cases hn
 exact Den.weaken (.cons h3 (.cons (WkA.v (wk_fn1 h10 (wk_rp h12))) .nil)) (evalF_sound hmix hC hF ((e73b u y4 y5 y11).trans z5))
def C36 : Oracle := (C35 u).add 93 (fun l => isFn 87 l 1) (O73b 100)
def D50b (u : Nat) (x0 : Nat) (x1 : FF) (x2 : Nat → CV) (k : Bool → Option ρ) : Option ρ :=
 (ob (F73b 100 x0 x1 x2) fun x3 => (k (decide (x3 ≥ 0))))
def F50b (x0 : Nat) (x1 : FF) (x2 : Nat → CV) : Option (Bool) := D50b u x0 x1 x2 some
theorem f50b (x0 : Nat) (x1 : FF) (x2 : Nat → CV) (k : (Bool) → Option ρ) : D50b u x0 x1 x2 k = ob (F50b u x0 x1 x2) k := by
 simp only [F50b,D50b,ob_bif,ob_ob,ob_none,ob_some]
theorem e50b (x0 : Nat) (x1 : FF) (x2 : Nat → CV) : evalF (C36 u) u A81 [.v (ro kP x0 x1),.v (.fn 87 1 (listF [(.rp (.pr (.sl kP) .nil) x2)]))] = ob (F50b u x0 x1 x2) fun t => some [.v (.b t)] := Eq.trans (b := (ob (F73b 100 x0 x1 x2) fun x3 => (some [.v (.b (decide (x3 ≥ 0)))]))) (by kernel_rfl) (by
 rw [← f50b]
 simp only [D50b])
def O50b : Ora where
 o := fun args {ρ} K =>
  wcL kP args fun y4 y5 l2 =>
  wc l2 fun a6 l7 =>
  wv a6 fun c8 =>
  wFn 87 1 c8 fun y9 =>
  wP (.pr (.sl kP) .nil) (y9 0) fun y11 =>
  wn l7 <|
  (ob (F50b u y4 y5 y11) fun t => K [.v (.b t)])
 nat := fun args {ρ} K => by
  simp only [bind_wFn,bind_wP,bind_wc,bind_wcL,bind_wn,bind_wv,bind_ob,Option.bind_some]
theorem d50b : DO (O50b u) (C36 u) 81 A81 := by
 intro P hmix hC hF args res h
 obtain ⟨a1,y4,y5,l2,rfl,h3,z0⟩ := inv_wcL h
 obtain ⟨a6,l7,rfl,z1⟩ := inv_wc z0
 obtain ⟨c8,rfl,z2⟩ := inv_wv z1
 obtain ⟨y9,h10,z3⟩ := inv_wFn z2
 obtain ⟨y11,h12,z4⟩ := inv_wP z3
 obtain ⟨hn,z5⟩ := inv_wn z4
 cases hn
 exact Den.weaken (.cons h3 (.cons (WkA.v (wk_fn1 h10 (wk_rp h12))) .nil)) (evalF_sound hmix hC hF ((e50b u y4 y5 y11).trans z5))
def C37 : Oracle := (C36 u).add 81 (fun l => isFn 87 l 1) (O50b 100)
def A68 : AF := ⟨15,[.tmp 4],
 (.seq (.region 0 [o1 3 (bx 0 37 1),o1 4 (sb false)] 1 none) []
 (.seq (.region 1 [mv 5 0,o1 6 (lo 37 3),o1 7 (.call 85 [(tm 5),(tm 6),(.func 86)] [37,37,87] .snap),o1 8 (.unOp .not 4 (tm 7)),mv 9 8,og 10 (.move (tm 0)) 9 true,og 11 (.mkfn 87 [(tm 3)]) 9 true,og 12 (cs 81 [10,11] [37,93]) 9 true,og 13 (.unOp .not 4 (tm 12)) 9 true,o1 14 (po 9 13),o1 4 (sg 14)] 0 none) []
 (.ret (rl 0 4 (rl 5 10 [])))))⟩
def D35 (u : Nat) (x0 : Nat) (x1 : FF) (x2 : Nat) (x3 : FF) (k : Bool → Option ρ) : Option ρ :=
 (ob (F58 100 x0 x1 x2 x3) fun x4 => (bif ((!x4) == true) then (ob (F50b 100 x0 x1 (listF [(.ro false (.pr (.int .i64) (.pr (.int .i64) .nil)) x2 x3)])) fun x5 => (k (!x5))) else (k false)))
def F35 (x0 : Nat) (x1 : FF) (x2 : Nat) (x3 : FF) : Option (Bool) := D35 u x0 x1 x2 x3 some
theorem f35 (x0 : Nat) (x1 : FF) (x2 : Nat) (x3 : FF) (k : (Bool) → Option ρ) : D35 u x0 x1 x2 x3 k = ob (F35 u x0 x1 x2 x3) k := by
 simp only [F35,D35,ob_bif,ob_ob,ob_none,ob_some]
theorem e35 (x0 : Nat) (x1 : FF) (x2 : Nat) (x3 : FF) : evalF (C37 u) u A68 [.v (ro kP x0 x1),.v (ro kP x2 x3)] = ob (F35 u x0 x1 x2 x3) fun t => some [.v (.b t)] := Eq.trans (b := (ob (F58 100 x0 x1 x2 x3) fun x4 => (bif ((!x4) == true) then (ob (F50b 100 x0 x1 (listF [(ro kP x2 x3)])) fun x5 => (some [.v (.b (!x5))])) else (some [.v (.b false)])))) (by kernel_rfl) (by
 rw [← f35]
 simp only [D35])
def O35 : Ora where
 o := fun args {ρ} K =>
  wcL kP args fun y4 y5 l2 =>
  wcL kP l2 fun y9 y10 l7 =>
  wn l7 <|
  (ob (F35 u y4 y5 y9 y10) fun t => K [.v (.b t)])
 nat := fun args {ρ} K => by
  simp only [bind_wcL,bind_wn,bind_ob,Option.bind_some]
theorem d35 : DO (O35 u) (C37 u) 68 A68 := by
 intro P hmix hC hF args res h
 obtain ⟨a1,y4,y5,l2,rfl,h3,z0⟩ := inv_wcL h
 obtain ⟨a6,y9,y10,l7,rfl,h8,z1⟩ := inv_wcL z0
 obtain ⟨hn,z2⟩ := inv_wn z1
 cases hn
 exact Den.weaken (.cons h3 (.cons h8 .nil)) (evalF_sound hmix hC hF ((e35 u y4 y5 y9 y10).trans z2))
def C38 : Oracle := (C37 u).add 68 (fun _ => true) (O35 100)
def A69 : AF := ⟨25,[.tmp 4],
 (.seq (.region 0 [o1 4 (sb false)] 0 none) []
 (.seq (.region 1 [mv 5 0,mv 6 1,o1 7 (.call 85 [(tm 5),(tm 6),(.func 86)] [37,37,87] .snap),o1 8 (.unOp .not 4 (tm 7)),mv 9 8,og 10 (.move (tm 0)) 9 true,og 11 (.move (tm 1)) 9 true,og 12 (.indexAddr 37 49 2 (tm 11) (ic 0)) 9 true,og 13 (ln 49 2 12) 9 true,og 14 (cs 70 [10,13] [37,49]) 9 true,og 15 (bk .lss 3 14 0) 9 true,o1 16 (po 9 15),mv 17 16,og 18 (.move (tm 1)) 17 true,og 19 (.move (tm 0)) 17 true,og 20 (.indexAddr 37 49 2 (tm 19) (ic 0)) 17 true,og 21 (ln 49 2 20) 17 true,og 22 (cs 70 [18,21] [37,49]) 17 true,og 23 (bk .lss 3 22 0) 17 true,o1 24 (po 17 23),o1 4 (sg 24)] 0 none) []
 (.ret (rl 0 4 (rl 5 20 [])))))⟩
def D36 (u : Nat) (x0 : Nat) (x1 : FF) (x2 : Nat) (x3 : FF) (k : Bool → Option ρ) : Option ρ :=
 (ob (F58 100 x0 x1 x2 x3) fun x4 => (bif ((!x4) == true) then (bif (inb 0 x2) then (ob (F65 100 x0 x1 (x3 0 0).int (x3 0 1).int) fun x5 => (bif ((decide (x5 < 0)) == true) then (bif (inb 0 x0) then (ob (F65 100 x2 x3 (x1 0 0).int (x1 0 1).int) fun x6 => (k (decide (x6 < 0)))) else none) else (k false))) else none) else (k false)))
def F36 (x0 : Nat) (x1 : FF) (x2 : Nat) (x3 : FF) : Option (Bool) := D36 u x0 x1 x2 x3 some
theorem f36 (x0 : Nat) (x1 : FF) (x2 : Nat) (x3 : FF) (k : (Bool) → Option ρ) : D36 u x0 x1 x2 x3 k = ob (F36 u x0 x1 x2 x3) k := by
 simp only [F36,D36,ob_bif,ob_ob,ob_none,ob_some]
theorem e36 (x0 : Nat) (x1 : FF) (x2 : Nat) (x3 : FF) : evalF (C38 u) u A69 [.v (ro kP x0 x1),.v (ro kP x2 x3)] = ob (F36 u x0 x1 x2 x3) fun t => some [.v (.b t)] := Eq.trans (b := (ob (F58 100 x0 x1 x2 x3) fun x4 => (bif ((!x4) == true) then (bif (inb 0 x2) then (ob (F65 100 x0 x1 (x3 0 0).int (x3 0 1).int) fun x5 => (bif ((decide (x5 < 0)) == true) then (bif (inb 0 x0) then (ob (F65 100 x2 x3 (x1 0 0).int (x1 0 1).int) fun x6 => (some [.v (.b (decide (x6 < 0)))])) else none) else (some [.v (.b false)]))) else none) else (some [.v (.b false)])))) (by kernel_rfl) (by
 rw [← f36]
 simp only [D36])
def O36 : Ora where
 o := fun args {ρ} K =>
  wcL kP args fun y4 y5 l2 =>
  wcL kP l2 fun y9 y10 l7 =>
  wn l7 <|
  (ob (F36 u y4 y5 y9 y10) fun t => K [.v (.b t)])
 nat := fun args {ρ} K => by
  simp only [bind_wcL,bind_wn,bind_ob,Option.bind_some]
theorem d36 : DO (O36 u) (C38 u) 69 A69 := by
 intro P hmix hC hF args res h
 obtain ⟨a1,y4,y5,l2,rfl,h3,z0⟩ := inv_wcL h
 obtain ⟨a6,y9,y10,l7,rfl,h8,z1⟩ := inv_wcL z0
 obtain ⟨hn,z2⟩ := inv_wn z1
 cases hn
 exact Den.weaken (.cons h3 (.cons h8 .nil)) (evalF_sound hmix hC hF ((e36 u y4 y5 y9 y10).trans z2))
def C39 : Oracle := (C38 u).add 69 (fun _ => true) (O36 100)
end Go.Eng.R13
