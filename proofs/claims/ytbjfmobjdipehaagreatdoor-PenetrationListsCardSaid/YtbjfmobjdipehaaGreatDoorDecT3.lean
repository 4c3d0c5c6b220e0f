/-
 The functions of the program,run on symbols; printed by decomp.py.
-/
import Derived.Test.YtbjfmobjdipehaaGreatDoorDecT2
set_option linter.all false
set_option maxRecDepth 1000000
set_option maxHeartbeats 4000000
namespace Go.Eng.R13
open Go Go.RowKit Go.Eng
variable {ρ : Type} (u : Nat)
def A31v1 : AC := (.seq (.region 3 [o1 15 (ln 42 3 3),o1 16 (fa 44 2 1 3),o1 17 (lo 3 16),o1 18 (cs 61 [17] [3]),o1 19 (cs 59 [15,18] [42,3]),o1 20 (fa 44 2 0 0),o1 21 (ln 42 3 20),o1 22 (cs 60 [19,21] [42,42]),o0 (.store 42 3 (tm 4) (tm 22))] 0 (some [[],[],[1],[1,2],(rl 0 4 []),[],[5],(rl 0 7 []),(rl 0 8 [])])) []
 (.ret (rl 0 4 (rl 5 18 []))))
def A31 : AF := ⟨23,[.cell 4 42 (some 3)],
 (.seq (.region 0 [o1 2 (bx 0 44 0),o1 3 (bx 1 42 1),o1 4 (.alloc 2 42 [vci 0,vci 0,vci 0])] 3 none) []
 (.seq (.seq (.region 1 [o1 5 (fa 44 2 0 0),o1 6 (ln 42 3 5),o1 7 (cs 56 [6] [42]),o1 8 (.unOp .not 4 (tm 7)),mv 9 8,og 10 (ln 42 3 3) 9 false,og 11 (cs 56 [10] [42]) 9 false,og 12 (.unOp .not 4 (tm 11)) 9 false,o1 13 (pa 9 12)] 0 none) []
 (.cond (tm 13)
 (.seq (.region 2 [o1 14 (.build 42 [vci 0,vci 0,vci 0] [(0,1),(1,1),(2,1)] 0 []),o0 (.store 42 3 (tm 4) (tm 14))] 0 none) []
  (.ret (rl 0 4 (rl 5 18 []))))
 .skip)) (rl 5 10 [])
 A31v1))⟩
def D148 (u : Nat) (x0 x1 x2 x3 x4 x5 x6 : Int) (k : (Int × Int × Int) → Option ρ) : Option ρ :=
 (ob (F136 100 x0 x1 x2) fun x7 => (bif ((!x7) == false) then (ob (F136 100 x4 x5 x6) fun x8 => (bif (!x8) then (k (0,0,0)) else (ob (F140 100 x3) fun x9 => (ob (F143 100 x4 x5 x6 x9) fun xA => (ob (F147 100 xA.1 xA.2.1 xA.2.2 x0 x1 x2) fun xB => (k (xB.1,xB.2.1,xB.2.2))))))) else (k (0,0,0))))
def F148 (x0 x1 x2 x3 x4 x5 x6 : Int) : Option (Int × Int × Int) := D148 u x0 x1 x2 x3 x4 x5 x6 some
theorem f148 (x0 x1 x2 x3 x4 x5 x6 : Int) (k : (Int × Int × Int) → Option ρ) : D148 u x0 x1 x2 x3 x4 x5 x6 k = ob (F148 u x0 x1 x2 x3 x4 x5 x6) k := by
 simp only [F148,D148,ob_bif,ob_ob,ob_none,ob_some]
theorem e148 (x0 x1 x2 x3 x4 x5 x6 : Int) : evalF (C92 u) u A31 [.agg [(vi x0),(vi x1),(vi x2),(vi x3)],.agg [(vi x4),(vi x5),(vi x6)]] = ob (F148 u x0 x1 x2 x3 x4 x5 x6) fun t => some [.agg [(vi t.1),(vi t.2.1),(vi t.2.2)]] := Eq.trans (b := (ob (F136 100 x0 x1 x2) fun x7 => (bif ((!x7) == false) then (ob (F136 100 x4 x5 x6) fun x8 => (bif (!x8) then (some [.agg [(vi 0),(vi 0),(vi 0)]]) else (ob (F140 100 x3) fun x9 => (ob (F143 100 x4 x5 x6 x9) fun xA => (ob (F147 100 xA.1 xA.2.1 xA.2.2 x0 x1 x2) fun xB => (some [.agg [(vi xB.1),(vi xB.2.1),(vi xB.2.2)]])))))) else (some [.agg [(vi 0),(vi 0),(vi 0)]])))) (by kernel_rfl) (by
 rw [← f148]
 simp only [D148])
def O148 : Ora where
 o := fun args {ρ} K =>
  wc args fun a1 l2 =>
  wagg a1 fun l3 =>
  wdI .i64 l3 fun y7 l5 =>
  wdI .i64 l5 fun y11 l9 =>
  wdI .i64 l9 fun y15 l13 =>
  wdI .i64 l13 fun y19 l17 =>
  wn l17 <|
  wc l2 fun a20 l21 =>
  wagg a20 fun l22 =>
  wdI .i64 l22 fun y26 l24 =>
  wdI .i64 l24 fun y30 l28 =>
  wdI .i64 l28 fun y34 l32 =>
  wn l32 <|
  wn l21 <|
  (ob (F148 u y7 y11 y15 y19 y26 y30 y34) fun t => K [.agg [(vi t.1),(vi t.2.1),(vi t.2.2)]])
 nat := fun args {ρ} K => by
  simp only [bind_wagg,bind_wc,bind_wdI,bind_wn,bind_ob,Option.bind_some]
theorem d148 : DO (O148 u) (C92 u) 31 A31 := by
 intro P hmix hC hF args res h
 obtain ⟨a1,l2,rfl,z0⟩ := inv_wc h
 obtain ⟨l3,rfl,z1⟩ := inv_wagg z0
 obtain ⟨a4,y7,l5,rfl,h6,z2⟩ := inv_wdI z1
 obtain ⟨a8,y11,l9,rfl,h10,z3⟩ := inv_wdI z2
 obtain ⟨a12,y15,l13,rfl,h14,z4⟩ := inv_wdI z3
 obtain ⟨a16,y19,l17,rfl,h18,z5⟩ := inv_wdI z4
 obtain ⟨hn,z6⟩ := inv_wn z5
 cases hn
 obtain ⟨a20,l21,rfl,z7⟩ := inv_wc z6
 obtain ⟨l22,rfl,z8⟩ := inv_wagg z7
 obtain ⟨a23,y26,l24,rfl,h25,z9⟩ := inv_wdI z8
 obtain ⟨a27,y30,l28,rfl,h29,z10⟩ := inv_wdI z9
 obtain ⟨a31,y34,l32,rfl,h33,z11⟩ := inv_wdI z10
 obtain ⟨hn,z12⟩ := inv_wn z11
 cases hn
 obtain ⟨hn,z13⟩ := inv_wn z12
 cases hn
 exact Den.weaken (.cons (WkA.agg (.cons h6 (.cons h10 (.cons h14 (.cons h18 .nil))))) (.cons (WkA.agg (.cons h25 (.cons h29 (.cons h33 .nil)))) .nil)) (evalF_sound hmix hC hF ((e148 u y7 y11 y15 y19 y26 y30 y34).trans z13))
def C93 : Oracle := (C92 u).add 31 (fun _ => true) (O148 100)
def A32v1 : AC := (.seq (.block 1
 (.region 7 [mv 21 5,o1 22 (fa 40 2 1 1),o1 23 (lo 38 22),mv 24 6,o1 25 (.indexAddr 38 37 1 (tm 23) (tm 24)),o1 26 (lo 37 25),o1 27 (ln 49 2 3),o1 28 (cs 62 [26,27] [37,49]),o1 29 (.unOp .neg 3 (tm 28)),o1 30 (.mm false [(tm 21),(tm 29)] [3,3]),o1 5 (sg 30)] 0 (some [[],[],[1],[],[1,2,3],(rl 1 4 []),[],(rl 1 6 []),(rl 1 7 []),(rl 0 9 []),(rl 0 10 [])]))) []
 (.region 6 [mv 19 6,o1 20 (bk .add 3 19 1),o1 6 (sg 20)] 0 none))
def A32v2 : AC := (.seq (.seq (.region 5 [mv 14 6,o1 15 (fa 40 2 1 1),o1 16 (lo 38 15),o1 17 (.len 38 false (tm 16)),o1 18 (bt .lss 3 14 17)] 0 none) []
 (.cond (tm 18)
 .skip
 (.exit 0 (rl 0 5 (rl 6 26 []))))) (rl 14 5 [])
 A32v1)
def A32v3 : AC := (.seq (.region 8 [mv 31 5,o1 4 (sg 31)] 0 none) []
 (.ret (rl 0 4 (rl 5 27 []))))
def A32v4 : AC := (.seq (.region 3 [o1 10 (fa 40 2 0 0),o1 11 (lo 37 10),o1 12 (ln 49 2 3),o1 13 (cs 62 [11,12] [37,49]),o1 5 (sg 13)] 0 none) []
 (.seq (.seq (.region 4 [o1 6 (sk 0)] 0 none) []
 (.block 0
 (.loop [] (0 :: 1 :: 4 :: (rl 7 25 []))
  A32v2))) (6 :: (rl 14 17 []))
 A32v3))
def A32 : AF := ⟨32,[.tmp 4],
 (.seq (.region 0 [o1 2 (bx 0 40 0),o1 3 (bx 1 49 1),o1 4 (sk 0)] 2 none) []
 (.seq (.seq (.region 1 [o1 7 (ln 40 2 2),o1 8 (cs 54 [7] [40]),o1 9 (bk .neq 73 8 0)] 0 none) []
 (.cond (tm 9)
 (.seq (.region 2 [o1 4 (sk (-1))] 0 none) []
  (.ret (rl 0 4 (rl 5 27 []))))
 .skip)) [4,7,8,9]
 A32v4))⟩
def B23v1 (C : Oracle) (u : Nat) : St → (Ex → St → Option ρ) → Option ρ := fun st k => evalC C u A32v2 st k
def N23v1 : St → Option St := fun s => s.norm (0 :: 1 :: 4 :: (rl 7 25 [])) 2
def s23v0 (x0 x1 : Int) (x2 : Nat) (x3 : FF) (x4 : Nat) (x5 : FF) (x6 x7 : Int) : St := ⟨(.u :: .u :: .x (.ptr 0 0) :: .x (.ptr 1 0) :: .u :: vxi x0 :: vxi x1 :: (us 25 [])),[.box [(.c (ro kP x2 x3)),(.c (ro (.pr (.sl kP) .nil) x4 x5))],.box [(vci x6),(vci x7)]]⟩
def s23v1 (x0 : Int) (x1 : Nat) (x2 : FF) (x3 : Nat) (x4 : FF) (x5 x6 : Int) : St := ⟨(us 5 (vxi x0 :: (us 26 []))),[.box [(.c (ro kP x1 x2)),(.c (ro (.pr (.sl kP) .nil) x3 x4))],.box [(vci x5),(vci x6)]]⟩
def L23v1 {ρ : Type} (u : Nat) (x0 : Nat) (x1 : FF) (x2 : Nat) (x3 : FF) (x4 x5 : Int) : Nat → Int → Int → (Int → Option ρ) → Option ρ
 | 0,_,_,_ => none
 | m + 1,x6,x7,k0 =>
  (bif (decide (x7 < (Int.ofNat x2))) then (bif (inb x7 x2) then (ob (F40 100 (x3 x7.toNat 0).len (x3 x7.toNat 0).el x4 x5) fun x8 => (L23v1 u x0 x1 x2 x3 x4 x5 m (if (w64 (0 - x8)) < x6 then (w64 (0 - x8)) else x6) (w64 (x7 + 1)) k0)) else none) else (k0 x6))
theorem nl23v1 {ρ σ : Type} (u : Nat) (x0 : Nat) (x1 : FF) (x2 : Nat) (x3 : FF) (x4 x5 : Int) (g : ρ → Option σ) : ∀ (m : Nat) (x6 x7 : Int) (k0 : Int → Option ρ),ob (L23v1 u x0 x1 x2 x3 x4 x5 m x6 x7 k0) g = L23v1 u x0 x1 x2 x3 x4 x5 m x6 x7 (fun x8 => ob (k0 x8) g)
 | 0,_,_,_ => rfl
 | m + 1,x6,x7,k0 => by
  simp only [L23v1,ob_bif,ob_ob,ob_none,nl23v1 u x0 x1 x2 x3 x4 x5 g m]
theorem r23v1 (m : Nat) (k : Ex → St → Option ρ) (x0 : Nat) (x1 : FF) (x2 : Nat) (x3 : FF) (x4 x5 x6 x7 : Int) :
  loopH (B23v1 (C93 u) u) N23v1 (m + 1) (s23v0 x6 x7 x0 x1 x2 x3 x4 x5) k =
  (bif (decide (x7 < (Int.ofNat x2))) then (bif (inb x7 x2) then (ob (F40 100 (x3 x7.toNat 0).len (x3 x7.toNat 0).el x4 x5) fun x8 => (loopH (B23v1 (C93 u) u) N23v1 m (s23v0 (if (w64 (0 - x8)) < x6 then (w64 (0 - x8)) else x6) (w64 (x7 + 1)) x0 x1 x2 x3 x4 x5) k)) else none) else (k (.exit 0) (s23v1 x6 x0 x1 x2 x3 x4 x5))) := by kernel_rfl
theorem q23v1 (u : Nat) (x0 : Nat) (x1 : FF) (x2 : Nat) (x3 : FF) (x4 x5 : Int) {ρ : Type} (k : Ex → St → Option ρ) : ∀ (m : Nat) (x6 x7 : Int),
  loopH (B23v1 (C93 u) u) N23v1 m (s23v0 x6 x7 x0 x1 x2 x3 x4 x5) k = L23v1 u x0 x1 x2 x3 x4 x5 m x6 x7 (fun x8 => k (.exit 0) (s23v1 x8 x0 x1 x2 x3 x4 x5))
 | 0,_,_ => rfl
 | m + 1,x6,x7 => by
  rw [r23v1]
  simp only [L23v1,q23v1 u x0 x1 x2 x3 x4 x5 k m]
def D23 (x0 : Nat) (x1 : FF) (x2 : Nat) (x3 : FF) (x4 x5 : Int) (k : Int → Option ρ) : Option ρ :=
 (ob (F14 100 x0 x1 x2 x3) fun x6 => (bif (x6 != 0) then (k (-1)) else (ob (F40 100 x0 x1 x4 x5) fun x7 => (L23v1 u x0 x1 x2 x3 x4 x5 u x7 0
  (fun x8 => (k x8))))))
def F23 (x0 : Nat) (x1 : FF) (x2 : Nat) (x3 : FF) (x4 x5 : Int) : Option (Int) := D23 u x0 x1 x2 x3 x4 x5 some
theorem f23 (x0 : Nat) (x1 : FF) (x2 : Nat) (x3 : FF) (x4 x5 : Int) (k : (Int) → Option ρ) : D23 u x0 x1 x2 x3 x4 x5 k = ob (F23 u x0 x1 x2 x3 x4 x5) k := by
 simp only [F23,D23,ob_bif,ob_ob,ob_none,ob_some,nl23v1]
def s23v2 (x0 : Nat) (x1 : FF) (x2 : Nat) (x3 : FF) (x4 x5 x6 : Int) : St := ⟨(.agg [(.c (ro kP x0 x1)),(.c (ro (.pr (.sl kP) .nil) x2 x3))] :: .agg [(vci x4),(vci x5)] :: .x (.ptr 0 0) :: .x (.ptr 1 0) :: .u :: vxi x6 :: vxi 0 :: (us 3 [.x (.ptr 0 0),.x (.c (ro kP x0 x1)),.agg [(vci x4),(vci x5)],vxi x6,uu,uu,uu,uu,uu,uu,uu,uu,uu,uu,uu,uu,uu,uu,uu,uu,uu,uu])),[.box [(.c (ro kP x0 x1)),(.c (ro (.pr (.sl kP) .nil) x2 x3))],.box [(vci x4),(vci x5)]]⟩
theorem t23v1 (k : Ex → St → Option ρ) (x0 : Nat) (x1 : FF) (x2 : Nat) (x3 : FF) (x4 x5 x6 : Int) :
  loopN (B23v1 (C93 u) u) N23v1 u (s23v2 x0 x1 x2 x3 x4 x5 x6) k =
  L23v1 u x0 x1 x2 x3 x4 x5 u x6 0 (fun x7 => k (.exit 0) (s23v1 x7 x0 x1 x2 x3 x4 x5)) :=
 (loopN_at (st' := (s23v0 x6 0 x0 x1 x2 x3 x4 x5)) (by kernel_rfl)).trans (q23v1 u x0 x1 x2 x3 x4 x5 k u x6 0)
theorem g23v2 (x0 : Int) (x1 : Nat) (x2 : FF) (x3 : Nat) (x4 : FF) (x5 x6 : Int) :
  (kBlk 0 (kSeq (C93 u) u (6 :: (rl 14 17 [])) A32v3 (finish A32))) (.exit 0) (s23v1 x0 x1 x2 x3 x4 x5 x6) =
  (some [.v (vi x0)]) := by kernel_rfl
theorem e23 (x0 : Nat) (x1 : FF) (x2 : Nat) (x3 : FF) (x4 x5 : Int) : evalF (C93 u) u A32 [.agg [(ro kP x0 x1),(ro (.pr (.sl kP) .nil) x2 x3)],.agg [(vi x4),(vi x5)]] = ob (F23 u x0 x1 x2 x3 x4 x5) fun t => some [.v (vi t)] := Eq.trans (b := (ob (F14 100 x0 x1 x2 x3) fun x6 => (bif (x6 != 0) then (some [.v (vi (-1))]) else (ob (F40 100 x0 x1 x4 x5) fun x7 => (loopN (B23v1 (C93 u) u) N23v1 u (s23v2 x0 x1 x2 x3 x4 x5 x7) (kBlk 0 (kSeq (C93 u) u (6 :: (rl 14 17 [])) A32v3 (finish A32)))))))) (by kernel_rfl) (by
 rw [← f23]
 simp only [D23,t23v1,g23v2])
def O23 : Ora where
 o := fun args {ρ} K =>
  wc args fun a1 l2 =>
  wagg a1 fun l3 =>
  wdL kP l3 fun y7 y8 l5 =>
  wdL (.pr (.sl kP) .nil) l5 fun y12 y13 l10 =>
  wn l10 <|
  wc l2 fun a14 l15 =>
  wagg a14 fun l16 =>
  wdI .i64 l16 fun y20 l18 =>
  wdI .i64 l18 fun y24 l22 =>
  wn l22 <|
  wn l15 <|
  (ob (F23 u y7 y8 y12 y13 y20 y24) fun t => K [.v (vi t)])
 nat := fun args {ρ} K => by
  simp only [bind_wagg,bind_wc,bind_wdI,bind_wdL,bind_wn,bind_ob,Option.bind_some]
theorem d23 : DO (O23 u) (C93 u) 32 A32 := by
 intro P hmix hC hF args res h
 obtain ⟨a1,l2,rfl,z0⟩ := inv_wc h
 obtain ⟨l3,rfl,z1⟩ := inv_wagg z0
 obtain ⟨a4,y7,y8,l5,rfl,h6,z2⟩ := inv_wdL z1
 obtain ⟨a9,y12,y13,l10,rfl,h11,z3⟩ := inv_wdL z2
 obtain ⟨hn,z4⟩ := inv_wn z3
 cases hn
 obtain ⟨a14,l15,rfl,z5⟩ := inv_wc z4
 obtain ⟨l16,rfl,z6⟩ := inv_wagg z5
 obtain ⟨a17,y20,l18,rfl,h19,z7⟩ := inv_wdI z6
 obtain ⟨a21,y24,l22,rfl,h23,z8⟩ := inv_wdI z7
 obtain ⟨hn,z9⟩ := inv_wn z8
 cases hn
 obtain ⟨hn,z10⟩ := inv_wn z9
 cases hn
 exact Den.weaken (.cons (WkA.agg (.cons h6 (.cons h11 .nil))) (.cons (WkA.agg (.cons h19 (.cons h23 .nil))) .nil)) (evalF_sound hmix hC hF ((e23 u y7 y8 y12 y13 y20 y24).trans z10))
def C94 : Oracle := (C93 u).add 32 (fun _ => true) (O23 100)
def A15v1 : AC := (.seq (.block 3
 (.region 15 [mv 92 13,mv 93 92,og 94 (.move (tm 7)) 93 false,og 95 (.move (tm 14)) 93 false,og 96 (.indexAddr 33 51 4 (tm 94) (tm 95)) 93 false,og 97 (fa 51 96 1 1) 93 false,og 98 (ln 49 2 97) 93 false,og 99 (ln 49 2 12) 93 false,og 100 (.eqA false kP 49 (tm 98) (tm 99) 49) 93 false,o1 101 (pa 93 100),o1 13 (sg 101)] 0 (some [[],[0],[0,1],[0,1],(rl 0 4 []),(rl 0 5 []),(rl 0 6 []),[0,1],(rl 0 8 []),(rl 0 9 []),(rl 0 10 [])]))) []
 (.region 14 [mv 90 14,o1 91 (bk .add 3 90 1),o1 14 (sg 91)] 0 none))
def A15v2 : AC := (.seq (.seq (.region 13 [mv 86 14,mv 87 7,o1 88 (.len 33 false (tm 87)),o1 89 (bt .lss 3 86 88)] 0 none) []
 (.cond (tm 89)
 .skip
 (.exit 2 (0 :: 4 :: 5 :: 6 :: 10 :: 11 :: (rl 14 99 []))))) (rl 86 4 [])
 A15v1)
def A15v3 : AC := (.seq (.region 16 [mv 102 13,o1 103 (.unOp .not 4 (tm 102))] 0 none) []
 (.cond (tm 103)
 (.region 17 [mv 104 7,o1 105 (fa 46 3 0 0),o1 106 (lo 9 105),o1 107 (ln 49 2 12),mv 108 2,o1 109 (.build 51 [vcs ByteArray.empty,vci 0,vci 0,vci 0] [(0,1),(1,2),(3,1)] 0 [(0,(tm 106)),(1,(tm 107)),(2,(tm 108))]),o1 110 (.buildSlice 0 33 51 (.pr .str kV) 1 [vcs ByteArray.empty,vci 0,vci 0,vci 0] [(0,(tm 109))]),o1 111 (.append 1 33 51 (.pr .str kV) 40 (tm 104) (tm 110)),o1 7 (sg 111)] 2 none)
 .skip))
def A15v4 : AC := (.seq (.region 11 [o1 13 (sb false)] 0 none) []
 (.seq (.seq (.region 12 [o1 14 (sk 0)] 0 none) []
 (.block 2
 (.loop [] (0 :: 4 :: 5 :: 6 :: 10 :: 11 :: (rl 15 98 []))
  A15v2))) (14 :: (rl 86 16 []))
 A15v3))
def A15v5 : AC := (.region 7 [mv 31 9,o1 32 (bk .add 3 31 1),o1 9 (sg 32)] 0 none)
def A15v6 : AC := (.seq (.block 1
 (.seq (.region 8 [o1 33 (ln 44 4 8),mv 34 1,mv 35 9,o1 36 (bk .sub 3 35 1),o1 37 (.indexAddr 29 42 3 (tm 34) (tm 36)),o1 38 (ln 42 3 37),o1 39 (cs 31 [33,38] [44,42]),o1 40 (ln 44 4 8),mv 41 1,mv 42 9,o1 43 (.indexAddr 29 42 3 (tm 41) (tm 42)),o1 44 (ln 42 3 43),o1 45 (cs 31 [40,44] [44,42]),o1 10 (.alloc 0 42 [vci 0,vci 0,vci 0]),o1 11 (.alloc 1 42 [vci 0,vci 0,vci 0]),o0 (.store 42 3 (tm 10) (tm 39)),o0 (.store 42 3 (tm 11) (tm 45))] 2 (some [[],[],[],[2],[1,2,3],(rl 1 4 []),(rl 0 6 []),[],[],[],[8,9],[8,9,10],(rl 0 12 []),[],[],(rl 0 15 []),(rl 0 16 [])])) []
  (.seq (.region 9 [o1 46 (fa 42 10 0 0),o1 47 (lo 3 46),o1 48 (fa 42 10 1 1),o1 49 (lo 3 48),o1 50 (.build 49 [vci 0,vci 0] [(0,1),(1,1)] 0 [(0,(tm 47)),(1,(tm 49))]),o1 12 (.alloc 0 49 [vci 0,vci 0]),o0 (.store 49 2 (tm 12) (tm 50))] 1 none) []
  (.seq (.seq (.region 10 [o1 51 (fa 42 10 0 0),o1 52 (lo 3 51),o1 53 (fa 42 11 0 0),o1 54 (lo 3 53),o1 55 (bt .neq 3 52 54),mv 56 55,og 57 (fa 42 10 1 1) 56 false,og 58 (lo 3 57) 56 false,og 59 (fa 42 11 1 1) 56 false,og 60 (lo 3 59) 56 false,og 61 (bt .neq 3 58 60) 56 false,o1 62 (pa 56 61),mv 63 62,og 64 (fa 42 10 2 2) 63 false,og 65 (lo 3 64) 63 false,og 66 (fa 42 11 2 2) 63 false,og 67 (lo 3 66) 63 false,og 68 (.mm false [(tm 65),(tm 67)] [3,3]) 63 false,og 69 (bk .gtr 3 68 0) 63 false,o1 70 (pa 63 69),mv 71 70,og 72 (fa 42 10 2 2) 71 false,og 73 (lo 3 72) 71 false,og 74 (fa 42 11 2 2) 71 false,og 75 (lo 3 74) 71 false,og 76 (.mm true [(tm 73),(tm 75)] [3,3]) 71 false,og 77 (bk .lss 3 76 0) 71 false,o1 78 (pa 71 77),mv 79 78,og 80 (ln 46 18 3) 79 false,og 81 (cf 33 [80] [46]) 79 false,og 82 (ln 49 2 12) 79 false,og 83 (cs 32 [81,82] [40,49]) 79 false,og 84 (bk .lss 3 83 0) 79 false,o1 85 (pa 79 84)] 0 (some [[],[0],[],[2],(rl 0 4 []),(rl 0 5 []),(rl 0 6 []),(rl 0 7 []),(rl 0 6 []),(rl 0 6 [8]),(rl 0 10 []),(rl 0 11 []),(rl 0 12 []),(rl 0 13 []),(rl 0 14 []),(rl 0 13 []),(rl 0 13 [15]),(rl 0 17 []),(rl 0 18 []),(rl 0 19 []),(rl 0 20 []),(rl 0 21 []),(rl 0 22 []),(rl 0 21 []),(rl 0 21 [23]),(rl 0 25 []),(rl 0 26 []),(rl 0 27 []),(rl 0 28 []),(rl 0 29 []),(rl 0 30 []),(rl 0 29 []),(rl 0 32 []),(rl 0 33 []),(rl 0 34 [])])) []
  (.cond (tm 85)
  (.exit 1 (0 :: 4 :: 5 :: 6 :: (rl 10 103 [])))
  .skip)) (rl 51 35 [])
  A15v4)))) (rl 10 5 (rl 33 79 []))
 A15v5)
def A15v7 : AC := (.seq (.seq (.region 6 [mv 27 9,mv 28 1,o1 29 (.len 29 false (tm 28)),o1 30 (bt .lss 3 27 29)] 0 none) []
 (.cond (tm 30)
 .skip
 (.exit 0 (rl 0 7 (rl 8 105 []))))) (rl 27 4 [])
 A15v6)
def A15v8 : AC := (.seq (.region 18 [mv 112 7,o1 6 (sg 112)] 0 none) []
 (.ret (rl 0 6 (rl 7 106 []))))
def A15v9 : AC := (.seq (.region 3 [o1 7 (.assign (.const (.slice none 0 0)))] 0 none) []
 (.seq (.region 4 [o1 24 (fa 46 3 11 14),o1 25 (ln 44 4 24),o1 26 (cs 30 [25] [44]),o1 8 (.alloc 0 44 [vci 0,vci 0,vci 0,vci 0]),o0 (.store 44 4 (tm 8) (tm 26))] 1 none) []
 (.seq (.seq (.region 5 [o1 9 (sk 1)] 0 none) []
 (.block 0
 (.loop [.slot 7 (.pr .str kV)] (0 :: 4 :: 5 :: 6 :: (rl 10 103 []))
  A15v7))) (rl 9 6 (rl 27 85 []))
 A15v8)))
def A15 : AF := ⟨113,[.tmp 6],
 (.seq (.region 0 [o1 3 (bx 0 46 0),o1 6 (.assign (.const (.slice none 0 0)))] 1 none) []
 (.seq (.seq (.region 1 [o1 15 (ln 46 18 3),o1 16 (cs 28 [15] [46]),o1 17 (.unOp .not 4 (tm 16)),mv 18 17,og 19 (.move (tm 1)) 18 false,og 20 (.move (tm 2)) 18 false,og 21 (cs 29 [19,20] [29,3]) 18 false,og 22 (.unOp .not 4 (tm 21)) 18 false,o1 23 (pa 18 22)] 0 none) []
 (.cond (tm 23)
 (.seq (.region 2 [o1 6 (.assign (.const (.slice none 0 0)))] 0 none) []
  (.ret (rl 0 6 (rl 7 106 []))))
 .skip)) (6 :: (rl 15 9 []))
 A15v9))⟩
def B149v2 (C : Oracle) (u : Nat) : St → (Ex → St → Option ρ) → Option ρ := fun st k => evalC C u A15v2 st k
def N149v2 : St → Option St := fun s => s.norm (0 :: 4 :: 5 :: 6 :: 10 :: 11 :: (rl 15 98 [])) 6
def s149v0 (x0 : Nat) (x1 : FF) (x2 : Int) (x3 : Nat) (x4 : Int) (x5 : Bool) (x6 : Int) (x7 : Nat → CV) (x8 x9 xA xB : Int) (xC : FF) (xD xE xF xG xH xI : Int) : St := ⟨(.u :: .x (.c (ro kV x0 x1)) :: vxi x2 :: .x (.ptr 0 0) :: (us 3 (.x (.own 2 0 x3) :: .x (.ptr 1 0) :: vxi x4 :: .u :: .u :: .x (.ptr 5 0) :: vxb x5 :: vxi x6 :: (us 98 [])))),[.box (pjc kR0 x7),.box [(vci x8),(vci x9),(vci xA),(vci xB)],.arr (.pr .str kV) x3 xC,.box [(vci xD),(vci xE),(vci xF)],.box [(vci xG),(vci xH),(vci xI)],.box [(vci xD),(vci xE)]]⟩
def s149v1 (x0 : Nat) (x1 : FF) (x2 : Int) (x3 : Nat) (x4 : Int) (x5 : Bool) (x6 : Nat → CV) (x7 x8 x9 xA : Int) (xB : FF) (xC xD xE xF xG xH : Int) : St := ⟨(.u :: .x (.c (ro kV x0 x1)) :: vxi x2 :: .x (.ptr 0 0) :: (us 3 (.x (.own 2 0 x3) :: .x (.ptr 1 0) :: vxi x4 :: .u :: .u :: .x (.ptr 5 0) :: vxb x5 :: (us 99 [])))),[.box (pjc kR0 x6),.box [(vci x7),(vci x8),(vci x9),(vci xA)],.arr (.pr .str kV) x3 xB,.box [(vci xC),(vci xD),(vci xE)],.box [(vci xF),(vci xG),(vci xH)],.box [(vci xC),(vci xD)]]⟩
def L149v2 {ρ : Type} (u : Nat) (x0 : Nat) (x1 : FF) (x2 : Int) (x3 : Nat) (x4 : Int) (x5 : Nat → CV) (x6 x7 x8 x9 : Int) (xA : FF) (xB xC xD xE xF xG : Int) : Nat → Bool → Int → (Bool → Option ρ) → Option ρ
 | 0,_,_,_ => none
 | m + 1,xH,xI,k0 =>
  (bif (decide (xI < (Int.ofNat x3))) then (bif (xH == false) then (bif (inb xI x3) then (L149v2 u x0 x1 x2 x3 x4 x5 x6 x7 x8 x9 xA xB xC xD xE xF xG m (((xA (0 + xI.toNat) 1).int == xB) && (((xA (0 + xI.toNat) 2).int == xC) && true)) (w64 (xI + 1)) k0) else none) else (L149v2 u x0 x1 x2 x3 x4 x5 x6 x7 x8 x9 xA xB xC xD xE xF xG m true (w64 (xI + 1)) k0)) else (k0 xH))
theorem nl149v2 {ρ σ : Type} (u : Nat) (x0 : Nat) (x1 : FF) (x2 : Int) (x3 : Nat) (x4 : Int) (x5 : Nat → CV) (x6 x7 x8 x9 : Int) (xA : FF) (xB xC xD xE xF xG : Int) (g : ρ → Option σ) : ∀ (m : Nat) (xH : Bool) (xI : Int) (k0 : Bool → Option ρ),ob (L149v2 u x0 x1 x2 x3 x4 x5 x6 x7 x8 x9 xA xB xC xD xE xF xG m xH xI k0) g = L149v2 u x0 x1 x2 x3 x4 x5 x6 x7 x8 x9 xA xB xC xD xE xF xG m xH xI (fun xJ => ob (k0 xJ) g)
 | 0,_,_,_ => rfl
 | m + 1,xH,xI,k0 => by
  simp only [L149v2,ob_bif,ob_ob,ob_none,nl149v2 u x0 x1 x2 x3 x4 x5 x6 x7 x8 x9 xA xB xC xD xE xF xG g m]
theorem r149v2 (m : Nat) (k : Ex → St → Option ρ) (x0 : Nat) (x1 : FF) (x2 : Int) (x3 : Nat) (x4 : Int) (x5 : Nat → CV) (x6 x7 x8 x9 : Int) (xA : FF) (xB xC xD xE xF xG : Int) (xH : Bool) (xI : Int) :
  loopH (B149v2 (C94 u) u) N149v2 (m + 1) (s149v0 x0 x1 x2 x3 x4 xH xI x5 x6 x7 x8 x9 xA xB xC xD xE xF xG) k =
  (bif (decide (xI < (Int.ofNat x3))) then (bif (xH == false) then (bif (inb xI x3) then (loopH (B149v2 (C94 u) u) N149v2 m (s149v0 x0 x1 x2 x3 x4 (((xA (0 + xI.toNat) 1).int == xB) && (((xA (0 + xI.toNat) 2).int == xC) && true)) (w64 (xI + 1)) x5 x6 x7 x8 x9 xA xB xC xD xE xF xG) k) else none) else (loopH (B149v2 (C94 u) u) N149v2 m (s149v0 x0 x1 x2 x3 x4 true (w64 (xI + 1)) x5 x6 x7 x8 x9 xA xB xC xD xE xF xG) k)) else (k (.exit 2) (s149v1 x0 x1 x2 x3 x4 xH x5 x6 x7 x8 x9 xA xB xC xD xE xF xG))) := by kernel_rfl
theorem q149v2 (u : Nat) (x0 : Nat) (x1 : FF) (x2 : Int) (x3 : Nat) (x4 : Int) (x5 : Nat → CV) (x6 x7 x8 x9 : Int) (xA : FF) (xB xC xD xE xF xG : Int) {ρ : Type} (k : Ex → St → Option ρ) : ∀ (m : Nat) (xH : Bool) (xI : Int),
  loopH (B149v2 (C94 u) u) N149v2 m (s149v0 x0 x1 x2 x3 x4 xH xI x5 x6 x7 x8 x9 xA xB xC xD xE xF xG) k = L149v2 u x0 x1 x2 x3 x4 x5 x6 x7 x8 x9 xA xB xC xD xE xF xG m xH xI (fun xJ => k (.exit 2) (s149v1 x0 x1 x2 x3 x4 xJ x5 x6 x7 x8 x9 xA xB xC xD xE xF xG))
 | 0,_,_ => rfl
 | m + 1,xH,xI => by
  rw [r149v2]
  simp only [L149v2,q149v2 u x0 x1 x2 x3 x4 x5 x6 x7 x8 x9 xA xB xC xD xE xF xG k m]
def B149v3 (C : Oracle) (u : Nat) : St → (Ex → St → Option ρ) → Option ρ := fun st k => evalC C u A15v7 st k
def N149v3 : St → Option St := fun s => s.norm (0 :: 4 :: 5 :: 6 :: (rl 10 103 [])) 3
def s149v2 (x0 : Nat) (x1 : FF) (x2 : Int) (x3 : Nat) (x4 : Int) (x5 : Nat → CV) (x6 x7 x8 x9 : Int) (xA : FF) : St := ⟨(.u :: .x (.c (ro kV x0 x1)) :: vxi x2 :: .x (.ptr 0 0) :: (us 3 (.x (.own 2 0 x3) :: .x (.ptr 1 0) :: vxi x4 :: (us 103 [])))),[.box (pjc kR0 x5),.box [(vci x6),(vci x7),(vci x8),(vci x9)],.arr (.pr .str kV) x3 xA]⟩
def s149v3 (x0 : Nat) (x1 : Nat → CV) (x2 x3 x4 x5 : Int) (x6 : FF) : St := ⟨(us 7 (.x (.own 2 0 x0) :: (us 105 []))),[.box (pjc kR0 x1),.box [(vci x2),(vci x3),(vci x4),(vci x5)],.arr (.pr .str kV) x0 x6]⟩
def L149v3 {ρ : Type} (u : Nat) (x0 : Nat) (x1 : FF) (x2 : Int) (x3 : Nat → CV) (x4 x5 x6 x7 : Int) : Nat → Nat → Int → FF → (Nat → FF → Option ρ) → Option ρ
 | 0,_,_,_,_ => none
 | m + 1,x8,x9,xA,k0 =>
  (bif (decide (x9 < (Int.ofNat x0))) then (bif (inb (w64 (x9 - 1)) x0) then (ob (F148 100 x4 x5 x6 x7 (CV.int (x1 (Int.toNat (w64 (x9 - 1))) 0)) (CV.int (x1 (Int.toNat (w64 (x9 - 1))) 1)) (CV.int (x1 (Int.toNat (w64 (x9 - 1))) 2))) fun xB => (bif (inb x9 x0) then (ob (F148 100 x4 x5 x6 x7 (x1 x9.toNat 0).int (x1 x9.toNat 1).int (x1 x9.toNat 2).int) fun xC => (bif ((xB.1 != xC.1) == false) then (bif ((xB.2.1 != xC.2.1) == false) then (bif ((decide ((if xC.2.2 < xB.2.2 then xC.2.2 else xB.2.2) > 0)) == false) then (bif ((decide ((if xC.2.2 > xB.2.2 then xC.2.2 else xB.2.2) < 0)) == false) then (ob (F134 100 (listF (pj kR0 x3))) fun xD => (ob (F23 100 xD.1 xD.2.1 xD.2.2.1 xD.2.2.2 xB.1 xB.2.1) fun xE => (bif (decide (xE < 0)) then (L149v3 u x0 x1 x2 x3 x4 x5 x6 x7 m x8 (w64 (x9 + 1)) xA k0) else (L149v2 u x0 x1 x2 x8 x9 x3 x4 x5 x6 x7 xA xB.1 xB.2.1 xB.2.2 xC.1 xC.2.1 xC.2.2 u false 0
  (fun xF => (bif (!xF) then (bif (Nat.ble (x8 + 1) 1073741824) then (L149v3 u x0 x1 x2 x3 x4 x5 x6 x7 m (x8 + 1) (w64 (x9 + 1)) (joinF x8 xA (rowsF 4 [(.s (x3 0).str),(.i .i64 xB.1),(.i .i64 xB.2.1),(.i .i64 x2)])) k0) else none) else (L149v3 u x0 x1 x2 x3 x4 x5 x6 x7 m x8 (w64 (x9 + 1)) xA k0))))))) else (L149v3 u x0 x1 x2 x3 x4 x5 x6 x7 m x8 (w64 (x9 + 1)) xA k0)) else (L149v3 u x0 x1 x2 x3 x4 x5 x6 x7 m x8 (w64 (x9 + 1)) xA k0)) else (L149v3 u x0 x1 x2 x3 x4 x5 x6 x7 m x8 (w64 (x9 + 1)) xA k0)) else (L149v3 u x0 x1 x2 x3 x4 x5 x6 x7 m x8 (w64 (x9 + 1)) xA k0))) else none)) else none) else (k0 x8 xA))
theorem nl149v3 {ρ σ : Type} (u : Nat) (x0 : Nat) (x1 : FF) (x2 : Int) (x3 : Nat → CV) (x4 x5 x6 x7 : Int) (g : ρ → Option σ) : ∀ (m : Nat) (x8 : Nat) (x9 : Int) (xA : FF) (k0 : Nat → FF → Option ρ),ob (L149v3 u x0 x1 x2 x3 x4 x5 x6 x7 m x8 x9 xA k0) g = L149v3 u x0 x1 x2 x3 x4 x5 x6 x7 m x8 x9 xA (fun xB xC => ob (k0 xB xC) g)
 | 0,_,_,_,_ => rfl
 | m + 1,x8,x9,xA,k0 => by
  simp only [L149v3,ob_bif,ob_ob,ob_none,nl149v3 u x0 x1 x2 x3 x4 x5 x6 x7 g m,nl149v2]
def s149v4 (x0 : Nat) (x1 : FF) (x2 : Int) (x3 : Nat) (x4 x5 x6 x7 x8 : Int) (x9 xA : Int × Int × Int) (xB : Nat → CV) (xC : FF) : St := ⟨(.u :: .x (.c (ro kV x0 x1)) :: vxi x2 :: .x (.ptr 0 0) :: (us 3 (.x (.own 2 0 x3) :: .x (.ptr 1 0) :: vxi x4 :: .x (.ptr 3 0) :: .x (.ptr 4 0) :: .x (.ptr 5 0) :: vxb false :: vxi 0 :: (us 18 (.agg [(vci x5),(vci x6),(vci x7),(vci x8)] :: .x (.c (ro kV x0 x1)) :: vxi x4 :: vxi (w64 (x4 - 1)) :: .x (.c (.rp kV (x1 (Int.toNat (w64 (x4 - 1)))))) :: .agg [(vci (CV.int (x1 (Int.toNat (w64 (x4 - 1))) 0))),(vci (CV.int (x1 (Int.toNat (w64 (x4 - 1))) 1))),(vci (CV.int (x1 (Int.toNat (w64 (x4 - 1))) 2)))] :: .agg [(vci x9.1),(vci x9.2.1),(vci x9.2.2)] :: .agg [(vci x5),(vci x6),(vci x7),(vci x8)] :: .x (.c (ro kV x0 x1)) :: vxi x4 :: .x (.c (.rp kV (x1 x4.toNat))) :: .agg [(vci (x1 x4.toNat 0).int),(vci (x1 x4.toNat 1).int),(vci (x1 x4.toNat 2).int)] :: .agg [(vci xA.1),(vci xA.2.1),(vci xA.2.2)] :: .x (.ptr 3 0) :: vxi x9.1 :: .x (.ptr 3 1) :: vxi x9.2.1 :: .agg [(vci x9.1),(vci x9.2.1)] :: (us 62 [])))))),[.box (pjc kR0 xB),.box [(vci x5),(vci x6),(vci x7),(vci x8)],.arr (.pr .str kV) x3 xC,.box [(vci x9.1),(vci x9.2.1),(vci x9.2.2)],.box [(vci xA.1),(vci xA.2.1),(vci xA.2.2)],.box [(vci x9.1),(vci x9.2.1)]]⟩
theorem r149v3 (m : Nat) (k : Ex → St → Option ρ) (x0 : Nat) (x1 : FF) (x2 : Int) (x3 : Nat → CV) (x4 x5 x6 x7 : Int) (x8 : Nat) (x9 : Int) (xA : FF) :
  loopH (B149v3 (C94 u) u) N149v3 (m + 1) (s149v2 x0 x1 x2 x8 x9 x3 x4 x5 x6 x7 xA) k =
  (bif (decide (x9 < (Int.ofNat x0))) then (bif (inb (w64 (x9 - 1)) x0) then (ob (F148 100 x4 x5 x6 x7 (CV.int (x1 (Int.toNat (w64 (x9 - 1))) 0)) (CV.int (x1 (Int.toNat (w64 (x9 - 1))) 1)) (CV.int (x1 (Int.toNat (w64 (x9 - 1))) 2))) fun xB => (bif (inb x9 x0) then (ob (F148 100 x4 x5 x6 x7 (x1 x9.toNat 0).int (x1 x9.toNat 1).int (x1 x9.toNat 2).int) fun xC => (bif ((xB.1 != xC.1) == false) then (bif ((xB.2.1 != xC.2.1) == false) then (bif ((decide ((if xC.2.2 < xB.2.2 then xC.2.2 else xB.2.2) > 0)) == false) then (bif ((decide ((if xC.2.2 > xB.2.2 then xC.2.2 else xB.2.2) < 0)) == false) then (ob (F134 100 (listF (pj kR0 x3))) fun xD => (ob (F23 100 xD.1 xD.2.1 xD.2.2.1 xD.2.2.2 xB.1 xB.2.1) fun xE => (bif (decide (xE < 0)) then (loopH (B149v3 (C94 u) u) N149v3 m (s149v2 x0 x1 x2 x8 (w64 (x9 + 1)) x3 x4 x5 x6 x7 xA) k) else (loopN (B149v2 (C94 u) u) N149v2 u (s149v4 x0 x1 x2 x8 x9 x4 x5 x6 x7 xB xC x3 xA) (kBlk 2 (kSeq (C94 u) u (14 :: (rl 86 16 [])) A15v3 (kBlk 1 (kSeq (C94 u) u (rl 10 5 (rl 33 79 [])) A15v5 (kLoop (B149v3 (C94 u) u) N149v3 m k))))))))) else (loopH (B149v3 (C94 u) u) N149v3 m (s149v2 x0 x1 x2 x8 (w64 (x9 + 1)) x3 x4 x5 x6 x7 xA) k)) else (loopH (B149v3 (C94 u) u) N149v3 m (s149v2 x0 x1 x2 x8 (w64 (x9 + 1)) x3 x4 x5 x6 x7 xA) k)) else (loopH (B149v3 (C94 u) u) N149v3 m (s149v2 x0 x1 x2 x8 (w64 (x9 + 1)) x3 x4 x5 x6 x7 xA) k)) else (loopH (B149v3 (C94 u) u) N149v3 m (s149v2 x0 x1 x2 x8 (w64 (x9 + 1)) x3 x4 x5 x6 x7 xA) k))) else none)) else none) else (k (.exit 0) (s149v3 x8 x3 x4 x5 x6 x7 xA))) := by kernel_rfl
theorem t149v1 (k : Ex → St → Option ρ) (x0 : Nat) (x1 : FF) (x2 : Int) (x3 : Nat) (x4 x5 x6 x7 x8 : Int) (x9 xA : Int × Int × Int) (xB : Nat → CV) (xC : FF) :
  loopN (B149v2 (C94 u) u) N149v2 u (s149v4 x0 x1 x2 x3 x4 x5 x6 x7 x8 x9 xA xB xC) k =
  L149v2 u x0 x1 x2 x3 x4 xB x5 x6 x7 x8 xC x9.1 x9.2.1 x9.2.2 xA.1 xA.2.1 xA.2.2 u false 0 (fun xD => k (.exit 2) (s149v1 x0 x1 x2 x3 x4 xD xB x5 x6 x7 x8 xC x9.1 x9.2.1 x9.2.2 xA.1 xA.2.1 xA.2.2)) :=
 (loopN_at (st' := (s149v0 x0 x1 x2 x3 x4 false 0 xB x5 x6 x7 x8 xC x9.1 x9.2.1 x9.2.2 xA.1 xA.2.1 xA.2.2)) (by kernel_rfl)).trans (q149v2 u x0 x1 x2 x3 x4 xB x5 x6 x7 x8 xC x9.1 x9.2.1 x9.2.2 xA.1 xA.2.1 xA.2.2 k u false 0)
theorem g149v2 (m : Nat) (k : Ex → St → Option ρ) (x0 : Nat) (x1 : FF) (x2 : Int) (x3 : Nat) (x4 : Int) (x5 : Bool) (x6 : Nat → CV) (x7 x8 x9 xA : Int) (xB : FF) (xC xD : Int × Int × Int) :
  (kBlk 2 (kSeq (C94 u) u (14 :: (rl 86 16 [])) A15v3 (kBlk 1 (kSeq (C94 u) u (rl 10 5 (rl 33 79 [])) A15v5 (kLoop (B149v3 (C94 u) u) N149v3 m k))))) (.exit 2) (s149v1 x0 x1 x2 x3 x4 x5 x6 x7 x8 x9 xA xB xC.1 xC.2.1 xC.2.2 xD.1 xD.2.1 xD.2.2) =
  (bif (!x5) then (bif (Nat.ble (x3 + 1) 1073741824) then (loopH (B149v3 (C94 u) u) N149v3 m (s149v2 x0 x1 x2 (x3 + 1) (w64 (x4 + 1)) x6 x7 x8 x9 xA (joinF x3 xB (rowsF 4 [(.s (x6 0).str),(vi xC.1),(vi xC.2.1),(vi x2)]))) k) else none) else (loopH (B149v3 (C94 u) u) N149v3 m (s149v2 x0 x1 x2 x3 (w64 (x4 + 1)) x6 x7 x8 x9 xA xB) k)) := by kernel_rfl
theorem q149v3 (u : Nat) (x0 : Nat) (x1 : FF) (x2 : Int) (x3 : Nat → CV) (x4 x5 x6 x7 : Int) {ρ : Type} (k : Ex → St → Option ρ) : ∀ (m : Nat) (x8 : Nat) (x9 : Int) (xA : FF),
  loopH (B149v3 (C94 u) u) N149v3 m (s149v2 x0 x1 x2 x8 x9 x3 x4 x5 x6 x7 xA) k = L149v3 u x0 x1 x2 x3 x4 x5 x6 x7 m x8 x9 xA (fun xB xC => k (.exit 0) (s149v3 xB x3 x4 x5 x6 x7 xC))
 | 0,_,_,_ => rfl
 | m + 1,x8,x9,xA => by
  rw [r149v3]
  simp only [L149v3,q149v3 u x0 x1 x2 x3 x4 x5 x6 x7 k m,t149v1,g149v2]
def D149 (x0 : Nat → CV) (x1 : Nat) (x2 : FF) (x3 : Int) (k : (Bool × Nat × FF) → Option ρ) : Option ρ :=
 (ob (F135 100 (listF (pj kR0 x0))) fun x4 => (bif ((!x4) == false) then (ob (F139 100 x1 x2 x3) fun x5 => (bif (!x5) then (k (true,0,(fun _ _ => .any))) else (ob (F146 100 (x0 14).int (x0 15).int (x0 16).int (x0 17).int) fun x6 => (L149v3 u x1 x2 x3 x0 x6.1 x6.2.1 x6.2.2.1 x6.2.2.2 u 0 1 (fun _ _ => .any)
  (fun x7 x8 => (k (false,x7,x8))))))) else (k (true,0,(fun _ _ => .any)))))
def FT149 (x0 : Nat → CV) (x1 : Nat) (x2 : FF) (x3 : Int) : Option (Bool × Nat × FF) := D149 u x0 x1 x2 x3 some
theorem f149 (x0 : Nat → CV) (x1 : Nat) (x2 : FF) (x3 : Int) (k : (Bool × Nat × FF) → Option ρ) : D149 u x0 x1 x2 x3 k = ob (FT149 u x0 x1 x2 x3) k := by
 simp only [FT149,D149,ob_bif,ob_ob,ob_none,ob_some,nl149v3]
def s149v5 (x0 : Nat → CV) (x1 : Nat) (x2 : FF) (x3 : Int) (x4 : Int × Int × Int × Int) : St := ⟨(.agg (pjc kR0 x0) :: .x (.c (ro kV x1 x2)) :: vxi x3 :: .x (.ptr 0 0) :: uu :: uu :: .u :: .x (.own 2 0 0) :: .x (.ptr 1 0) :: vxi 1 :: uu :: uu :: uu :: uu :: uu :: (us 9 [.x (.ptr 0 14),.agg [(vci (x0 14).int),(vci (x0 15).int),(vci (x0 16).int),(vci (x0 17).int)],.agg [(vci x4.1),(vci x4.2.1),(vci x4.2.2.1),(vci x4.2.2.2)],uu,uu,uu,uu,uu,uu,uu,uu,uu,uu,uu,uu,uu,uu,uu,uu,uu,uu,uu,uu,uu,uu,uu,uu,uu,uu,uu,uu,uu,uu,uu,uu,uu,uu,uu,uu,uu,uu,uu,uu,uu,uu,uu,uu,uu,uu,uu,uu,uu,uu,uu,uu,uu,uu,uu,uu,uu,uu,uu,uu,uu,uu,uu,uu,uu,uu,uu,uu,uu,uu,uu,uu,uu,uu,uu,uu,uu,uu,uu,uu,uu,uu,uu,uu,uu,uu])),[.box (pjc kR0 x0),.box [(vci x4.1),(vci x4.2.1),(vci x4.2.2.1),(vci x4.2.2.2)],.arr (.pr .str kV) 0 nilF]⟩
theorem t149v3 (k : Ex → St → Option ρ) (x0 : Nat → CV) (x1 : Nat) (x2 : FF) (x3 : Int) (x4 : Int × Int × Int × Int) :
  loopN (B149v3 (C94 u) u) N149v3 u (s149v5 x0 x1 x2 x3 x4) k =
  L149v3 u x1 x2 x3 x0 x4.1 x4.2.1 x4.2.2.1 x4.2.2.2 u 0 1 nilF (fun x5 x6 => k (.exit 0) (s149v3 x5 x0 x4.1 x4.2.1 x4.2.2.1 x4.2.2.2 x6)) :=
 (loopN_at (st' := (s149v2 x1 x2 x3 0 1 x0 x4.1 x4.2.1 x4.2.2.1 x4.2.2.2 nilF)) (by kernel_rfl)).trans (q149v3 u x1 x2 x3 x0 x4.1 x4.2.1 x4.2.2.1 x4.2.2.2 k u 0 1 nilF)
theorem g149v4 (x0 : Nat) (x1 : Nat → CV) (x2 : Int × Int × Int × Int) (x3 : FF) :
  (kBlk 0 (kSeq (C94 u) u (rl 9 6 (rl 27 85 [])) A15v8 (finish A15))) (.exit 0) (s149v3 x0 x1 x2.1 x2.2.1 x2.2.2.1 x2.2.2.2 x3) =
  (some [.v (ro (.pr .str kV) x0 x3)]) := by kernel_rfl
theorem e149 (x0 : Nat → CV) (x1 : Nat) (x2 : FF) (x3 : Int) : evalF (C94 u) u A15 [.agg (pj kR0 x0),.v (ro kV x1 x2),.v (vi x3)] = ob (FT149 u x0 x1 x2 x3) fun t => some (bif t.1 then [.v (.ro true .nil 0 nilF)] else [.v (ro (.pr .str kV) t.2.1 t.2.2)]) := Eq.trans (b := (ob (F135 100 (listF (pj kR0 x0))) fun x4 => (bif ((!x4) == false) then (ob (F139 100 x1 x2 x3) fun x5 => (bif (!x5) then (some [.v (.ro true .nil 0 nilF)]) else (ob (F146 100 (x0 14).int (x0 15).int (x0 16).int (x0 17).int) fun x6 => (loopN (B149v3 (C94 u) u) N149v3 u (s149v5 x0 x1 x2 x3 x6) (kBlk 0 (kSeq (C94 u) u (rl 9 6 (rl 27 85 [])) A15v8 (finish A15))))))) else (some [.v (.ro true .nil 0 nilF)])))) (by kernel_rfl) (by
 rw [← f149]
 simp only [D149,t149v3,g149v4,cond_true,cond_false])
def F149 (x0 : Nat → CV) (x1 : Nat) (x2 : FF) (x3 : Int) : Option (Nat × FF) := ob (FT149 u x0 x1 x2 x3) fun t => some (bif t.1 then (0,(fun _ _ => .any)) else (t.2.1,t.2.2))
def O149 : Ora where
 o := fun args {ρ} K =>
  wc args fun a1 l2 =>
  wrow kR0 a1 fun y3 =>
  wcL kV l2 fun y8 y9 l6 =>
  wcI .i64 l6 fun y13 l11 =>
  wn l11 <|
  (ob (F149 u y3 y8 y9 y13) fun t => K [.v (ro (.pr .str kV) t.1 t.2)])
 nat := fun args {ρ} K => by
  simp only [bind_wc,bind_wcI,bind_wcL,bind_wn,bind_wrow,bind_ob,Option.bind_some]
theorem d149 (fuel : Nat) : DO (O149 fuel) (C94 fuel) 15 A15 := by
 intro P hmix hC hF args res h
 obtain ⟨a1,l2,rfl,z0⟩ := inv_wc h
 obtain ⟨y3,h4,z1⟩ := inv_wrow z0
 obtain ⟨a5,y8,y9,l6,rfl,h7,z2⟩ := inv_wcL z1
 obtain ⟨a10,y13,l11,rfl,h12,z3⟩ := inv_wcI z2
 obtain ⟨hn,z4⟩ := inv_wn z3
 cases hn
 obtain ⟨u,hu,hr⟩ := ob_inv z4
 cases hr
 obtain ⟨t,ht,hv⟩ := ob_inv (show ob (FT149 fuel y3 y8 y9 y13) _ = some u from hu)
 cases hv
 refine Den.results ?_ (Den.weaken (.cons h4 (.cons h7 (.cons h12 .nil))) (evalF_sound hmix hC hF ((e149 fuel y3 y8 y9 y13).trans (by rw [ht]; rfl))))
 obtain ⟨b,t⟩ := t
 cases b with
 | true => exact (.cons (WkA.v (Wk.ro (by rfl))) .nil)
 | false =>
  exact (.cons (WkA.v (Wk.refl _)) .nil)
def C95 : Oracle := (C94 u).add 15 (fun _ => true) (O149 100)
def A8v1 : AC := (.seq (.block 1
 (.region 5 [mv 16 7,o1 17 (fa 28 3 2 2),o1 18 (lo 23 17),mv 19 8,o1 20 (.indexAddr 23 46 18 (tm 18) (tm 19)),o1 21 (ln 46 18 20),mv 22 1,mv 23 2,o1 24 (cf 15 [21,22,23] [46,29,3]),o1 25 (.append 0 33 51 (.pr .str kV) 40 (tm 16) (tm 24)),o1 7 (sg 25)] 1 none)) []
 (.region 4 [mv 14 8,o1 15 (bk .add 3 14 1),o1 8 (sg 15)] 0 none))
def A8v2 : AC := (.seq (.seq (.region 3 [mv 9 8,o1 10 (fa 28 3 2 2),o1 11 (lo 23 10),o1 12 (.len 23 false (tm 11)),o1 13 (bt .lss 3 9 12)] 0 none) []
 (.cond (tm 13)
 .skip
 (.exit 0 (rl 0 7 (rl 8 19 []))))) (rl 9 5 [])
 A8v1)
def A8v3 : AC := (.seq (.region 6 [mv 26 7,o1 6 (sg 26)] 0 none) []
 (.ret (rl 0 6 (rl 7 20 []))))
def A8 : AF := ⟨27,[.tmp 6],
 (.seq (.region 0 [o1 3 (bx 0 28 0),o1 6 (.assign (.const (.slice none 0 0)))] 1 none) []
 (.seq (.region 1 [o1 7 (.assign (.const (.slice none 0 0)))] 0 none) []
 (.seq (.seq (.region 2 [o1 8 (sk 0)] 0 none) []
 (.block 0
 (.loop [.slot 7 (.pr .str kV)] (0 :: 4 :: 5 :: 6 :: (rl 9 18 []))
  A8v2))) (rl 8 18 [])
 A8v3)))⟩
def B164v1 (C : Oracle) (u : Nat) : St → (Ex → St → Option ρ) → Option ρ := fun st k => evalC C u A8v2 st k
def N164v1 : St → Option St := fun s => s.norm (0 :: 4 :: 5 :: 6 :: (rl 9 18 [])) 2
def s164v0 (x0 : Nat) (x1 : FF) (x2 : Int) (x3 : Nat) (x4 : Int) (x5 : ByteArray) (x6 : Nat) (x7 : FF) (x8 : Nat) (x9 : FF) (xA : Nat) (xB : FF) (xC : Nat) (xD : FF) (xE : Nat) (xF xG : FF) : St := ⟨(.u :: .x (.c (ro kV x0 x1)) :: vxi x2 :: .x (.ptr 0 0) :: (us 3 (.x (.own 1 0 x3) :: vxi x4 :: (us 18 [])))),[.box [(vcs x5),(.c (ro kC x6 x7)),(.c (ro kA x8 x9)),(.c (ro kF xA xB)),(.c (ro kB xC xD)),(.c (ro kD xE xF))],.arr (.pr .str kV) x3 xG]⟩
def s164v1 (x0 : Nat) (x1 : ByteArray) (x2 : Nat) (x3 : FF) (x4 : Nat) (x5 : FF) (x6 : Nat) (x7 : FF) (x8 : Nat) (x9 : FF) (xA : Nat) (xB xC : FF) : St := ⟨(us 7 (.x (.own 1 0 x0) :: (us 19 []))),[.box [(vcs x1),(.c (ro kC x2 x3)),(.c (ro kA x4 x5)),(.c (ro kF x6 x7)),(.c (ro kB x8 x9)),(.c (ro kD xA xB))],.arr (.pr .str kV) x0 xC]⟩
def L164v1 {ρ : Type} (u : Nat) (x0 : Nat) (x1 : FF) (x2 : Int) (x3 : ByteArray) (x4 : Nat) (x5 : FF) (x6 : Nat) (x7 : FF) (x8 : Nat) (x9 : FF) (xA : Nat) (xB : FF) (xC : Nat) (xD : FF) : Nat → Nat → Int → FF → (Nat → FF → Option ρ) → Option ρ
 | 0,_,_,_,_ => none
 | m + 1,xE,xF,xG,k0 =>
  (bif (decide (xF < (Int.ofNat x6))) then (bif (inb xF x6) then (ob (F149 100 (listF (pj kR0 (x7 xF.toNat))) x0 x1 x2) fun xH => (bif (Nat.ble (xE + xH.1) 1073741824) then (L164v1 u x0 x1 x2 x3 x4 x5 x6 x7 x8 x9 xA xB xC xD m (xE + xH.1) (w64 (xF + 1)) (joinF xE xG xH.2) k0) else none)) else none) else (k0 xE xG))
theorem nl164v1 {ρ σ : Type} (u : Nat) (x0 : Nat) (x1 : FF) (x2 : Int) (x3 : ByteArray) (x4 : Nat) (x5 : FF) (x6 : Nat) (x7 : FF) (x8 : Nat) (x9 : FF) (xA : Nat) (xB : FF) (xC : Nat) (xD : FF) (g : ρ → Option σ) : ∀ (m : Nat) (xE : Nat) (xF : Int) (xG : FF) (k0 : Nat → FF → Option ρ),ob (L164v1 u x0 x1 x2 x3 x4 x5 x6 x7 x8 x9 xA xB xC xD m xE xF xG k0) g = L164v1 u x0 x1 x2 x3 x4 x5 x6 x7 x8 x9 xA xB xC xD m xE xF xG (fun xH xI => ob (k0 xH xI) g)
 | 0,_,_,_,_ => rfl
 | m + 1,xE,xF,xG,k0 => by
  simp only [L164v1,ob_bif,ob_ob,ob_none,nl164v1 u x0 x1 x2 x3 x4 x5 x6 x7 x8 x9 xA xB xC xD g m]
theorem r164v1 (m : Nat) (k : Ex → St → Option ρ) (x0 : Nat) (x1 : FF) (x2 : Int) (x3 : ByteArray) (x4 : Nat) (x5 : FF) (x6 : Nat) (x7 : FF) (x8 : Nat) (x9 : FF) (xA : Nat) (xB : FF) (xC : Nat) (xD : FF) (xE : Nat) (xF : Int) (xG : FF) :
  loopH (B164v1 (C95 u) u) N164v1 (m + 1) (s164v0 x0 x1 x2 xE xF x3 x4 x5 x6 x7 x8 x9 xA xB xC xD xG) k =
  (bif (decide (xF < (Int.ofNat x6))) then (bif (inb xF x6) then (ob (F149 100 (listF (pj kR0 (x7 xF.toNat))) x0 x1 x2) fun xH => (bif (Nat.ble (xE + xH.1) 1073741824) then (loopH (B164v1 (C95 u) u) N164v1 m (s164v0 x0 x1 x2 (xE + xH.1) (w64 (xF + 1)) x3 x4 x5 x6 x7 x8 x9 xA xB xC xD (joinF xE xG xH.2)) k) else none)) else none) else (k (.exit 0) (s164v1 xE x3 x4 x5 x6 x7 x8 x9 xA xB xC xD xG))) := by kernel_rfl
theorem q164v1 (u : Nat) (x0 : Nat) (x1 : FF) (x2 : Int) (x3 : ByteArray) (x4 : Nat) (x5 : FF) (x6 : Nat) (x7 : FF) (x8 : Nat) (x9 : FF) (xA : Nat) (xB : FF) (xC : Nat) (xD : FF) {ρ : Type} (k : Ex → St → Option ρ) : ∀ (m : Nat) (xE : Nat) (xF : Int) (xG : FF),
  loopH (B164v1 (C95 u) u) N164v1 m (s164v0 x0 x1 x2 xE xF x3 x4 x5 x6 x7 x8 x9 xA xB xC xD xG) k = L164v1 u x0 x1 x2 x3 x4 x5 x6 x7 x8 x9 xA xB xC xD m xE xF xG (fun xH xI => k (.exit 0) (s164v1 xH x3 x4 x5 x6 x7 x8 x9 xA xB xC xD xI))
 | 0,_,_,_ => rfl
 | m + 1,xE,xF,xG => by
  rw [r164v1]
  simp only [L164v1,q164v1 u x0 x1 x2 x3 x4 x5 x6 x7 x8 x9 xA xB xC xD k m]
def D164 (x0 : ByteArray) (x1 : Nat) (x2 : FF) (x3 : Nat) (x4 : FF) (x5 : Nat) (x6 : FF) (x7 : Nat) (x8 : FF) (x9 : Nat) (xA : FF) (xB : Nat) (xC : FF) (xD : Int) (k : (Nat × FF) → Option ρ) : Option ρ :=
 (L164v1 u xB xC xD x0 x1 x2 x3 x4 x5 x6 x7 x8 x9 xA u 0 0 (fun _ _ => .any)
  (fun xE xF => (k (xE,xF))))
def F164 (x0 : ByteArray) (x1 : Nat) (x2 : FF) (x3 : Nat) (x4 : FF) (x5 : Nat) (x6 : FF) (x7 : Nat) (x8 : FF) (x9 : Nat) (xA : FF) (xB : Nat) (xC : FF) (xD : Int) : Option (Nat × FF) := D164 u x0 x1 x2 x3 x4 x5 x6 x7 x8 x9 xA xB xC xD some
theorem f164 (x0 : ByteArray) (x1 : Nat) (x2 : FF) (x3 : Nat) (x4 : FF) (x5 : Nat) (x6 : FF) (x7 : Nat) (x8 : FF) (x9 : Nat) (xA : FF) (xB : Nat) (xC : FF) (xD : Int) (k : (Nat × FF) → Option ρ) : D164 u x0 x1 x2 x3 x4 x5 x6 x7 x8 x9 xA xB xC xD k = ob (F164 u x0 x1 x2 x3 x4 x5 x6 x7 x8 x9 xA xB xC xD) k := by
 simp only [F164,D164,ob_bif,ob_ob,ob_none,ob_some,nl164v1]
def s164v2 (x0 : ByteArray) (x1 : Nat) (x2 : FF) (x3 : Nat) (x4 : FF) (x5 : Nat) (x6 : FF) (x7 : Nat) (x8 : FF) (x9 : Nat) (xA : FF) (xB : Nat) (xC : FF) (xD : Int) : St := ⟨[.agg [(vcs x0),(.c (ro kC x1 x2)),(.c (ro kA x3 x4)),(.c (ro kF x5 x6)),(.c (ro kB x7 x8)),(.c (ro kD x9 xA))],.x (.c (ro kV xB xC)),vxi xD,.x (.ptr 0 0),uu,uu,.x (vcn),.x (.own 1 0 0),vxi 0,uu,uu,uu,uu,uu,uu,uu,uu,uu,uu,uu,uu,uu,uu,uu,uu,uu,uu],[.box [(vcs x0),(.c (ro kC x1 x2)),(.c (ro kA x3 x4)),(.c (ro kF x5 x6)),(.c (ro kB x7 x8)),(.c (ro kD x9 xA))],.arr (.pr .str kV) 0 nilF]⟩
theorem t164v1 (k : Ex → St → Option ρ) (x0 : ByteArray) (x1 : Nat) (x2 : FF) (x3 : Nat) (x4 : FF) (x5 : Nat) (x6 : FF) (x7 : Nat) (x8 : FF) (x9 : Nat) (xA : FF) (xB : Nat) (xC : FF) (xD : Int) :
  loopN (B164v1 (C95 u) u) N164v1 u (s164v2 x0 x1 x2 x3 x4 x5 x6 x7 x8 x9 xA xB xC xD) k =
  L164v1 u xB xC xD x0 x1 x2 x3 x4 x5 x6 x7 x8 x9 xA u 0 0 nilF (fun xE xF => k (.exit 0) (s164v1 xE x0 x1 x2 x3 x4 x5 x6 x7 x8 x9 xA xF)) :=
 (loopN_at (st' := (s164v0 xB xC xD 0 0 x0 x1 x2 x3 x4 x5 x6 x7 x8 x9 xA nilF)) (by kernel_rfl)).trans (q164v1 u xB xC xD x0 x1 x2 x3 x4 x5 x6 x7 x8 x9 xA k u 0 0 nilF)
theorem g164v2 (x0 : Nat) (x1 : ByteArray) (x2 : Nat) (x3 : FF) (x4 : Nat) (x5 : FF) (x6 : Nat) (x7 : FF) (x8 : Nat) (x9 : FF) (xA : Nat) (xB xC : FF) :
  (kBlk 0 (kSeq (C95 u) u (rl 8 18 []) A8v3 (finish A8))) (.exit 0) (s164v1 x0 x1 x2 x3 x4 x5 x6 x7 x8 x9 xA xB xC) =
  (some [.v (ro (.pr .str kV) x0 xC)]) := by kernel_rfl
theorem e164 (x0 : ByteArray) (x1 : Nat) (x2 : FF) (x3 : Nat) (x4 : FF) (x5 : Nat) (x6 : FF) (x7 : Nat) (x8 : FF) (x9 : Nat) (xA : FF) (xB : Nat) (xC : FF) (xD : Int) : evalF (C95 u) u A8 [.agg [(.s x0),(ro kC x1 x2),(ro kA x3 x4),(ro kF x5 x6),(ro kB x7 x8),(ro kD x9 xA)],.v (ro kV xB xC),.v (vi xD)] = ob (F164 u x0 x1 x2 x3 x4 x5 x6 x7 x8 x9 xA xB xC xD) fun t => some [.v (ro (.pr .str kV) t.1 t.2)] := Eq.trans (b := (loopN (B164v1 (C95 u) u) N164v1 u (s164v2 x0 x1 x2 x3 x4 x5 x6 x7 x8 x9 xA xB xC xD) (kBlk 0 (kSeq (C95 u) u (rl 8 18 []) A8v3 (finish A8))))) (by kernel_rfl) (by
 rw [← f164]
 simp only [D164,t164v1,g164v2])
def O164 : Ora where
 o := fun args {ρ} K =>
  wc args fun a1 l2 =>
  wagg a1 fun l3 =>
  wdS l3 fun y7 l5 =>
  wdL kC l5 fun y11 y12 l9 =>
  wdL kA l9 fun y16 y17 l14 =>
  wdL kF l14 fun y21 y22 l19 =>
  wdL kB l19 fun y26 y27 l24 =>
  wdL kD l24 fun y31 y32 l29 =>
  wn l29 <|
  wcL kV l2 fun y36 y37 l34 =>
  wcI .i64 l34 fun y41 l39 =>
  wn l39 <|
  (ob (F164 u y7 y11 y12 y16 y17 y21 y22 y26 y27 y31 y32 y36 y37 y41) fun t => K [.v (ro (.pr .str kV) t.1 t.2)])
 nat := fun args {ρ} K => by
  simp only [bind_wagg,bind_wc,bind_wcI,bind_wcL,bind_wdL,bind_wdS,bind_wn,bind_ob,Option.bind_some]
theorem d164 : DO (O164 u) (C95 u) 8 A8 := by
 intro P hmix hC hF args res h
 obtain ⟨a1,l2,rfl,z0⟩ := inv_wc h
 obtain ⟨l3,rfl,z1⟩ := inv_wagg z0
 obtain ⟨a4,y7,l5,rfl,h6,z2⟩ := inv_wdS z1
 obtain ⟨a8,y11,y12,l9,rfl,h10,z3⟩ := inv_wdL z2
 obtain ⟨a13,y16,y17,l14,rfl,h15,z4⟩ := inv_wdL z3
 obtain ⟨a18,y21,y22,l19,rfl,h20,z5⟩ := inv_wdL z4
 obtain ⟨a23,y26,y27,l24,rfl,h25,z6⟩ := inv_wdL z5
 obtain ⟨a28,y31,y32,l29,rfl,h30,z7⟩ := inv_wdL z6
 obtain ⟨hn,z8⟩ := inv_wn z7
 cases hn
 obtain ⟨a33,y36,y37,l34,rfl,h35,z9⟩ := inv_wcL z8
 obtain ⟨a38,y41,l39,rfl,h40,z10⟩ := inv_wcI z9
 obtain ⟨hn,z11⟩ := inv_wn z10
 cases hn
 exact Den.weaken (.cons (WkA.agg (.cons h6 (.cons h10 (.cons h15 (.cons h20 (.cons h25 (.cons h30 .nil))))))) (.cons h35 (.cons h40 .nil))) (evalF_sound hmix hC hF ((e164 u y7 y11 y12 y16 y17 y21 y22 y26 y27 y31 y32 y36 y37 y41).trans z11))
def C96 : Oracle := (C95 u).add 8 (fun _ => true) (O164 100)
def A34 : AF := ⟨9,[.tmp 2],
 (.seq (.region 0 [o1 2 (sb false)] 0 none) []
 (.seq (.region 1 [mv 3 0,o1 4 (bk .geq 3 3 (-32768)),mv 5 4,og 6 (.move (tm 0)) 5 true,og 7 (bk .leq 3 6 32768) 5 true,o1 8 (po 5 7),o1 2 (sg 8)] 0 none) []
 (.ret (0 :: 1 :: (rl 3 6 [])))))⟩
def D151 (u : Nat) (x0 : Int) (k : Bool → Option ρ) : Option ρ :=
 (bif ((decide (x0 ≥ (-32768))) == true) then (k (decide (x0 ≤ 32768))) else (k false))
def F151 (x0 : Int) : Option (Bool) := D151 u x0 some
theorem f151 (x0 : Int) (k : (Bool) → Option ρ) : D151 u x0 k = ob (F151 u x0) k := by
 simp only [F151,D151,ob_bif,ob_ob,ob_none,ob_some]
theorem e151 (x0 : Int) : evalF (C96 u) u A34 [.v (vi x0)] = ob (F151 u x0) fun t => some [.v (.b t)] := Eq.trans (b := (bif ((decide (x0 ≥ (-32768))) == true) then (some [.v (.b (decide (x0 ≤ 32768)))]) else (some [.v (.b false)]))) (by kernel_rfl) (by
 rw [← f151]
 simp only [D151])
def O151 : Ora where
 o := fun args {ρ} K =>
  wcI .i64 args fun y4 l2 =>
  wn l2 <|
  (ob (F151 u y4) fun t => K [.v (.b t)])
 nat := fun args {ρ} K => by
  simp only [bind_wcI,bind_wn,bind_ob,Option.bind_some]
theorem d151 : DO (O151 u) (C96 u) 34 A34 := by
 intro P hmix hC hF args res h
 obtain ⟨a1,y4,l2,rfl,h3,z0⟩ := inv_wcI h
 obtain ⟨hn,z1⟩ := inv_wn z0
 cases hn
 exact Den.weaken (.cons h3 .nil) (evalF_sound hmix hC hF ((e151 u y4).trans z1))
def C97 : Oracle := (C96 u).add 34 (fun _ => true) (O151 100)
def A80 : AF := ⟨30,[.tmp 6],
 (.seq (.region 0 [o1 3 (bx 0 49 0),o1 4 (bx 1 49 1),o1 5 (bx 2 49 2),o1 6 (sk 0)] 3 none) []
 (.seq (.region 1 [o1 7 (fa 49 4 0 0),o1 8 (lo 3 7),o1 9 (fa 49 3 0 0),o1 10 (lo 3 9),o1 11 (bt .sub 3 8 10),o1 12 (fa 49 5 1 1),o1 13 (lo 3 12),o1 14 (fa 49 3 1 1),o1 15 (lo 3 14),o1 16 (bt .sub 3 13 15),o1 17 (bt .mul 3 11 16),o1 18 (fa 49 4 1 1),o1 19 (lo 3 18),o1 20 (fa 49 3 1 1),o1 21 (lo 3 20),o1 22 (bt .sub 3 19 21),o1 23 (fa 49 5 0 0),o1 24 (lo 3 23),o1 25 (fa 49 3 0 0),o1 26 (lo 3 25),o1 27 (bt .sub 3 24 26),o1 28 (bt .mul 3 22 27),o1 29 (bt .sub 3 17 28),o1 6 (sg 29)] 0 none) []
 (.ret (rl 0 6 (rl 7 23 [])))))⟩
def D152 (u : Nat) (x0 x1 x2 x3 x4 x5 : Int) (k : Int → Option ρ) : Option ρ :=
 (k (w64 ((w64 ((w64 (x2 - x0)) * (w64 (x5 - x1)))) - (w64 ((w64 (x3 - x1)) * (w64 (x4 - x0)))))))
def F152 (x0 x1 x2 x3 x4 x5 : Int) : Option (Int) := D152 u x0 x1 x2 x3 x4 x5 some
theorem f152 (x0 x1 x2 x3 x4 x5 : Int) (k : (Int) → Option ρ) : D152 u x0 x1 x2 x3 x4 x5 k = ob (F152 u x0 x1 x2 x3 x4 x5) k := by
 simp only [F152,D152,ob_bif,ob_ob,ob_none,ob_some]
theorem e152 (x0 x1 x2 x3 x4 x5 : Int) : evalF (C97 u) u A80 [.agg [(vi x0),(vi x1)],.agg [(vi x2),(vi x3)],.agg [(vi x4),(vi x5)]] = ob (F152 u x0 x1 x2 x3 x4 x5) fun t => some [.v (vi t)] := Eq.trans (b := (some [.v (vi (w64 ((w64 ((w64 (x2 - x0)) * (w64 (x5 - x1)))) - (w64 ((w64 (x3 - x1)) * (w64 (x4 - x0)))))))])) (by kernel_rfl) (by
 rw [← f152]
 simp only [D152])
def O152 : Ora where
 o := fun args {ρ} K =>
  wc args fun a1 l2 =>
  wagg a1 fun l3 =>
  wdI .i64 l3 fun y7 l5 =>
  wdI .i64 l5 fun y11 l9 =>
  wn l9 <|
  wc l2 fun a12 l13 =>
  wagg a12 fun l14 =>
  wdI .i64 l14 fun y18 l16 =>
  wdI .i64 l16 fun y22 l20 =>
  wn l20 <|
  wc l13 fun a23 l24 =>
  wagg a23 fun l25 =>
  wdI .i64 l25 fun y29 l27 =>
  wdI .i64 l27 fun y33 l31 =>
  wn l31 <|
  wn l24 <|
  (ob (F152 u y7 y11 y18 y22 y29 y33) fun t => K [.v (vi t)])
 nat := fun args {ρ} K => by
  simp only [bind_wagg,bind_wc,bind_wdI,bind_wn,bind_ob,Option.bind_some]
theorem d152 : DO (O152 u) (C97 u) 80 A80 := by
 intro P hmix hC hF args res h
 obtain ⟨a1,l2,rfl,z0⟩ := inv_wc h
 obtain ⟨l3,rfl,z1⟩ := inv_wagg z0
 obtain ⟨a4,y7,l5,rfl,h6,z2⟩ := inv_wdI z1
 obtain ⟨a8,y11,l9,rfl,h10,z3⟩ := inv_wdI z2
 obtain ⟨hn,z4⟩ := inv_wn z3
 cases hn
 obtain ⟨a12,l13,rfl,z5⟩ := inv_wc z4
 obtain ⟨l14,rfl,z6⟩ := inv_wagg z5
 obtain ⟨a15,y18,l16,rfl,h17,z7⟩ := inv_wdI z6
 obtain ⟨a19,y22,l20,rfl,h21,z8⟩ := inv_wdI z7
 obtain ⟨hn,z9⟩ := inv_wn z8
 cases hn
 obtain ⟨a23,l24,rfl,z10⟩ := inv_wc z9
 obtain ⟨l25,rfl,z11⟩ := inv_wagg z10
 obtain ⟨a26,y29,l27,rfl,h28,z12⟩ := inv_wdI z11
 obtain ⟨a30,y33,l31,rfl,h32,z13⟩ := inv_wdI z12
 obtain ⟨hn,z14⟩ := inv_wn z13
 cases hn
 obtain ⟨hn,z15⟩ := inv_wn z14
 cases hn
 exact Den.weaken (.cons (WkA.agg (.cons h6 (.cons h10 .nil))) (.cons (WkA.agg (.cons h17 (.cons h21 .nil))) (.cons (WkA.agg (.cons h28 (.cons h32 .nil))) .nil))) (evalF_sound hmix hC hF ((e152 u y7 y11 y18 y22 y29 y33).trans z15))
def C98 : Oracle := (C97 u).add 80 (fun _ => true) (O152 100)
def A63v1 : AC := (.seq (.block 1
 (.seq (.region 8 [mv 68 10,mv 69 68,og 70 (ln 49 2 4) 69 false,og 71 (ln 49 2 5) 69 false,og 72 (.move (tm 9)) 69 false,og 73 (.move (tm 12)) 69 false,og 74 (.indexAddr 37 49 2 (tm 72) (tm 73)) 69 false,og 75 (ln 49 2 74) 69 false,og 76 (cs 80 [70,71,75] [49,49,49]) 69 false,og 77 (bk .gtr 3 76 0) 69 false,o1 78 (pa 69 77),o1 10 (sg 78)] 0 (some [[],[0],[0,1],[0,1],[0,1],[0,1],[0,1,4,5],[0,1,4,5,6],(rl 0 8 []),(rl 0 9 []),(rl 0 10 []),(rl 0 11 [])])) []
  (.region 9 [mv 79 11,mv 80 79,og 81 (ln 49 2 4) 80 false,og 82 (ln 49 2 5) 80 false,og 83 (.move (tm 9)) 80 false,og 84 (.move (tm 12)) 80 false,og 85 (.indexAddr 37 49 2 (tm 83) (tm 84)) 80 false,og 86 (ln 49 2 85) 80 false,og 87 (cs 80 [81,82,86] [49,49,49]) 80 false,og 88 (bk .lss 3 87 0) 80 false,o1 89 (pa 80 88),o1 11 (sg 89)] 0 (some [[],[0],[0,1],[0,1],[0,1],[0,1],[0,1,4,5],[0,1,4,5,6],(rl 0 8 []),(rl 0 9 []),(rl 0 10 []),(rl 0 11 [])])))) []
 (.region 7 [mv 66 12,o1 67 (bk .add 3 66 1),o1 12 (sg 67)] 0 none))
def A63v2 : AC := (.seq (.seq (.region 6 [mv 64 12,o1 65 (bk .lss 3 64 4)] 0 none) []
 (.cond (tm 65)
 .skip
 (.exit 0 (rl 0 10 (rl 12 82 []))))) [64,65]
 A63v1)
def A63v3 : AC := (.seq (.region 10 [mv 90 10,mv 91 90,og 92 (.move (tm 11)) 91 true,o1 93 (po 91 92),o1 8 (sg 93)] 0 none) []
 (.ret (rl 0 8 (rl 9 85 []))))
def A63v4 : AC := (.seq (.region 3 [o1 51 (ln 49 2 6),o1 52 (fa 49 7 0 0),o1 53 (lo 3 52),o1 54 (fa 49 6 1 1),o1 55 (lo 3 54),o1 56 (.build 49 [vci 0,vci 0] [(0,1),(1,1)] 0 [(0,(tm 53)),(1,(tm 55))]),o1 57 (ln 49 2 7),o1 58 (fa 49 6 0 0),o1 59 (lo 3 58),o1 60 (fa 49 7 1 1),o1 61 (lo 3 60),o1 62 (.build 49 [vci 0,vci 0] [(0,1),(1,1)] 0 [(0,(tm 59)),(1,(tm 61))]),o1 63 (.buildSlice 0 37 49 kP 4 [vci 0,vci 0] [(0,(tm 51)),(1,(tm 56)),(2,(tm 57)),(3,(tm 62))]),o1 9 (sg 63)] 1 none) []
 (.seq (.region 4 [o1 10 (sb false),o1 11 (sb false)] 0 none) []
 (.seq (.seq (.region 5 [o1 12 (sk 0)] 0 none) []
 (.block 0
 (.loop [] (rl 0 4 (6 :: 7 :: 8 :: (rl 13 81 [])))
  A63v2))) (12 :: (rl 64 26 []))
 A63v3)))
def A63 : AF := ⟨94,[.tmp 8],
 (.seq (.region 0 [o1 4 (bx 0 49 0),o1 5 (bx 1 49 1),o1 6 (bx 2 49 2),o1 7 (bx 3 49 3),o1 8 (sb false)] 4 none) []
 (.seq (.seq (.region 1 [o1 13 (fa 49 4 0 0),o1 14 (lo 3 13),o1 15 (fa 49 5 0 0),o1 16 (lo 3 15),o1 17 (.mm true [(tm 14),(tm 16)] [3,3]),o1 18 (fa 49 6 0 0),o1 19 (lo 3 18),o1 20 (bt .leq 3 17 19),mv 21 20,og 22 (fa 49 4 0 0) 21 false,og 23 (lo 3 22) 21 false,og 24 (fa 49 5 0 0) 21 false,og 25 (lo 3 24) 21 false,og 26 (.mm false [(tm 23),(tm 25)] [3,3]) 21 false,og 27 (fa 49 7 0 0) 21 false,og 28 (lo 3 27) 21 false,og 29 (bt .geq 3 26 28) 21 false,o1 30 (pa 21 29),mv 31 30,og 32 (fa 49 4 1 1) 31 false,og 33 (lo 3 32) 31 false,og 34 (fa 49 5 1 1) 31 false,og 35 (lo 3 34) 31 false,og 36 (.mm true [(tm 33),(tm 35)] [3,3]) 31 false,og 37 (fa 49 6 1 1) 31 false,og 38 (lo 3 37) 31 false,og 39 (bt .leq 3 36 38) 31 false,o1 40 (pa 31 39),mv 41 40,og 42 (fa 49 4 1 1) 41 false,og 43 (lo 3 42) 41 false,og 44 (fa 49 5 1 1) 41 false,og 45 (lo 3 44) 41 false,og 46 (.mm false [(tm 43),(tm 45)] [3,3]) 41 false,og 47 (fa 49 7 1 1) 41 false,og 48 (lo 3 47) 41 false,og 49 (bt .geq 3 46 48) 41 false,o1 50 (pa 41 49)] 0 none) []
 (.cond (tm 50)
 (.seq (.region 2 [o1 8 (sb false)] 0 none) []
  (.ret (rl 0 8 (rl 9 85 []))))
 .skip)) (8 :: (rl 13 38 []))
 A63v4))⟩
def B153v1 (C : Oracle) (u : Nat) : St → (Ex → St → Option ρ) → Option ρ := fun st k => evalC C u A63v2 st k
def N153v1 : St → Option St := fun s => s.norm (rl 0 4 (6 :: 7 :: 8 :: (rl 13 81 []))) 5
def s153v0 (x0 x1 : Bool) (x2 x3 x4 x5 x6 x7 x8 x9 xA : Int) (xB : FF) : St := ⟨(us 4 (.x (.ptr 0 0) :: .x (.ptr 1 0) :: (us 3 (.x (.own 4 0 4) :: vxb x0 :: vxb x1 :: vxi x2 :: (us 81 []))))),[.box [(vci x3),(vci x4)],.box [(vci x5),(vci x6)],.box [(vci x7),(vci x8)],.box [(vci x9),(vci xA)],.arr kP 4 xB]⟩
def s153v1 (x0 x1 : Bool) (x2 x3 x4 x5 x6 x7 x8 x9 : Int) (xA : FF) : St := ⟨(us 10 (vxb x0 :: vxb x1 :: (us 82 []))),[.box [(vci x2),(vci x3)],.box [(vci x4),(vci x5)],.box [(vci x6),(vci x7)],.box [(vci x8),(vci x9)],.arr kP 4 xA]⟩
def L153v1 {ρ : Type} (u : Nat) (x0 x1 x2 x3 x4 x5 x6 x7 : Int) (x8 : FF) : Nat → Bool → Bool → Int → (Bool → Bool → Option ρ) → Option ρ
 | 0,_,_,_,_ => none
 | m + 1,x9,xA,xB,k0 =>
  (bif (decide (xB < 4)) then (bif (x9 == false) then (bif (inb xB 4) then (ob (F152 100 x0 x1 x2 x3 (x8 (0 + xB.toNat) 0).int (x8 (0 + xB.toNat) 1).int) fun xC => (bif (xA == false) then (bif (inb xB 4) then (ob (F152 100 x0 x1 x2 x3 (x8 (0 + xB.toNat) 0).int (x8 (0 + xB.toNat) 1).int) fun xD => (L153v1 u x0 x1 x2 x3 x4 x5 x6 x7 x8 m (decide (xC > 0)) (decide (xD < 0)) (w64 (xB + 1)) k0)) else none) else (L153v1 u x0 x1 x2 x3 x4 x5 x6 x7 x8 m (decide (xC > 0)) true (w64 (xB + 1)) k0))) else none) else (bif (xA == false) then (bif (inb xB 4) then (ob (F152 100 x0 x1 x2 x3 (x8 (0 + xB.toNat) 0).int (x8 (0 + xB.toNat) 1).int) fun xE => (L153v1 u x0 x1 x2 x3 x4 x5 x6 x7 x8 m true (decide (xE < 0)) (w64 (xB + 1)) k0)) else none) else (L153v1 u x0 x1 x2 x3 x4 x5 x6 x7 x8 m true true (w64 (xB + 1)) k0))) else (k0 x9 xA))
theorem nl153v1 {ρ σ : Type} (u : Nat) (x0 x1 x2 x3 x4 x5 x6 x7 : Int) (x8 : FF) (g : ρ → Option σ) : ∀ (m : Nat) (x9 xA : Bool) (xB : Int) (k0 : Bool → Bool → Option ρ),ob (L153v1 u x0 x1 x2 x3 x4 x5 x6 x7 x8 m x9 xA xB k0) g = L153v1 u x0 x1 x2 x3 x4 x5 x6 x7 x8 m x9 xA xB (fun xC xD => ob (k0 xC xD) g)
 | 0,_,_,_,_ => rfl
 | m + 1,x9,xA,xB,k0 => by
  simp only [L153v1,ob_bif,ob_ob,ob_none,nl153v1 u x0 x1 x2 x3 x4 x5 x6 x7 x8 g m]
theorem r153v1 (m : Nat) (k : Ex → St → Option ρ) (x0 x1 x2 x3 x4 x5 x6 x7 : Int) (x8 : FF) (x9 xA : Bool) (xB : Int) :
  loopH (B153v1 (C98 u) u) N153v1 (m + 1) (s153v0 x9 xA xB x0 x1 x2 x3 x4 x5 x6 x7 x8) k =
  (bif (decide (xB < 4)) then (bif (x9 == false) then (bif (inb xB 4) then (ob (F152 100 x0 x1 x2 x3 (x8 (0 + xB.toNat) 0).int (x8 (0 + xB.toNat) 1).int) fun xC => (bif (xA == false) then (bif (inb xB 4) then (ob (F152 100 x0 x1 x2 x3 (x8 (0 + xB.toNat) 0).int (x8 (0 + xB.toNat) 1).int) fun xD => (loopH (B153v1 (C98 u) u) N153v1 m (s153v0 (decide (xC > 0)) (decide (xD < 0)) (w64 (xB + 1)) x0 x1 x2 x3 x4 x5 x6 x7 x8) k)) else none) else (loopH (B153v1 (C98 u) u) N153v1 m (s153v0 (decide (xC > 0)) true (w64 (xB + 1)) x0 x1 x2 x3 x4 x5 x6 x7 x8) k))) else none) else (bif (xA == false) then (bif (inb xB 4) then (ob (F152 100 x0 x1 x2 x3 (x8 (0 + xB.toNat) 0).int (x8 (0 + xB.toNat) 1).int) fun xE => (loopH (B153v1 (C98 u) u) N153v1 m (s153v0 true (decide (xE < 0)) (w64 (xB + 1)) x0 x1 x2 x3 x4 x5 x6 x7 x8) k)) else none) else (loopH (B153v1 (C98 u) u) N153v1 m (s153v0 true true (w64 (xB + 1)) x0 x1 x2 x3 x4 x5 x6 x7 x8) k))) else (k (.exit 0) (s153v1 x9 xA x0 x1 x2 x3 x4 x5 x6 x7 x8))) := by kernel_rfl
theorem q153v1 (u : Nat) (x0 x1 x2 x3 x4 x5 x6 x7 : Int) (x8 : FF) {ρ : Type} (k : Ex → St → Option ρ) : ∀ (m : Nat) (x9 xA : Bool) (xB : Int),
  loopH (B153v1 (C98 u) u) N153v1 m (s153v0 x9 xA xB x0 x1 x2 x3 x4 x5 x6 x7 x8) k = L153v1 u x0 x1 x2 x3 x4 x5 x6 x7 x8 m x9 xA xB (fun xC xD => k (.exit 0) (s153v1 xC xD x0 x1 x2 x3 x4 x5 x6 x7 x8))
 | 0,_,_,_ => rfl
 | m + 1,x9,xA,xB => by
  rw [r153v1]
  simp only [L153v1,q153v1 u x0 x1 x2 x3 x4 x5 x6 x7 x8 k m]
def D153 (x0 x1 x2 x3 x4 x5 x6 x7 : Int) (k : Bool → Option ρ) : Option ρ :=
 (bif ((decide ((if x2 > x0 then x2 else x0) ≤ x4)) == false) then (bif ((decide ((if x2 < x0 then x2 else x0) ≥ x6)) == false) then (bif ((decide ((if x3 > x1 then x3 else x1) ≤ x5)) == false) then (bif (decide ((if x3 < x1 then x3 else x1) ≥ x7)) then (k false) else (L153v1 u x0 x1 x2 x3 x4 x5 x6 x7 (rowsF 2 [(.i .i64 x4),(.i .i64 x5),(.i .i64 x6),(.i .i64 x5),(.i .i64 x6),(.i .i64 x7),(.i .i64 x4),(.i .i64 x7)]) u false false 0
  (fun x8 x9 => (bif (x8 == true) then (k x9) else (k false))))) else (k false)) else (k false)) else (k false))
def F153 (x0 x1 x2 x3 x4 x5 x6 x7 : Int) : Option (Bool) := D153 u x0 x1 x2 x3 x4 x5 x6 x7 some
theorem f153 (x0 x1 x2 x3 x4 x5 x6 x7 : Int) (k : (Bool) → Option ρ) : D153 u x0 x1 x2 x3 x4 x5 x6 x7 k = ob (F153 u x0 x1 x2 x3 x4 x5 x6 x7) k := by
 simp only [F153,D153,ob_bif,ob_ob,ob_none,ob_some,nl153v1]
def s153v2 (x0 x1 x2 x3 x4 x5 x6 x7 : Int) : St := ⟨(.agg [(vci x0),(vci x1)] :: .agg [(vci x2),(vci x3)] :: .agg [(vci x4),(vci x5)] :: .agg [(vci x6),(vci x7)] :: .x (.ptr 0 0) :: .x (.ptr 1 0) :: .x (.ptr 2 0) :: .x (.ptr 3 0) :: .u :: .x (.own 4 0 4) :: vxb false :: vxb false :: vxi 0 :: (us 38 [.agg [(vci x4),(vci x5)],.x (.ptr 3 0),vxi x6,.x (.ptr 2 1),vxi x5,.agg [(vci x6),(vci x5)],.agg [(vci x6),(vci x7)],.x (.ptr 2 0),vxi x4,.x (.ptr 3 1),vxi x7,.agg [(vci x4),(vci x7)],.x (.own 4 0 4),uu,uu,uu,uu,uu,uu,uu,uu,uu,uu,uu,uu,uu,uu,uu,uu,uu,uu,uu,uu,uu,uu,uu,uu,uu,uu,uu,uu,uu,uu])),[.box [(vci x0),(vci x1)],.box [(vci x2),(vci x3)],.box [(vci x4),(vci x5)],.box [(vci x6),(vci x7)],.arr kP 4 (rowsF 2 [(vi x4),(vi x5),(vi x6),(vi x5),(vi x6),(vi x7),(vi x4),(vi x7)])]⟩
theorem t153v1 (k : Ex → St → Option ρ) (x0 x1 x2 x3 x4 x5 x6 x7 : Int) :
  loopN (B153v1 (C98 u) u) N153v1 u (s153v2 x0 x1 x2 x3 x4 x5 x6 x7) k =
  L153v1 u x0 x1 x2 x3 x4 x5 x6 x7 (rowsF 2 [(vi x4),(vi x5),(vi x6),(vi x5),(vi x6),(vi x7),(vi x4),(vi x7)]) u false false 0 (fun x8 x9 => k (.exit 0) (s153v1 x8 x9 x0 x1 x2 x3 x4 x5 x6 x7 (rowsF 2 [(vi x4),(vi x5),(vi x6),(vi x5),(vi x6),(vi x7),(vi x4),(vi x7)]))) :=
 (loopN_at (st' := (s153v0 false false 0 x0 x1 x2 x3 x4 x5 x6 x7 (rowsF 2 [(vi x4),(vi x5),(vi x6),(vi x5),(vi x6),(vi x7),(vi x4),(vi x7)]))) (by kernel_rfl)).trans (q153v1 u x0 x1 x2 x3 x4 x5 x6 x7 (rowsF 2 [(vi x4),(vi x5),(vi x6),(vi x5),(vi x6),(vi x7),(vi x4),(vi x7)]) k u false false 0)
theorem g153v2 (x0 x1 : Bool) (x2 x3 x4 x5 x6 x7 x8 x9 : Int) :
  (kBlk 0 (kSeq (C98 u) u (12 :: (rl 64 26 [])) A63v3 (finish A63))) (.exit 0) (s153v1 x0 x1 x2 x3 x4 x5 x6 x7 x8 x9 (rowsF 2 [(vi x6),(vi x7),(vi x8),(vi x7),(vi x8),(vi x9),(vi x6),(vi x9)])) =
  (bif (x0 == true) then (some [.v (.b x1)]) else (some [.v (.b false)])) := by kernel_rfl
theorem e153 (x0 x1 x2 x3 x4 x5 x6 x7 : Int) : evalF (C98 u) u A63 [.agg [(vi x0),(vi x1)],.agg [(vi x2),(vi x3)],.agg [(vi x4),(vi x5)],.agg [(vi x6),(vi x7)]] = ob (F153 u x0 x1 x2 x3 x4 x5 x6 x7) fun t => some [.v (.b t)] := Eq.trans (b := (bif ((decide ((if x2 > x0 then x2 else x0) ≤ x4)) == false) then (bif ((decide ((if x2 < x0 then x2 else x0) ≥ x6)) == false) then (bif ((decide ((if x3 > x1 then x3 else x1) ≤ x5)) == false) then (bif (decide ((if x3 < x1 then x3 else x1) ≥ x7)) then (some [.v (.b false)]) else (loopN (B153v1 (C98 u) u) N153v1 u (s153v2 x0 x1 x2 x3 x4 x5 x6 x7) (kBlk 0 (kSeq (C98 u) u (12 :: (rl 64 26 [])) A63v3 (finish A63))))) else (some [.v (.b false)])) else (some [.v (.b false)])) else (some [.v (.b false)]))) (by kernel_rfl) (by
 rw [← f153]
 simp only [D153,t153v1,g153v2])
def O153 : Ora where
 o := fun args {ρ} K =>
  wc args fun a1 l2 =>
  wagg a1 fun l3 =>
  wdI .i64 l3 fun y7 l5 =>
  wdI .i64 l5 fun y11 l9 =>
  wn l9 <|
  wc l2 fun a12 l13 =>
  wagg a12 fun l14 =>
  wdI .i64 l14 fun y18 l16 =>
  wdI .i64 l16 fun y22 l20 =>
  wn l20 <|
  wc l13 fun a23 l24 =>
  wagg a23 fun l25 =>
  wdI .i64 l25 fun y29 l27 =>
  wdI .i64 l27 fun y33 l31 =>
  wn l31 <|
  wc l24 fun a34 l35 =>
  wagg a34 fun l36 =>
  wdI .i64 l36 fun y40 l38 =>
  wdI .i64 l38 fun y44 l42 =>
  wn l42 <|
  wn l35 <|
  (ob (F153 u y7 y11 y18 y22 y29 y33 y40 y44) fun t => K [.v (.b t)])
 nat := fun args {ρ} K => by
  simp only [bind_wagg,bind_wc,bind_wdI,bind_wn,bind_ob,Option.bind_some]
theorem d153 : DO (O153 u) (C98 u) 63 A63 := by
 intro P hmix hC hF args res h
 obtain ⟨a1,l2,rfl,z0⟩ := inv_wc h
 obtain ⟨l3,rfl,z1⟩ := inv_wagg z0
 obtain ⟨a4,y7,l5,rfl,h6,z2⟩ := inv_wdI z1
 obtain ⟨a8,y11,l9,rfl,h10,z3⟩ := inv_wdI z2
 obtain ⟨hn,z4⟩ := inv_wn z3
 cases hn
 obtain ⟨a12,l13,rfl,z5⟩ := inv_wc z4
 obtain ⟨l14,rfl,z6⟩ := inv_wagg z5
 obtain ⟨a15,y18,l16,rfl,h17,z7⟩ := inv_wdI z6
 obtain ⟨a19,y22,l20,rfl,h21,z8⟩ := inv_wdI z7
 obtain ⟨hn,z9⟩ := inv_wn z8
 cases hn
 obtain ⟨a23,l24,rfl,z10⟩ := inv_wc z9
 obtain ⟨l25,rfl,z11⟩ := inv_wagg z10
 obtain ⟨a26,y29,l27,rfl,h28,z12⟩ := inv_wdI z11
 obtain ⟨a30,y33,l31,rfl,h32,z13⟩ := inv_wdI z12
 obtain ⟨hn,z14⟩ := inv_wn z13
 cases hn
 obtain ⟨a34,l35,rfl,z15⟩ := inv_wc z14
 obtain ⟨l36,rfl,z16⟩ := inv_wagg z15
 obtain ⟨a37,y40,l38,rfl,h39,z17⟩ := inv_wdI z16
 obtain ⟨a41,y44,l42,rfl,h43,z18⟩ := inv_wdI z17
 obtain ⟨hn,z19⟩ := inv_wn z18
 cases hn
 obtain ⟨hn,z20⟩ := inv_wn z19
 cases hn
 exact Den.weaken (.cons (WkA.agg (.cons h6 (.cons h10 .nil))) (.cons (WkA.agg (.cons h17 (.cons h21 .nil))) (.cons (WkA.agg (.cons h28 (.cons h32 .nil))) (.cons (WkA.agg (.cons h39 (.cons h43 .nil))) .nil)))) (evalF_sound hmix hC hF ((e153 u y7 y11 y18 y22 y29 y33 y40 y44).trans z20))
def C99 : Oracle := (C98 u).add 63 (fun _ => true) (O153 100)
def A35v1 : AC := (.seq (.block 1
 (.region 5 [o1 19 (fa 40 7 0 0),o1 20 (lo 37 19),mv 21 0,mv 22 8,o1 23 (.indexAddr 37 49 2 (tm 21) (tm 22)),o1 24 (ln 49 2 23),o1 25 (.buildSlice 0 37 49 kP 1 [vci 0,vci 0] [(0,(tm 24))]),o1 26 (.append 1 37 49 kP 16 (tm 20) (tm 25)),o1 27 (fa 40 7 0 0),o0 (.store 37 1 (tm 27) (tm 26))] 2 (some [[],[0],[],[],[2,3],[2,3,4],(rl 2 4 []),(rl 0 7 []),(rl 0 8 []),(rl 0 9 [])]))) []
 (.region 4 [mv 17 8,o1 18 (bk .sub 3 17 1),o1 8 (sg 18)] 0 none))
def A35v2 : AC := (.seq (.seq (.region 3 [mv 15 8,o1 16 (bk .geq 3 15 0)] 0 none) []
 (.cond (tm 16)
 .skip
 (.exit 0 (1 :: 2 :: 3 :: 6 :: (rl 8 86 []))))) [15,16]
 A35v1)
def A35v3 : AC := (.region 11 [mv 64 10,o1 65 (bk .add 3 64 1),o1 10 (sg 65)] 0 none)
def A35v4 : AC := (.seq (.block 3
 (.seq (.region 12 [o1 66 (ln 40 2 7),mv 67 9,mv 68 10,o1 69 (.indexAddr 37 49 2 (tm 67) (tm 68)),o1 70 (ln 49 2 69),o1 71 (cs 32 [66,70] [40,49]),o1 72 (bk .lss 3 71 0)] 0 (some [[],[],[],[1,2],[1,2,3],(rl 0 5 []),(rl 0 6 [])])) []
  (.cond (tm 72)
  (.seq (.region 13 [o1 6 (sb false)] 0 none) []
   (.ret (rl 0 6 (rl 7 87 []))))
  .skip))) (6 :: (rl 66 7 []))
 A35v3)
def A35v5 : AC := (.seq (.seq (.region 10 [mv 62 10,o1 63 (bk .lss 3 62 4)] 0 none) []
 (.cond (tm 63)
 .skip
 (.exit 2 (1 :: 2 :: 3 :: (rl 6 88 []))))) [62,63]
 A35v4)
def A35v6 : AC := (.region 16 [mv 77 11,o1 78 (bk .add 3 77 1),o1 11 (sg 78)] 0 none)
def A35v7 : AC := (.seq (.block 5
 (.seq (.region 17 [mv 79 0,mv 80 11,o1 81 (.indexAddr 37 49 2 (tm 79) (tm 80)),o1 82 (ln 49 2 81),mv 83 0,mv 84 11,o1 85 (bk .add 3 84 1),mv 86 0,o1 87 (.len 37 false (tm 86)),o1 88 (bt .rem 3 85 87),o1 89 (.indexAddr 37 49 2 (tm 83) (tm 88)),o1 90 (ln 49 2 89),o1 91 (ln 49 2 4),o1 92 (ln 49 2 5),o1 93 (cs 63 [82,90,91,92] [49,49,49,49])] 0 (some [[],[],[0,1],[0,1,2],[],[],[5],[],[7],(rl 5 4 []),(rl 4 6 []),(rl 4 7 []),[],[],(rl 0 14 [])])) []
  (.cond (tm 93)
  (.seq (.region 18 [o1 6 (sb false)] 0 none) []
   (.ret (rl 0 6 (rl 7 87 []))))
  .skip))) (6 :: (rl 79 15 []))
 A35v6)
def A35v8 : AC := (.seq (.seq (.region 15 [mv 73 11,mv 74 0,o1 75 (.len 37 false (tm 74)),o1 76 (bt .lss 3 73 75)] 0 none) []
 (.cond (tm 76)
 .skip
 (.exit 4 (rl 0 94 [])))) (rl 73 4 [])
 A35v7)
def A35v9 : AC := (.seq (.region 19 [o1 6 (sb true)] 0 none) []
 (.ret (rl 0 6 (rl 7 87 []))))
def A35v10 : AC := (.seq (.seq (.region 14 [o1 11 (sk 0)] 0 none) []
 (.block 4
 (.loop [] (1 :: 2 :: 3 :: (rl 6 5 (rl 12 82 [])))
  A35v8))) (6 :: 11 :: (rl 73 21 []))
 A35v9)
def A35v11 : AC := (.seq (.region 8 [o1 49 (ln 49 2 4),o1 50 (fa 49 5 0 0),o1 51 (lo 3 50),o1 52 (fa 49 4 1 1),o1 53 (lo 3 52),o1 54 (.build 49 [vci 0,vci 0] [(0,1),(1,1)] 0 [(0,(tm 51)),(1,(tm 53))]),o1 55 (ln 49 2 5),o1 56 (fa 49 4 0 0),o1 57 (lo 3 56),o1 58 (fa 49 5 1 1),o1 59 (lo 3 58),o1 60 (.build 49 [vci 0,vci 0] [(0,1),(1,1)] 0 [(0,(tm 57)),(1,(tm 59))]),o1 61 (.buildSlice 0 37 49 kP 4 [vci 0,vci 0] [(0,(tm 49)),(1,(tm 54)),(2,(tm 55)),(3,(tm 60))]),o1 9 (sg 61)] 1 none) []
 (.seq (.seq (.region 9 [o1 10 (sk 0)] 0 none) []
 (.block 2
 (.loop [] (1 :: 2 :: 3 :: 6 :: 8 :: (rl 11 83 []))
  A35v5))) (6 :: 10 :: (rl 62 11 []))
 A35v10))
def A35v12 : AC := (.seq (.seq (.region 6 [o1 28 (ln 40 2 7),o1 29 (cs 54 [28] [40]),o1 30 (bk .neq 73 29 0),mv 31 30,og 32 (ln 40 2 7) 31 false,og 33 (fa 49 4 0 0) 31 false,og 34 (lo 3 33) 31 false,og 35 (fa 49 5 0 0) 31 false,og 36 (lo 3 35) 31 false,og 37 (bt .add 3 34 36) 31 false,og 38 (bk .quo 3 37 2) 31 false,og 39 (fa 49 4 1 1) 31 false,og 40 (lo 3 39) 31 false,og 41 (fa 49 5 1 1) 31 false,og 42 (lo 3 41) 31 false,og 43 (bt .add 3 40 42) 31 false,og 44 (bk .quo 3 43 2) 31 false,og 45 (.build 49 [vci 0,vci 0] [(0,1),(1,1)] 0 [(0,(tm 38)),(1,(tm 44))]) 31 false,og 46 (cs 32 [32,45] [40,49]) 31 false,og 47 (bk .lss 3 46 1) 31 false,o1 48 (pa 31 47)] 0 none) []
 (.cond (tm 48)
 (.seq (.region 7 [o1 6 (sb false)] 0 none) []
  (.ret (rl 0 6 (rl 7 87 []))))
 .skip)) (6 :: (rl 28 21 []))
 A35v11)
def A35 : AF := ⟨94,[.tmp 6],
 (.seq (.region 0 [o1 4 (bx 0 49 1),o1 5 (bx 1 49 2),o1 6 (sb false)] 2 none) []
 (.seq (.region 1 [o1 7 (.alloc 0 40 [vcn,vcn])] 1 none) []
 (.seq (.seq (.region 2 [mv 12 0,o1 13 (.len 37 false (tm 12)),o1 14 (bk .sub 3 13 1),o1 8 (sg 14)] 0 none) []
 (.block 0
 (.loop [.cell 7 0 kP] (1 :: 2 :: 3 :: 6 :: (rl 9 85 []))
  A35v2))) (8 :: (rl 12 16 []))
 A35v12)))⟩
def B154v1 (C : Oracle) (u : Nat) : St → (Ex → St → Option ρ) → Option ρ := fun st k => evalC C u A35v2 st k
def N154v1 : St → Option St := fun s => s.norm (1 :: 2 :: 3 :: 6 :: (rl 9 85 [])) 4
def s154v0 (x0 : Nat) (x1 : FF) (x2 x3 x4 x5 x6 : Int) (x7 : Nat) (x8 : FF) : St := ⟨(.x (.c (ro kP x0 x1)) :: (us 3 (.x (.ptr 0 0) :: .x (.ptr 1 0) :: .u :: .x (.ptr 2 0) :: vxi x2 :: (us 85 [])))),[.box [(vci x3),(vci x4)],.box [(vci x5),(vci x6)],.box [(.own 3 0 x7),(vcn)],.arr kP x7 x8]⟩
def s154v1 (x0 : Nat) (x1 : FF) (x2 x3 x4 x5 : Int) (x6 : Nat) (x7 : FF) : St := ⟨(.x (.c (ro kP x0 x1)) :: (us 3 (.x (.ptr 0 0) :: .x (.ptr 1 0) :: .u :: .x (.ptr 2 0) :: (us 86 [])))),[.box [(vci x2),(vci x3)],.box [(vci x4),(vci x5)],.box [(.own 3 0 x6),(vcn)],.arr kP x6 x7]⟩
def L154v1 {ρ : Type} (u : Nat) (x0 : Nat) (x1 : FF) (x2 x3 x4 x5 : Int) : Nat → Int → Nat → FF → (Nat → FF → Option ρ) → Option ρ
 | 0,_,_,_,_ => none
 | m + 1,x6,x7,x8,k0 =>
  (bif (decide (x6 ≥ 0)) then (bif (inb x6 x0) then (bif (Nat.ble (x7 + 1) 1073741824) then (L154v1 u x0 x1 x2 x3 x4 x5 m (w64 (x6 - 1)) (x7 + 1) (joinF x7 x8 (rowsF 2 [(.i .i64 (x1 x6.toNat 0).int),(.i .i64 (x1 x6.toNat 1).int)])) k0) else none) else none) else (k0 x7 x8))
theorem nl154v1 {ρ σ : Type} (u : Nat) (x0 : Nat) (x1 : FF) (x2 x3 x4 x5 : Int) (g : ρ → Option σ) : ∀ (m : Nat) (x6 : Int) (x7 : Nat) (x8 : FF) (k0 : Nat → FF → Option ρ),ob (L154v1 u x0 x1 x2 x3 x4 x5 m x6 x7 x8 k0) g = L154v1 u x0 x1 x2 x3 x4 x5 m x6 x7 x8 (fun x9 xA => ob (k0 x9 xA) g)
 | 0,_,_,_,_ => rfl
 | m + 1,x6,x7,x8,k0 => by
  simp only [L154v1,ob_bif,ob_ob,ob_none,nl154v1 u x0 x1 x2 x3 x4 x5 g m]
theorem r154v1 (m : Nat) (k : Ex → St → Option ρ) (x0 : Nat) (x1 : FF) (x2 x3 x4 x5 x6 : Int) (x7 : Nat) (x8 : FF) :
  loopH (B154v1 (C99 u) u) N154v1 (m + 1) (s154v0 x0 x1 x6 x2 x3 x4 x5 x7 x8) k =
  (bif (decide (x6 ≥ 0)) then (bif (inb x6 x0) then (bif (Nat.ble (x7 + 1) 1073741824) then (loopH (B154v1 (C99 u) u) N154v1 m (s154v0 x0 x1 (w64 (x6 - 1)) x2 x3 x4 x5 (x7 + 1) (joinF x7 x8 (rowsF 2 [(vi (x1 x6.toNat 0).int),(vi (x1 x6.toNat 1).int)]))) k) else none) else none) else (k (.exit 0) (s154v1 x0 x1 x2 x3 x4 x5 x7 x8))) := by kernel_rfl
theorem q154v1 (u : Nat) (x0 : Nat) (x1 : FF) (x2 x3 x4 x5 : Int) {ρ : Type} (k : Ex → St → Option ρ) : ∀ (m : Nat) (x6 : Int) (x7 : Nat) (x8 : FF),
  loopH (B154v1 (C99 u) u) N154v1 m (s154v0 x0 x1 x6 x2 x3 x4 x5 x7 x8) k = L154v1 u x0 x1 x2 x3 x4 x5 m x6 x7 x8 (fun x9 xA => k (.exit 0) (s154v1 x0 x1 x2 x3 x4 x5 x9 xA))
 | 0,_,_,_ => rfl
 | m + 1,x6,x7,x8 => by
  rw [r154v1]
  simp only [L154v1,q154v1 u x0 x1 x2 x3 x4 x5 k m]
def B154v2 (C : Oracle) (u : Nat) : St → (Ex → St → Option ρ) → Option ρ := fun st k => evalC C u A35v5 st k
def N154v2 : St → Option St := fun s => s.norm (1 :: 2 :: 3 :: 6 :: 8 :: (rl 11 83 [])) 5
def s154v2 (x0 : Nat) (x1 : FF) (x2 x3 x4 x5 x6 : Int) (x7 : Nat) (x8 x9 : FF) : St := ⟨(.x (.c (ro kP x0 x1)) :: (us 3 (.x (.ptr 0 0) :: .x (.ptr 1 0) :: .u :: .x (.ptr 2 0) :: .u :: .x (.own 4 0 4) :: vxi x2 :: (us 83 [])))),[.box [(vci x3),(vci x4)],.box [(vci x5),(vci x6)],.box [(.own 3 0 x7),(vcn)],.arr kP x7 x8,.arr kP 4 x9]⟩
def s154v3 (x0 x1 x2 x3 : Int) (x4 : Nat) (x5 x6 : FF) : St := ⟨(us 6 (vxb false :: (us 87 []))),[.box [(vci x0),(vci x1)],.box [(vci x2),(vci x3)],.box [(.own 3 0 x4),(vcn)],.arr kP x4 x5,.arr kP 4 x6]⟩
def s154v4 (x0 : Nat) (x1 : FF) (x2 x3 x4 x5 : Int) (x6 : Nat) (x7 x8 : FF) : St := ⟨(.x (.c (ro kP x0 x1)) :: (us 3 (.x (.ptr 0 0) :: .x (.ptr 1 0) :: (us 88 [])))),[.box [(vci x2),(vci x3)],.box [(vci x4),(vci x5)],.box [(.own 3 0 x6),(vcn)],.arr kP x6 x7,.arr kP 4 x8]⟩
def L154v2 {ρ : Type} (u : Nat) (x0 : Nat) (x1 : FF) (x2 x3 x4 x5 : Int) (x6 : Nat) (x7 x8 : FF) : Nat → Int → (Option ρ) → (Option ρ) → Option ρ
 | 0,_,_,_ => none
 | m + 1,x9,k0,k1 =>
  (bif (decide (x9 < 4)) then (bif (inb x9 4) then (ob (F23 100 x6 x7 0 (fun _ _ => .any) (x8 (0 + x9.toNat) 0).int (x8 (0 + x9.toNat) 1).int) fun xA => (bif (decide (xA < 0)) then k0 else (L154v2 u x0 x1 x2 x3 x4 x5 x6 x7 x8 m (w64 (x9 + 1)) k0 k1))) else none) else k1)
theorem nl154v2 {ρ σ : Type} (u : Nat) (x0 : Nat) (x1 : FF) (x2 x3 x4 x5 : Int) (x6 : Nat) (x7 x8 : FF) (g : ρ → Option σ) : ∀ (m : Nat) (x9 : Int) (k0 : Option ρ) (k1 : Option ρ),ob (L154v2 u x0 x1 x2 x3 x4 x5 x6 x7 x8 m x9 k0 k1) g = L154v2 u x0 x1 x2 x3 x4 x5 x6 x7 x8 m x9 (ob k0 g) (ob k1 g)
 | 0,_,_,_ => rfl
 | m + 1,x9,k0,k1 => by
  simp only [L154v2,ob_bif,ob_ob,ob_none,nl154v2 u x0 x1 x2 x3 x4 x5 x6 x7 x8 g m]
theorem r154v2 (m : Nat) (k : Ex → St → Option ρ) (x0 : Nat) (x1 : FF) (x2 x3 x4 x5 : Int) (x6 : Nat) (x7 x8 : FF) (x9 : Int) :
  loopH (B154v2 (C99 u) u) N154v2 (m + 1) (s154v2 x0 x1 x9 x2 x3 x4 x5 x6 x7 x8) k =
  (bif (decide (x9 < 4)) then (bif (inb x9 4) then (ob (F23 100 x6 x7 0 nilF (x8 (0 + x9.toNat) 0).int (x8 (0 + x9.toNat) 1).int) fun xA => (bif (decide (xA < 0)) then (k .ret (s154v3 x2 x3 x4 x5 x6 x7 x8)) else (loopH (B154v2 (C99 u) u) N154v2 m (s154v2 x0 x1 (w64 (x9 + 1)) x2 x3 x4 x5 x6 x7 x8) k))) else none) else (k (.exit 2) (s154v4 x0 x1 x2 x3 x4 x5 x6 x7 x8))) := by kernel_rfl
theorem q154v2 (u : Nat) (x0 : Nat) (x1 : FF) (x2 x3 x4 x5 : Int) (x6 : Nat) (x7 x8 : FF) {ρ : Type} (k : Ex → St → Option ρ) : ∀ (m : Nat) (x9 : Int),
  loopH (B154v2 (C99 u) u) N154v2 m (s154v2 x0 x1 x9 x2 x3 x4 x5 x6 x7 x8) k = L154v2 u x0 x1 x2 x3 x4 x5 x6 x7 x8 m x9 (k .ret (s154v3 x2 x3 x4 x5 x6 x7 x8)) (k (.exit 2) (s154v4 x0 x1 x2 x3 x4 x5 x6 x7 x8))
 | 0,_ => rfl
 | m + 1,x9 => by
  rw [r154v2]
  simp only [L154v2,q154v2 u x0 x1 x2 x3 x4 x5 x6 x7 x8 k m]
def B154v3 (C : Oracle) (u : Nat) : St → (Ex → St → Option ρ) → Option ρ := fun st k => evalC C u A35v8 st k
def N154v3 : St → Option St := fun s => s.norm (1 :: 2 :: 3 :: (rl 6 5 (rl 12 82 []))) 5
def s154v5 (x0 : Nat) (x1 : FF) (x2 x3 x4 x5 x6 : Int) (x7 : Nat) (x8 x9 : FF) : St := ⟨(.x (.c (ro kP x0 x1)) :: (us 3 (.x (.ptr 0 0) :: .x (.ptr 1 0) :: (us 5 (vxi x2 :: (us 82 [])))))),[.box [(vci x3),(vci x4)],.box [(vci x5),(vci x6)],.box [(.own 3 0 x7),(vcn)],.arr kP x7 x8,.arr kP 4 x9]⟩
def s154v6 (x0 x1 x2 x3 : Int) (x4 : Nat) (x5 x6 : FF) : St := ⟨(us 6 (vxb false :: (us 87 []))),[.box [(vci x0),(vci x1)],.box [(vci x2),(vci x3)],.box [(.own 3 0 x4),(vcn)],.arr kP x4 x5,.arr kP 4 x6]⟩
def s154v7 (x0 x1 x2 x3 : Int) (x4 : Nat) (x5 x6 : FF) : St := ⟨(us 94 []),[.box [(vci x0),(vci x1)],.box [(vci x2),(vci x3)],.box [(.own 3 0 x4),(vcn)],.arr kP x4 x5,.arr kP 4 x6]⟩
def L154v3 {ρ : Type} (u : Nat) (x0 : Nat) (x1 : FF) (x2 x3 x4 x5 : Int) (x6 : Nat) (x7 x8 : FF) : Nat → Int → (Option ρ) → (Option ρ) → Option ρ
 | 0,_,_,_ => none
 | m + 1,x9,k0,k1 =>
  (bif (decide (x9 < (Int.ofNat x0))) then (bif (inb x9 x0) then (bif ((Int.ofNat x0) == 0) then none else (bif (inb (Int.tmod (w64 (x9 + 1)) (Int.ofNat x0)) x0) then (ob (F153 100 (x1 x9.toNat 0).int (x1 x9.toNat 1).int (CV.int (x1 (Int.toNat (Int.tmod (w64 (x9 + 1)) (Int.ofNat x0))) 0)) (CV.int (x1 (Int.toNat (Int.tmod (w64 (x9 + 1)) (Int.ofNat x0))) 1)) x2 x3 x4 x5) fun xA => (bif xA then k0 else (L154v3 u x0 x1 x2 x3 x4 x5 x6 x7 x8 m (w64 (x9 + 1)) k0 k1))) else none)) else none) else k1)
theorem nl154v3 {ρ σ : Type} (u : Nat) (x0 : Nat) (x1 : FF) (x2 x3 x4 x5 : Int) (x6 : Nat) (x7 x8 : FF) (g : ρ → Option σ) : ∀ (m : Nat) (x9 : Int) (k0 : Option ρ) (k1 : Option ρ),ob (L154v3 u x0 x1 x2 x3 x4 x5 x6 x7 x8 m x9 k0 k1) g = L154v3 u x0 x1 x2 x3 x4 x5 x6 x7 x8 m x9 (ob k0 g) (ob k1 g)
 | 0,_,_,_ => rfl
 | m + 1,x9,k0,k1 => by
  simp only [L154v3,ob_bif,ob_ob,ob_none,nl154v3 u x0 x1 x2 x3 x4 x5 x6 x7 x8 g m]
theorem r154v3 (m : Nat) (k : Ex → St → Option ρ) (x0 : Nat) (x1 : FF) (x2 x3 x4 x5 : Int) (x6 : Nat) (x7 x8 : FF) (x9 : Int) :
  loopH (B154v3 (C99 u) u) N154v3 (m + 1) (s154v5 x0 x1 x9 x2 x3 x4 x5 x6 x7 x8) k =
  (bif (decide (x9 < (Int.ofNat x0))) then (bif (inb x9 x0) then (bif ((Int.ofNat x0) == 0) then none else (bif (inb (Int.tmod (w64 (x9 + 1)) (Int.ofNat x0)) x0) then (ob (F153 100 (x1 x9.toNat 0).int (x1 x9.toNat 1).int (CV.int (x1 (Int.toNat (Int.tmod (w64 (x9 + 1)) (Int.ofNat x0))) 0)) (CV.int (x1 (Int.toNat (Int.tmod (w64 (x9 + 1)) (Int.ofNat x0))) 1)) x2 x3 x4 x5) fun xA => (bif xA then (k .ret (s154v6 x2 x3 x4 x5 x6 x7 x8)) else (loopH (B154v3 (C99 u) u) N154v3 m (s154v5 x0 x1 (w64 (x9 + 1)) x2 x3 x4 x5 x6 x7 x8) k))) else none)) else none) else (k (.exit 4) (s154v7 x2 x3 x4 x5 x6 x7 x8))) := by kernel_rfl
theorem q154v3 (u : Nat) (x0 : Nat) (x1 : FF) (x2 x3 x4 x5 : Int) (x6 : Nat) (x7 x8 : FF) {ρ : Type} (k : Ex → St → Option ρ) : ∀ (m : Nat) (x9 : Int),
  loopH (B154v3 (C99 u) u) N154v3 m (s154v5 x0 x1 x9 x2 x3 x4 x5 x6 x7 x8) k = L154v3 u x0 x1 x2 x3 x4 x5 x6 x7 x8 m x9 (k .ret (s154v6 x2 x3 x4 x5 x6 x7 x8)) (k (.exit 4) (s154v7 x2 x3 x4 x5 x6 x7 x8))
 | 0,_ => rfl
 | m + 1,x9 => by
  rw [r154v3]
  simp only [L154v3,q154v3 u x0 x1 x2 x3 x4 x5 x6 x7 x8 k m]
def D154 (x0 : Nat) (x1 : FF) (x2 x3 x4 x5 : Int) (k : Bool → Option ρ) : Option ρ :=
 (L154v1 u x0 x1 x2 x3 x4 x5 u (w64 ((Int.ofNat x0) - 1)) 0 (fun _ _ => .any)
  (fun x6 x7 => (ob (F14 100 x6 x7 0 (fun _ _ => .any)) fun x8 => (bif ((x8 != 0) == false) then (ob (F23 100 x6 x7 0 (fun _ _ => .any) (w64 (Int.tdiv (w64 (x2 + x4)) 2)) (w64 (Int.tdiv (w64 (x3 + x5)) 2))) fun x9 => (bif (decide (x9 < 1)) then (k false) else (L154v2 u x0 x1 x2 x3 x4 x5 x6 x7 (rowsF 2 [(.i .i64 x2),(.i .i64 x3),(.i .i64 x4),(.i .i64 x3),(.i .i64 x4),(.i .i64 x5),(.i .i64 x2),(.i .i64 x5)]) u 0
  (k false)
  (L154v3 u x0 x1 x2 x3 x4 x5 x6 x7 (rowsF 2 [(.i .i64 x2),(.i .i64 x3),(.i .i64 x4),(.i .i64 x3),(.i .i64 x4),(.i .i64 x5),(.i .i64 x2),(.i .i64 x5)]) u 0
  (k false)
  (k true))))) else (k false)))))
def F154 (x0 : Nat) (x1 : FF) (x2 x3 x4 x5 : Int) : Option (Bool) := D154 u x0 x1 x2 x3 x4 x5 some
theorem f154 (x0 : Nat) (x1 : FF) (x2 x3 x4 x5 : Int) (k : (Bool) → Option ρ) : D154 u x0 x1 x2 x3 x4 x5 k = ob (F154 u x0 x1 x2 x3 x4 x5) k := by
 simp only [F154,D154,ob_bif,ob_ob,ob_none,ob_some,nl154v1,nl154v2,nl154v3]
def s154v8 (x0 : Nat) (x1 : FF) (x2 x3 x4 x5 : Int) : St := ⟨[.x (.c (ro kP x0 x1)),.agg [(vci x2),(vci x3)],.agg [(vci x4),(vci x5)],uu,.x (.ptr 0 0),.x (.ptr 1 0),vxb false,.x (.ptr 2 0),vxi (w64 ((Int.ofNat x0) - 1)),uu,uu,uu,.x (.c (ro kP x0 x1)),vxi (Int.ofNat x0),vxi (w64 ((Int.ofNat x0) - 1)),uu,uu,uu,uu,uu,uu,uu,uu,uu,uu,uu,uu,uu,uu,uu,uu,uu,uu,uu,uu,uu,uu,uu,uu,uu,uu,uu,uu,uu,uu,uu,uu,uu,uu,uu,uu,uu,uu,uu,uu,uu,uu,uu,uu,uu,uu,uu,uu,uu,uu,uu,uu,uu,uu,uu,uu,uu,uu,uu,uu,uu,uu,uu,uu,uu,uu,uu,uu,uu,uu,uu,uu,uu,uu,uu,uu,uu,uu,uu],[.box [(vci x2),(vci x3)],.box [(vci x4),(vci x5)],.box [(.own 3 0 0),(vcn)],.arr kP 0 nilF]⟩
theorem t154v1 (k : Ex → St → Option ρ) (x0 : Nat) (x1 : FF) (x2 x3 x4 x5 : Int) :
  loopN (B154v1 (C99 u) u) N154v1 u (s154v8 x0 x1 x2 x3 x4 x5) k =
  L154v1 u x0 x1 x2 x3 x4 x5 u (w64 ((Int.ofNat x0) - 1)) 0 nilF (fun x6 x7 => k (.exit 0) (s154v1 x0 x1 x2 x3 x4 x5 x6 x7)) :=
 (loopN_at (st' := (s154v0 x0 x1 (w64 ((Int.ofNat x0) - 1)) x2 x3 x4 x5 0 nilF)) (by kernel_rfl)).trans (q154v1 u x0 x1 x2 x3 x4 x5 k u (w64 ((Int.ofNat x0) - 1)) 0 nilF)
def s154v9 (x0 : Nat) (x1 : FF) (x2 x3 x4 x5 : Int) (x6 : Nat) (x7 : FF) : St := ⟨(.x (.c (ro kP x0 x1)) :: (us 3 (.x (.ptr 0 0) :: .x (.ptr 1 0) :: .u :: .x (.ptr 2 0) :: .u :: .x (.own 4 0 4) :: vxi 0 :: (us 38 (.agg [(vci x2),(vci x3)] :: .x (.ptr 1 0) :: vxi x4 :: .x (.ptr 0 1) :: vxi x3 :: .agg [(vci x4),(vci x3)] :: .agg [(vci x4),(vci x5)] :: .x (.ptr 0 0) :: vxi x2 :: .x (.ptr 1 1) :: vxi x5 :: .agg [(vci x2),(vci x5)] :: .x (.own 4 0 4) :: (us 32 [])))))),[.box [(vci x2),(vci x3)],.box [(vci x4),(vci x5)],.box [(.own 3 0 x6),(vcn)],.arr kP x6 x7,.arr kP 4 (rowsF 2 [(vi x2),(vi x3),(vi x4),(vi x3),(vi x4),(vi x5),(vi x2),(vi x5)])]⟩
theorem g154v2 (x0 : Nat) (x1 : FF) (x2 x3 x4 x5 : Int) (x6 : Nat) (x7 : FF) :
  (kBlk 0 (kSeq (C99 u) u (8 :: (rl 12 16 [])) A35v12 (finish A35))) (.exit 0) (s154v1 x0 x1 x2 x3 x4 x5 x6 x7) =
  (ob (F14 100 x6 x7 0 nilF) fun x8 => (bif ((x8 != 0) == false) then (ob (F23 100 x6 x7 0 nilF (w64 (Int.tdiv (w64 (x2 + x4)) 2)) (w64 (Int.tdiv (w64 (x3 + x5)) 2))) fun x9 => (bif (decide (x9 < 1)) then (some [.v (.b false)]) else (loopN (B154v2 (C99 u) u) N154v2 u (s154v9 x0 x1 x2 x3 x4 x5 x6 x7) (kBlk 2 (kSeq (C99 u) u (6 :: 10 :: (rl 62 11 [])) A35v10 (finish A35)))))) else (some [.v (.b false)]))) := by kernel_rfl
theorem t154v3 (k : Ex → St → Option ρ) (x0 : Nat) (x1 : FF) (x2 x3 x4 x5 : Int) (x6 : Nat) (x7 : FF) :
  loopN (B154v2 (C99 u) u) N154v2 u (s154v9 x0 x1 x2 x3 x4 x5 x6 x7) k =
  L154v2 u x0 x1 x2 x3 x4 x5 x6 x7 (rowsF 2 [(vi x2),(vi x3),(vi x4),(vi x3),(vi x4),(vi x5),(vi x2),(vi x5)]) u 0 (k .ret (s154v3 x2 x3 x4 x5 x6 x7 (rowsF 2 [(vi x2),(vi x3),(vi x4),(vi x3),(vi x4),(vi x5),(vi x2),(vi x5)]))) (k (.exit 2) (s154v4 x0 x1 x2 x3 x4 x5 x6 x7 (rowsF 2 [(vi x2),(vi x3),(vi x4),(vi x3),(vi x4),(vi x5),(vi x2),(vi x5)]))) :=
 (loopN_at (st' := (s154v2 x0 x1 0 x2 x3 x4 x5 x6 x7 (rowsF 2 [(vi x2),(vi x3),(vi x4),(vi x3),(vi x4),(vi x5),(vi x2),(vi x5)]))) (by kernel_rfl)).trans (q154v2 u x0 x1 x2 x3 x4 x5 x6 x7 (rowsF 2 [(vi x2),(vi x3),(vi x4),(vi x3),(vi x4),(vi x5),(vi x2),(vi x5)]) k u 0)
theorem g154v4 (x0 x1 x2 x3 : Int) (x4 : Nat) (x5 : FF) :
  (kBlk 2 (kSeq (C99 u) u (6 :: 10 :: (rl 62 11 [])) A35v10 (finish A35))) .ret (s154v3 x0 x1 x2 x3 x4 x5 (rowsF 2 [(vi x0),(vi x1),(vi x2),(vi x1),(vi x2),(vi x3),(vi x0),(vi x3)])) =
  (some [.v (.b false)]) := by kernel_rfl
def s154v10 (x0 : Nat) (x1 : FF) (x2 x3 x4 x5 : Int) (x6 : Nat) (x7 : FF) : St := ⟨(.x (.c (ro kP x0 x1)) :: (us 3 (.x (.ptr 0 0) :: .x (.ptr 1 0) :: (us 5 (vxi 0 :: (us 82 [])))))),[.box [(vci x2),(vci x3)],.box [(vci x4),(vci x5)],.box [(.own 3 0 x6),(vcn)],.arr kP x6 x7,.arr kP 4 (rowsF 2 [(vi x2),(vi x3),(vi x4),(vi x3),(vi x4),(vi x5),(vi x2),(vi x5)])]⟩
theorem g154v5 (x0 : Nat) (x1 : FF) (x2 x3 x4 x5 : Int) (x6 : Nat) (x7 : FF) :
  (kBlk 2 (kSeq (C99 u) u (6 :: 10 :: (rl 62 11 [])) A35v10 (finish A35))) (.exit 2) (s154v4 x0 x1 x2 x3 x4 x5 x6 x7 (rowsF 2 [(vi x2),(vi x3),(vi x4),(vi x3),(vi x4),(vi x5),(vi x2),(vi x5)])) =
  (loopN (B154v3 (C99 u) u) N154v3 u (s154v10 x0 x1 x2 x3 x4 x5 x6 x7) (kBlk 4 (kSeq (C99 u) u (6 :: 11 :: (rl 73 21 [])) A35v9 (finish A35)))) := by kernel_rfl
theorem t154v6 (k : Ex → St → Option ρ) (x0 : Nat) (x1 : FF) (x2 x3 x4 x5 : Int) (x6 : Nat) (x7 : FF) :
  loopN (B154v3 (C99 u) u) N154v3 u (s154v10 x0 x1 x2 x3 x4 x5 x6 x7) k =
  L154v3 u x0 x1 x2 x3 x4 x5 x6 x7 (rowsF 2 [(vi x2),(vi x3),(vi x4),(vi x3),(vi x4),(vi x5),(vi x2),(vi x5)]) u 0 (k .ret (s154v6 x2 x3 x4 x5 x6 x7 (rowsF 2 [(vi x2),(vi x3),(vi x4),(vi x3),(vi x4),(vi x5),(vi x2),(vi x5)]))) (k (.exit 4) (s154v7 x2 x3 x4 x5 x6 x7 (rowsF 2 [(vi x2),(vi x3),(vi x4),(vi x3),(vi x4),(vi x5),(vi x2),(vi x5)]))) :=
 (loopN_at (st' := (s154v5 x0 x1 0 x2 x3 x4 x5 x6 x7 (rowsF 2 [(vi x2),(vi x3),(vi x4),(vi x3),(vi x4),(vi x5),(vi x2),(vi x5)]))) (by kernel_rfl)).trans (q154v3 u x0 x1 x2 x3 x4 x5 x6 x7 (rowsF 2 [(vi x2),(vi x3),(vi x4),(vi x3),(vi x4),(vi x5),(vi x2),(vi x5)]) k u 0)
theorem g154v7 (x0 x1 x2 x3 : Int) (x4 : Nat) (x5 : FF) :
  (kBlk 4 (kSeq (C99 u) u (6 :: 11 :: (rl 73 21 [])) A35v9 (finish A35))) .ret (s154v6 x0 x1 x2 x3 x4 x5 (rowsF 2 [(vi x0),(vi x1),(vi x2),(vi x1),(vi x2),(vi x3),(vi x0),(vi x3)])) =
  (some [.v (.b false)]) := by kernel_rfl
theorem g154v8 (x0 x1 x2 x3 : Int) (x4 : Nat) (x5 : FF) :
  (kBlk 4 (kSeq (C99 u) u (6 :: 11 :: (rl 73 21 [])) A35v9 (finish A35))) (.exit 4) (s154v7 x0 x1 x2 x3 x4 x5 (rowsF 2 [(vi x0),(vi x1),(vi x2),(vi x1),(vi x2),(vi x3),(vi x0),(vi x3)])) =
  (some [.v (.b true)]) := by kernel_rfl
theorem e154 (x0 : Nat) (x1 : FF) (x2 x3 x4 x5 : Int) : evalF (C99 u) u A35 [.v (ro kP x0 x1),.agg [(vi x2),(vi x3)],.agg [(vi x4),(vi x5)]] = ob (F154 u x0 x1 x2 x3 x4 x5) fun t => some [.v (.b t)] := Eq.trans (b := (loopN (B154v1 (C99 u) u) N154v1 u (s154v8 x0 x1 x2 x3 x4 x5) (kBlk 0 (kSeq (C99 u) u (8 :: (rl 12 16 [])) A35v12 (finish A35))))) (by kernel_rfl) (by
 rw [← f154]
 simp only [D154,t154v1,g154v2,t154v3,g154v4,g154v5,t154v6,g154v7,g154v8])
def O154 : Ora where
 o := fun args {ρ} K =>
  wcL kP args fun y4 y5 l2 =>
  wc l2 fun a6 l7 =>
  wagg a6 fun l8 =>
  wdI .i64 l8 fun y12 l10 =>
  wdI .i64 l10 fun y16 l14 =>
  wn l14 <|
  wc l7 fun a17 l18 =>
  wagg a17 fun l19 =>
  wdI .i64 l19 fun y23 l21 =>
  wdI .i64 l21 fun y27 l25 =>
  wn l25 <|
  wn l18 <|
  (ob (F154 u y4 y5 y12 y16 y23 y27) fun t => K [.v (.b t)])
 nat := fun args {ρ} K => by
  simp only [bind_wagg,bind_wc,bind_wcL,bind_wdI,bind_wn,bind_ob,Option.bind_some]
theorem d154 : DO (O154 u) (C99 u) 35 A35 := by
 intro P hmix hC hF args res h
 obtain ⟨a1,y4,y5,l2,rfl,h3,z0⟩ := inv_wcL h
 obtain ⟨a6,l7,rfl,z1⟩ := inv_wc z0
 obtain ⟨l8,rfl,z2⟩ := inv_wagg z1
 obtain ⟨a9,y12,l10,rfl,h11,z3⟩ := inv_wdI z2
 obtain ⟨a13,y16,l14,rfl,h15,z4⟩ := inv_wdI z3
 obtain ⟨hn,z5⟩ := inv_wn z4
 cases hn
 obtain ⟨a17,l18,rfl,z6⟩ := inv_wc z5
 obtain ⟨l19,rfl,z7⟩ := inv_wagg z6
 obtain ⟨a20,y23,l21,rfl,h22,z8⟩ := inv_wdI z7
 obtain ⟨a24,y27,l25,rfl,h26,z9⟩ := inv_wdI z8
 obtain ⟨hn,z10⟩ := inv_wn z9
 cases hn
 obtain ⟨hn,z11⟩ := inv_wn z10
 cases hn
 exact Den.weaken (.cons h3 (.cons (WkA.agg (.cons h11 (.cons h15 .nil))) (.cons (WkA.agg (.cons h22 (.cons h26 .nil))) .nil))) (evalF_sound hmix hC hF ((e154 u y4 y5 y12 y16 y23 y27).trans z11))
def C100 : Oracle := (C99 u).add 35 (fun _ => true) (O154 100)
def A16v1 : AC := (.region 7 [mv 70 8,o1 71 (bk .add 3 70 1),o1 8 (sg 71)] 0 none)
def A16v2 : AC := (.seq (.block 1
 (.seq (.region 8 [o1 72 (fa 46 2 6 6),o1 73 (fa 40 72 1 1),o1 74 (lo 38 73),mv 75 8,o1 76 (.indexAddr 38 37 1 (tm 74) (tm 75)),o1 77 (lo 37 76),o1 78 (ln 49 2 6),o1 79 (ln 49 2 7),o1 80 (cs 35 [77,78,79] [37,49,49])] 0 (some [[],[0],[0,1],[],(rl 0 4 []),(rl 0 5 []),[],[],(rl 0 8 [])])) []
  (.cond (tm 80)
  (.seq (.region 9 [o1 4 (sb true)] 0 none) []
   (.ret (rl 0 4 (rl 5 76 []))))
  .skip))) (4 :: (rl 72 9 []))
 A16v1)
def A16v3 : AC := (.seq (.seq (.region 6 [mv 64 8,o1 65 (fa 46 2 6 6),o1 66 (fa 40 65 1 1),o1 67 (lo 38 66),o1 68 (.len 38 false (tm 67)),o1 69 (bt .lss 3 64 68)] 0 none) []
 (.cond (tm 69)
 .skip
 (.exit 0 (rl 0 81 [])))) (rl 64 6 [])
 A16v2)
def A16v4 : AC := (.seq (.region 10 [o1 4 (sb false)] 0 none) []
 (.ret (rl 0 4 (rl 5 76 []))))
def A16v5 : AC := (.seq (.region 3 [o1 38 (fa 51 3 2 3),o1 39 (lo 3 38),o1 40 (bk .add 3 39 1),o1 41 (bk .quo 3 40 2),o1 5 (sg 41)] 0 none) []
 (.seq (.region 4 [o1 42 (fa 51 3 1 1),o1 43 (fa 49 42 0 0),o1 44 (lo 3 43),mv 45 5,o1 46 (bt .sub 3 44 45),o1 47 (fa 51 3 1 1),o1 48 (fa 49 47 1 1),o1 49 (lo 3 48),mv 50 5,o1 51 (bt .sub 3 49 50),o1 52 (.build 49 [vci 0,vci 0] [(0,1),(1,1)] 0 [(0,(tm 46)),(1,(tm 51))]),o1 53 (fa 51 3 1 1),o1 54 (fa 49 53 0 0),o1 55 (lo 3 54),mv 56 5,o1 57 (bt .add 3 55 56),o1 58 (fa 51 3 1 1),o1 59 (fa 49 58 1 1),o1 60 (lo 3 59),mv 61 5,o1 62 (bt .add 3 60 61),o1 63 (.build 49 [vci 0,vci 0] [(0,1),(1,1)] 0 [(0,(tm 57)),(1,(tm 62))]),o1 6 (.alloc 0 49 [vci 0,vci 0]),o1 7 (.alloc 1 49 [vci 0,vci 0]),o0 (.store 49 2 (tm 6) (tm 52)),o0 (.store 49 2 (tm 7) (tm 63))] 2 (some [[],[0],[0,1],[],(rl 0 4 []),[],[5],[5,6],[],(rl 5 4 []),(rl 0 10 []),[],[11],[11,12],[],(rl 11 4 []),[],[16],[16,17],[],(rl 16 4 []),(rl 11 10 []),[],[],(rl 0 11 [22,23]),(rl 0 25 [])])) []
 (.seq (.seq (.region 5 [o1 8 (sk 0)] 0 none) []
 (.block 0
 (.loop [] (0 :: 1 :: 3 :: 4 :: 5 :: (rl 9 72 []))
  A16v3))) (4 :: 8 :: (rl 64 17 []))
 A16v4)))
def A16 : AF := ⟨81,[.tmp 4],
 (.seq (.region 0 [o1 2 (bx 0 46 0),o1 3 (bx 1 51 1),o1 4 (sb false)] 2 none) []
 (.seq (.seq (.region 1 [o1 9 (fa 51 3 0 0),o1 10 (lo 9 9),o1 11 (fa 46 2 0 0),o1 12 (lo 9 11),o1 13 (bt .neq 9 10 12),mv 14 13,og 15 (fa 51 3 2 3) 14 false,og 16 (lo 3 15) 14 false,og 17 (bk .lss 3 16 1) 14 false,o1 18 (pa 14 17),mv 19 18,og 20 (fa 51 3 2 3) 19 false,og 21 (lo 3 20) 19 false,og 22 (bk .gtr 3 21 10000) 19 false,o1 23 (pa 19 22),mv 24 23,og 25 (fa 51 3 1 1) 24 false,og 26 (fa 49 25 0 0) 24 false,og 27 (lo 3 26) 24 false,og 28 (cs 34 [27] [3]) 24 false,og 29 (.unOp .not 4 (tm 28)) 24 false,o1 30 (pa 24 29),mv 31 30,og 32 (fa 51 3 1 1) 31 false,og 33 (fa 49 32 1 1) 31 false,og 34 (lo 3 33) 31 false,og 35 (cs 34 [34] [3]) 31 false,og 36 (.unOp .not 4 (tm 35)) 31 false,o1 37 (pa 31 36)] 0 none) []
 (.cond (tm 37)
 (.seq (.region 2 [o1 4 (sb false)] 0 none) []
  (.ret (rl 0 4 (rl 5 76 []))))
 .skip)) (4 :: (rl 9 29 []))
 A16v5))⟩
def B155v1 (C : Oracle) (u : Nat) : St → (Ex → St → Option ρ) → Option ρ := fun st k => evalC C u A16v3 st k
def N155v1 : St → Option St := fun s => s.norm (0 :: 1 :: 3 :: 4 :: 5 :: (rl 9 72 [])) 4
def s155v0 (x0 : Int) (x1 : Nat → CV) (x2 : ByteArray) (x3 x4 x5 x6 x7 x8 x9 : Int) : St := ⟨(.u :: .u :: .x (.ptr 0 0) :: (us 3 (.x (.ptr 2 0) :: .x (.ptr 3 0) :: vxi x0 :: (us 72 [])))),[.box (pjc kR0 x1),.box [(vcs x2),(vci x3),(vci x4),(vci x5)],.box [(vci x6),(vci x7)],.box [(vci x8),(vci x9)]]⟩
def s155v1 (x0 : Nat → CV) (x1 : ByteArray) (x2 x3 x4 x5 x6 x7 x8 : Int) : St := ⟨(us 4 (vxb true :: (us 76 []))),[.box (pjc kR0 x0),.box [(vcs x1),(vci x2),(vci x3),(vci x4)],.box [(vci x5),(vci x6)],.box [(vci x7),(vci x8)]]⟩
def s155v2 (x0 : Nat → CV) (x1 : ByteArray) (x2 x3 x4 x5 x6 x7 x8 : Int) : St := ⟨(us 81 []),[.box (pjc kR0 x0),.box [(vcs x1),(vci x2),(vci x3),(vci x4)],.box [(vci x5),(vci x6)],.box [(vci x7),(vci x8)]]⟩
def L155v1 {ρ : Type} (u : Nat) (x0 : Nat → CV) (x1 : ByteArray) (x2 x3 x4 x5 x6 x7 x8 : Int) : Nat → Int → (Option ρ) → (Option ρ) → Option ρ
 | 0,_,_,_ => none
 | m + 1,x9,k0,k1 =>
  (bif (decide (x9 < (Int.ofNat (x0 7).len))) then (bif (inb x9 (x0 7).len) then (ob (F154 100 ((x0 7).el x9.toNat 0).len ((x0 7).el x9.toNat 0).el x5 x6 x7 x8) fun xA => (bif xA then k0 else (L155v1 u x0 x1 x2 x3 x4 x5 x6 x7 x8 m (w64 (x9 + 1)) k0 k1))) else none) else k1)
theorem nl155v1 {ρ σ : Type} (u : Nat) (x0 : Nat → CV) (x1 : ByteArray) (x2 x3 x4 x5 x6 x7 x8 : Int) (g : ρ → Option σ) : ∀ (m : Nat) (x9 : Int) (k0 : Option ρ) (k1 : Option ρ),ob (L155v1 u x0 x1 x2 x3 x4 x5 x6 x7 x8 m x9 k0 k1) g = L155v1 u x0 x1 x2 x3 x4 x5 x6 x7 x8 m x9 (ob k0 g) (ob k1 g)
 | 0,_,_,_ => rfl
 | m + 1,x9,k0,k1 => by
  simp only [L155v1,ob_bif,ob_ob,ob_none,nl155v1 u x0 x1 x2 x3 x4 x5 x6 x7 x8 g m]
theorem r155v1 (m : Nat) (k : Ex → St → Option ρ) (x0 : Nat → CV) (x1 : ByteArray) (x2 x3 x4 x5 x6 x7 x8 x9 : Int) :
  loopH (B155v1 (C100 u) u) N155v1 (m + 1) (s155v0 x9 x0 x1 x2 x3 x4 x5 x6 x7 x8) k =
  (bif (decide (x9 < (Int.ofNat (x0 7).len))) then (bif (inb x9 (x0 7).len) then (ob (F154 100 ((x0 7).el x9.toNat 0).len ((x0 7).el x9.toNat 0).el x5 x6 x7 x8) fun xA => (bif xA then (k .ret (s155v1 x0 x1 x2 x3 x4 x5 x6 x7 x8)) else (loopH (B155v1 (C100 u) u) N155v1 m (s155v0 (w64 (x9 + 1)) x0 x1 x2 x3 x4 x5 x6 x7 x8) k))) else none) else (k (.exit 0) (s155v2 x0 x1 x2 x3 x4 x5 x6 x7 x8))) := by kernel_rfl
theorem q155v1 (u : Nat) (x0 : Nat → CV) (x1 : ByteArray) (x2 x3 x4 x5 x6 x7 x8 : Int) {ρ : Type} (k : Ex → St → Option ρ) : ∀ (m : Nat) (x9 : Int),
  loopH (B155v1 (C100 u) u) N155v1 m (s155v0 x9 x0 x1 x2 x3 x4 x5 x6 x7 x8) k = L155v1 u x0 x1 x2 x3 x4 x5 x6 x7 x8 m x9 (k .ret (s155v1 x0 x1 x2 x3 x4 x5 x6 x7 x8)) (k (.exit 0) (s155v2 x0 x1 x2 x3 x4 x5 x6 x7 x8))
 | 0,_ => rfl
 | m + 1,x9 => by
  rw [r155v1]
  simp only [L155v1,q155v1 u x0 x1 x2 x3 x4 x5 x6 x7 x8 k m]
def D155 (x0 : Nat → CV) (x1 : ByteArray) (x2 x3 x4 : Int) (k : Bool → Option ρ) : Option ρ :=
 (bif ((!(ByteArray.toList x1 == ByteArray.toList (x0 0).str)) == false) then (bif ((decide (x4 < 1)) == false) then (bif ((decide (x4 > 10000)) == false) then (ob (F151 100 x2) fun x5 => (bif ((!x5) == false) then (ob (F151 100 x3) fun x6 => (bif (!x6) then (k false) else (L155v1 u x0 x1 x2 x3 x4 (w64 (x2 - (w64 (Int.tdiv (w64 (x4 + 1)) 2)))) (w64 (x3 - (w64 (Int.tdiv (w64 (x4 + 1)) 2)))) (w64 (x2 + (w64 (Int.tdiv (w64 (x4 + 1)) 2)))) (w64 (x3 + (w64 (Int.tdiv (w64 (x4 + 1)) 2)))) u 0
  (k true)
  (k false)))) else (k false))) else (k false)) else (k false)) else (k false))
def F155 (x0 : Nat → CV) (x1 : ByteArray) (x2 x3 x4 : Int) : Option (Bool) := D155 u x0 x1 x2 x3 x4 some
theorem f155 (x0 : Nat → CV) (x1 : ByteArray) (x2 x3 x4 : Int) (k : (Bool) → Option ρ) : D155 u x0 x1 x2 x3 x4 k = ob (F155 u x0 x1 x2 x3 x4) k := by
 simp only [F155,D155,ob_bif,ob_ob,ob_none,ob_some,nl155v1]
def s155v3 (x0 : Nat → CV) (x1 : ByteArray) (x2 x3 x4 : Int) : St := ⟨(.agg (pjc kR0 x0) :: .agg [(vcs x1),(vci x2),(vci x3),(vci x4)] :: .x (.ptr 0 0) :: .x (.ptr 1 0) :: .u :: vxi (w64 (Int.tdiv (w64 (x4 + 1)) 2)) :: .x (.ptr 2 0) :: .x (.ptr 3 0) :: vxi 0 :: (us 29 [.x (.ptr 1 3),vxi x4,vxi (w64 (x4 + 1)),vxi (w64 (Int.tdiv (w64 (x4 + 1)) 2)),.x (.ptr 1 1),.x (.ptr 1 1),vxi x2,vxi (w64 (Int.tdiv (w64 (x4 + 1)) 2)),vxi (w64 (x2 - (w64 (Int.tdiv (w64 (x4 + 1)) 2)))),.x (.ptr 1 1),.x (.ptr 1 2),vxi x3,vxi (w64 (Int.tdiv (w64 (x4 + 1)) 2)),vxi (w64 (x3 - (w64 (Int.tdiv (w64 (x4 + 1)) 2)))),.agg [(vci (w64 (x2 - (w64 (Int.tdiv (w64 (x4 + 1)) 2))))),(vci (w64 (x3 - (w64 (Int.tdiv (w64 (x4 + 1)) 2)))))],.x (.ptr 1 1),.x (.ptr 1 1),vxi x2,vxi (w64 (Int.tdiv (w64 (x4 + 1)) 2)),vxi (w64 (x2 + (w64 (Int.tdiv (w64 (x4 + 1)) 2)))),.x (.ptr 1 1),.x (.ptr 1 2),vxi x3,vxi (w64 (Int.tdiv (w64 (x4 + 1)) 2)),vxi (w64 (x3 + (w64 (Int.tdiv (w64 (x4 + 1)) 2)))),.agg [(vci (w64 (x2 + (w64 (Int.tdiv (w64 (x4 + 1)) 2))))),(vci (w64 (x3 + (w64 (Int.tdiv (w64 (x4 + 1)) 2)))))],uu,uu,uu,uu,uu,uu,uu,uu,uu,uu,uu,uu,uu,uu,uu,uu,uu])),[.box (pjc kR0 x0),.box [(vcs x1),(vci x2),(vci x3),(vci x4)],.box [(vci (w64 (x2 - (w64 (Int.tdiv (w64 (x4 + 1)) 2))))),(vci (w64 (x3 - (w64 (Int.tdiv (w64 (x4 + 1)) 2)))))],.box [(vci (w64 (x2 + (w64 (Int.tdiv (w64 (x4 + 1)) 2))))),(vci (w64 (x3 + (w64 (Int.tdiv (w64 (x4 + 1)) 2)))))]]⟩
theorem t155v1 (k : Ex → St → Option ρ) (x0 : Nat → CV) (x1 : ByteArray) (x2 x3 x4 : Int) :
  loopN (B155v1 (C100 u) u) N155v1 u (s155v3 x0 x1 x2 x3 x4) k =
  L155v1 u x0 x1 x2 x3 x4 (w64 (x2 - (w64 (Int.tdiv (w64 (x4 + 1)) 2)))) (w64 (x3 - (w64 (Int.tdiv (w64 (x4 + 1)) 2)))) (w64 (x2 + (w64 (Int.tdiv (w64 (x4 + 1)) 2)))) (w64 (x3 + (w64 (Int.tdiv (w64 (x4 + 1)) 2)))) u 0 (k .ret (s155v1 x0 x1 x2 x3 x4 (w64 (x2 - (w64 (Int.tdiv (w64 (x4 + 1)) 2)))) (w64 (x3 - (w64 (Int.tdiv (w64 (x4 + 1)) 2)))) (w64 (x2 + (w64 (Int.tdiv (w64 (x4 + 1)) 2)))) (w64 (x3 + (w64 (Int.tdiv (w64 (x4 + 1)) 2)))))) (k (.exit 0) (s155v2 x0 x1 x2 x3 x4 (w64 (x2 - (w64 (Int.tdiv (w64 (x4 + 1)) 2)))) (w64 (x3 - (w64 (Int.tdiv (w64 (x4 + 1)) 2)))) (w64 (x2 + (w64 (Int.tdiv (w64 (x4 + 1)) 2)))) (w64 (x3 + (w64 (Int.tdiv (w64 (x4 + 1)) 2)))))) :=
 (loopN_at (st' := (s155v0 0 x0 x1 x2 x3 x4 (w64 (x2 - (w64 (Int.tdiv (w64 (x4 + 1)) 2)))) (w64 (x3 - (w64 (Int.tdiv (w64 (x4 + 1)) 2)))) (w64 (x2 + (w64 (Int.tdiv (w64 (x4 + 1)) 2)))) (w64 (x3 + (w64 (Int.tdiv (w64 (x4 + 1)) 2)))))) (by kernel_rfl)).trans (q155v1 u x0 x1 x2 x3 x4 (w64 (x2 - (w64 (Int.tdiv (w64 (x4 + 1)) 2)))) (w64 (x3 - (w64 (Int.tdiv (w64 (x4 + 1)) 2)))) (w64 (x2 + (w64 (Int.tdiv (w64 (x4 + 1)) 2)))) (w64 (x3 + (w64 (Int.tdiv (w64 (x4 + 1)) 2)))) k u 0)
theorem g155v2 (x0 : Nat → CV) (x1 : ByteArray) (x2 x3 x4 : Int) :
  (kBlk 0 (kSeq (C100 u) u (4 :: 8 :: (rl 64 17 [])) A16v4 (finish A16))) .ret (s155v1 x0 x1 x2 x3 x4 (w64 (x2 - (w64 (Int.tdiv (w64 (x4 + 1)) 2)))) (w64 (x3 - (w64 (Int.tdiv (w64 (x4 + 1)) 2)))) (w64 (x2 + (w64 (Int.tdiv (w64 (x4 + 1)) 2)))) (w64 (x3 + (w64 (Int.tdiv (w64 (x4 + 1)) 2))))) =
  (some [.v (.b true)]) := by kernel_rfl
theorem g155v3 (x0 : Nat → CV) (x1 : ByteArray) (x2 x3 x4 : Int) :
  (kBlk 0 (kSeq (C100 u) u (4 :: 8 :: (rl 64 17 [])) A16v4 (finish A16))) (.exit 0) (s155v2 x0 x1 x2 x3 x4 (w64 (x2 - (w64 (Int.tdiv (w64 (x4 + 1)) 2)))) (w64 (x3 - (w64 (Int.tdiv (w64 (x4 + 1)) 2)))) (w64 (x2 + (w64 (Int.tdiv (w64 (x4 + 1)) 2)))) (w64 (x3 + (w64 (Int.tdiv (w64 (x4 + 1)) 2))))) =
  (some [.v (.b false)]) := by kernel_rfl
theorem e155 (x0 : Nat → CV) (x1 : ByteArray) (x2 x3 x4 : Int) : evalF (C100 u) u A16 [.agg (pj kR0 x0),.agg [(.s x1),(vi x2),(vi x3),(vi x4)]] = ob (F155 u x0 x1 x2 x3 x4) fun t => some [.v (.b t)] := Eq.trans (b := (bif ((!(ByteArray.toList x1 == ByteArray.toList (x0 0).str)) == false) then (bif ((decide (x4 < 1)) == false) then (bif ((decide (x4 > 10000)) == false) then (ob (F151 100 x2) fun x5 => (bif ((!x5) == false) then (ob (F151 100 x3) fun x6 => (bif (!x6) then (some [.v (.b false)]) else (loopN (B155v1 (C100 u) u) N155v1 u (s155v3 x0 x1 x2 x3 x4) (kBlk 0 (kSeq (C100 u) u (4 :: 8 :: (rl 64 17 [])) A16v4 (finish A16)))))) else (some [.v (.b false)]))) else (some [.v (.b false)])) else (some [.v (.b false)])) else (some [.v (.b false)]))) (by kernel_rfl) (by
 rw [← f155]
 simp only [D155,t155v1,g155v2,g155v3])
def O155 : Ora where
 o := fun args {ρ} K =>
  wc args fun a1 l2 =>
  wrow kR0 a1 fun y3 =>
  wc l2 fun a5 l6 =>
  wagg a5 fun l7 =>
  wdS l7 fun y11 l9 =>
  wdI .i64 l9 fun y15 l13 =>
  wdI .i64 l13 fun y19 l17 =>
  wdI .i64 l17 fun y23 l21 =>
  wn l21 <|
  wn l6 <|
  (ob (F155 u y3 y11 y15 y19 y23) fun t => K [.v (.b t)])
 nat := fun args {ρ} K => by
  simp only [bind_wagg,bind_wc,bind_wdI,bind_wdS,bind_wn,bind_wrow,bind_ob,Option.bind_some]
theorem d155 : DO (O155 u) (C100 u) 16 A16 := by
 intro P hmix hC hF args res h
 obtain ⟨a1,l2,rfl,z0⟩ := inv_wc h
 obtain ⟨y3,h4,z1⟩ := inv_wrow z0
 obtain ⟨a5,l6,rfl,z2⟩ := inv_wc z1
 obtain ⟨l7,rfl,z3⟩ := inv_wagg z2
 obtain ⟨a8,y11,l9,rfl,h10,z4⟩ := inv_wdS z3
 obtain ⟨a12,y15,l13,rfl,h14,z5⟩ := inv_wdI z4
 obtain ⟨a16,y19,l17,rfl,h18,z6⟩ := inv_wdI z5
 obtain ⟨a20,y23,l21,rfl,h22,z7⟩ := inv_wdI z6
 obtain ⟨hn,z8⟩ := inv_wn z7
 cases hn
 obtain ⟨hn,z9⟩ := inv_wn z8
 cases hn
 exact Den.weaken (.cons h4 (.cons (WkA.agg (.cons h10 (.cons h14 (.cons h18 (.cons h22 .nil))))) .nil)) (evalF_sound hmix hC hF ((e155 u y3 y11 y15 y19 y23).trans z9))
def C101 : Oracle := (C100 u).add 16 (fun _ => true) (O155 100)
def A10v1 : AC := (.region 8 [mv 30 10,o1 31 (bk .add 3 30 1),o1 10 (sg 31)] 0 none)
def A10v2 : AC := (.seq (.block 3
 (.seq (.region 9 [o1 32 (fa 28 3 2 2),o1 33 (lo 23 32),mv 34 8,o1 35 (.indexAddr 23 46 18 (tm 33) (tm 34)),o1 36 (ln 46 18 35),mv 37 9,mv 38 10,o1 39 (.indexAddr 33 51 4 (tm 37) (tm 38)),o1 40 (ln 51 4 39),o1 41 (cs 16 [36,40] [46,51]),o1 42 (.unOp .not 4 (tm 41))] 0 (some [[],[0],[],[0,1,2],(rl 0 4 []),[],[],[5,6],[5,6,7],(rl 0 9 []),(rl 0 10 [])])) []
  (.cond (tm 42)
  (.region 10 [mv 43 7,mv 44 9,mv 45 10,o1 46 (.indexAddr 33 51 4 (tm 44) (tm 45)),o1 47 (ln 51 4 46),o1 48 (.buildSlice 0 33 51 (.pr .str kV) 1 [vcs ByteArray.empty,vci 0,vci 0,vci 0] [(0,(tm 47))]),o1 49 (.append 1 33 51 (.pr .str kV) 40 (tm 43) (tm 48)),o1 7 (sg 49)] 2 none)
  .skip))) (rl 32 18 [])
 A10v1)
def A10v3 : AC := (.seq (.seq (.region 7 [mv 26 10,mv 27 9,o1 28 (.len 33 false (tm 27)),o1 29 (bt .lss 3 26 28)] 0 none) []
 (.cond (tm 29)
 .skip
 (.exit 2 (0 :: 4 :: 5 :: 6 :: (rl 9 42 []))))) (rl 26 4 [])
 A10v2)
def A10v4 : AC := (.region 4 [mv 16 8,o1 17 (bk .add 3 16 1),o1 8 (sg 17)] 0 none)
def A10v5 : AC := (.seq (.block 1
 (.seq (.region 5 [o1 18 (fa 28 3 2 2),o1 19 (lo 23 18),mv 20 8,o1 21 (.indexAddr 23 46 18 (tm 19) (tm 20)),o1 22 (ln 46 18 21),mv 23 1,mv 24 2,o1 25 (cf 15 [22,23,24] [46,29,3]),o1 9 (sg 25)] 0 none) []
  (.seq (.region 6 [o1 10 (sk 0)] 0 none) []
  (.block 2
  (.loop [.slot 7 (.pr .str kV)] (0 :: 4 :: 5 :: 6 :: (rl 11 40 []))
   A10v3))))) (9 :: 10 :: (rl 18 32 []))
 A10v4)
def A10v6 : AC := (.seq (.seq (.region 3 [mv 11 8,o1 12 (fa 28 3 2 2),o1 13 (lo 23 12),o1 14 (.len 23 false (tm 13)),o1 15 (bt .lss 3 11 14)] 0 none) []
 (.cond (tm 15)
 .skip
 (.exit 0 (rl 0 7 (rl 8 43 []))))) (rl 11 5 [])
 A10v5)
def A10v7 : AC := (.seq (.region 11 [mv 50 7,o1 6 (sg 50)] 0 none) []
 (.ret (rl 0 6 (rl 7 44 []))))
def A10 : AF := ⟨51,[.tmp 6],
 (.seq (.region 0 [o1 3 (bx 0 28 0),o1 6 (.assign (.const (.slice none 0 0)))] 1 none) []
 (.seq (.region 1 [o1 7 (.assign (.const (.slice none 0 0)))] 0 none) []
 (.seq (.seq (.region 2 [o1 8 (sk 0)] 0 none) []
 (.block 0
 (.loop [.slot 7 (.pr .str kV)] (0 :: 4 :: 5 :: 6 :: (rl 9 42 []))
  A10v6))) (rl 8 42 [])
 A10v7)))⟩
def B165v2 (C : Oracle) (u : Nat) : St → (Ex → St → Option ρ) → Option ρ := fun st k => evalC C u A10v3 st k
def N165v2 : St → Option St := fun s => s.norm (0 :: 4 :: 5 :: 6 :: (rl 11 40 [])) 2
def s165v0 (x0 : Nat) (x1 : FF) (x2 : Int) (x3 : Nat) (x4 : Int) (x5 : Nat) (x6 : FF) (x7 : Int) (x8 : ByteArray) (x9 : Nat) (xA : FF) (xB : Nat) (xC : FF) (xD : Nat) (xE : FF) (xF : Nat) (xG : FF) (xH : Nat) (xI xJ : FF) : St := ⟨(.u :: .x (.c (ro kV x0 x1)) :: vxi x2 :: .x (.ptr 0 0) :: (us 3 (.x (.own 1 0 x3) :: vxi x4 :: .x (.c (ro (.pr .str kV) x5 x6)) :: vxi x7 :: (us 40 [])))),[.box [(vcs x8),(.c (ro kC x9 xA)),(.c (ro kA xB xC)),(.c (ro kF xD xE)),(.c (ro kB xF xG)),(.c (ro kD xH xI))],.arr (.pr .str kV) x3 xJ]⟩
def s165v1 (x0 : Nat) (x1 : FF) (x2 : Int) (x3 : Nat) (x4 : Int) (x5 : ByteArray) (x6 : Nat) (x7 : FF) (x8 : Nat) (x9 : FF) (xA : Nat) (xB : FF) (xC : Nat) (xD : FF) (xE : Nat) (xF xG : FF) : St := ⟨(.u :: .x (.c (ro kV x0 x1)) :: vxi x2 :: .x (.ptr 0 0) :: (us 3 (.x (.own 1 0 x3) :: vxi x4 :: (us 42 [])))),[.box [(vcs x5),(.c (ro kC x6 x7)),(.c (ro kA x8 x9)),(.c (ro kF xA xB)),(.c (ro kB xC xD)),(.c (ro kD xE xF))],.arr (.pr .str kV) x3 xG]⟩
def L165v2 {ρ : Type} (u : Nat) (x0 : Nat) (x1 : FF) (x2 x3 : Int) (x4 : Nat) (x5 : FF) (x6 : ByteArray) (x7 : Nat) (x8 : FF) (x9 : Nat) (xA : FF) (xB : Nat) (xC : FF) (xD : Nat) (xE : FF) (xF : Nat) (xG : FF) : Nat → Nat → Int → FF → (Nat → FF → Option ρ) → Option ρ
 | 0,_,_,_,_ => none
 | m + 1,xH,xI,xJ,k0 =>
  (bif (decide (xI < (Int.ofNat x4))) then (bif (inb x3 x9) then (bif (inb xI x4) then (ob (F155 100 (listF (pj kR0 (xA x3.toNat))) (x5 xI.toNat 0).str (x5 xI.toNat 1).int (x5 xI.toNat 2).int (x5 xI.toNat 3).int) fun xK => (bif (!xK) then (bif (inb xI x4) then (bif (Nat.ble (xH + 1) 1073741824) then (L165v2 u x0 x1 x2 x3 x4 x5 x6 x7 x8 x9 xA xB xC xD xE xF xG m (xH + 1) (w64 (xI + 1)) (joinF xH xJ (rowsF 4 [(.s (x5 xI.toNat 0).str),(.i .i64 (x5 xI.toNat 1).int),(.i .i64 (x5 xI.toNat 2).int),(.i .i64 (x5 xI.toNat 3).int)])) k0) else none) else none) else (L165v2 u x0 x1 x2 x3 x4 x5 x6 x7 x8 x9 xA xB xC xD xE xF xG m xH (w64 (xI + 1)) xJ k0))) else none) else none) else (k0 xH xJ))
theorem nl165v2 {ρ σ : Type} (u : Nat) (x0 : Nat) (x1 : FF) (x2 x3 : Int) (x4 : Nat) (x5 : FF) (x6 : ByteArray) (x7 : Nat) (x8 : FF) (x9 : Nat) (xA : FF) (xB : Nat) (xC : FF) (xD : Nat) (xE : FF) (xF : Nat) (xG : FF) (g : ρ → Option σ) : ∀ (m : Nat) (xH : Nat) (xI : Int) (xJ : FF) (k0 : Nat → FF → Option ρ),ob (L165v2 u x0 x1 x2 x3 x4 x5 x6 x7 x8 x9 xA xB xC xD xE xF xG m xH xI xJ k0) g = L165v2 u x0 x1 x2 x3 x4 x5 x6 x7 x8 x9 xA xB xC xD xE xF xG m xH xI xJ (fun xK xL => ob (k0 xK xL) g)
 | 0,_,_,_,_ => rfl
 | m + 1,xH,xI,xJ,k0 => by
  simp only [L165v2,ob_bif,ob_ob,ob_none,nl165v2 u x0 x1 x2 x3 x4 x5 x6 x7 x8 x9 xA xB xC xD xE xF xG g m]
theorem r165v2 (m : Nat) (k : Ex → St → Option ρ) (x0 : Nat) (x1 : FF) (x2 x3 : Int) (x4 : Nat) (x5 : FF) (x6 : ByteArray) (x7 : Nat) (x8 : FF) (x9 : Nat) (xA : FF) (xB : Nat) (xC : FF) (xD : Nat) (xE : FF) (xF : Nat) (xG : FF) (xH : Nat) (xI : Int) (xJ : FF) :
  loopH (B165v2 (C101 u) u) N165v2 (m + 1) (s165v0 x0 x1 x2 xH x3 x4 x5 xI x6 x7 x8 x9 xA xB xC xD xE xF xG xJ) k =
  (bif (decide (xI < (Int.ofNat x4))) then (bif (inb x3 x9) then (bif (inb xI x4) then (ob (F155 100 (listF (pj kR0 (xA x3.toNat))) (x5 xI.toNat 0).str (x5 xI.toNat 1).int (x5 xI.toNat 2).int (x5 xI.toNat 3).int) fun xK => (bif (!xK) then (bif (inb xI x4) then (bif (Nat.ble (xH + 1) 1073741824) then (loopH (B165v2 (C101 u) u) N165v2 m (s165v0 x0 x1 x2 (xH + 1) x3 x4 x5 (w64 (xI + 1)) x6 x7 x8 x9 xA xB xC xD xE xF xG (joinF xH xJ (rowsF 4 [(.s (x5 xI.toNat 0).str),(vi (x5 xI.toNat 1).int),(vi (x5 xI.toNat 2).int),(vi (x5 xI.toNat 3).int)]))) k) else none) else none) else (loopH (B165v2 (C101 u) u) N165v2 m (s165v0 x0 x1 x2 xH x3 x4 x5 (w64 (xI + 1)) x6 x7 x8 x9 xA xB xC xD xE xF xG xJ) k))) else none) else none) else (k (.exit 2) (s165v1 x0 x1 x2 xH x3 x6 x7 x8 x9 xA xB xC xD xE xF xG xJ))) := by kernel_rfl
theorem q165v2 (u : Nat) (x0 : Nat) (x1 : FF) (x2 x3 : Int) (x4 : Nat) (x5 : FF) (x6 : ByteArray) (x7 : Nat) (x8 : FF) (x9 : Nat) (xA : FF) (xB : Nat) (xC : FF) (xD : Nat) (xE : FF) (xF : Nat) (xG : FF) {ρ : Type} (k : Ex → St → Option ρ) : ∀ (m : Nat) (xH : Nat) (xI : Int) (xJ : FF),
  loopH (B165v2 (C101 u) u) N165v2 m (s165v0 x0 x1 x2 xH x3 x4 x5 xI x6 x7 x8 x9 xA xB xC xD xE xF xG xJ) k = L165v2 u x0 x1 x2 x3 x4 x5 x6 x7 x8 x9 xA xB xC xD xE xF xG m xH xI xJ (fun xK xL => k (.exit 2) (s165v1 x0 x1 x2 xK x3 x6 x7 x8 x9 xA xB xC xD xE xF xG xL))
 | 0,_,_,_ => rfl
 | m + 1,xH,xI,xJ => by
  rw [r165v2]
  simp only [L165v2,q165v2 u x0 x1 x2 x3 x4 x5 x6 x7 x8 x9 xA xB xC xD xE xF xG k m]
def B165v3 (C : Oracle) (u : Nat) : St → (Ex → St → Option ρ) → Option ρ := fun st k => evalC C u A10v6 st k
def N165v3 : St → Option St := fun s => s.norm (0 :: 4 :: 5 :: 6 :: (rl 9 42 [])) 2
def s165v2 (x0 : Nat) (x1 : FF) (x2 : Int) (x3 : Nat) (x4 : Int) (x5 : ByteArray) (x6 : Nat) (x7 : FF) (x8 : Nat) (x9 : FF) (xA : Nat) (xB : FF) (xC : Nat) (xD : FF) (xE : Nat) (xF xG : FF) : St := ⟨(.u :: .x (.c (ro kV x0 x1)) :: vxi x2 :: .x (.ptr 0 0) :: (us 3 (.x (.own 1 0 x3) :: vxi x4 :: (us 42 [])))),[.box [(vcs x5),(.c (ro kC x6 x7)),(.c (ro kA x8 x9)),(.c (ro kF xA xB)),(.c (ro kB xC xD)),(.c (ro kD xE xF))],.arr (.pr .str kV) x3 xG]⟩
def s165v3 (x0 : Nat) (x1 : ByteArray) (x2 : Nat) (x3 : FF) (x4 : Nat) (x5 : FF) (x6 : Nat) (x7 : FF) (x8 : Nat) (x9 : FF) (xA : Nat) (xB xC : FF) : St := ⟨(us 7 (.x (.own 1 0 x0) :: (us 43 []))),[.box [(vcs x1),(.c (ro kC x2 x3)),(.c (ro kA x4 x5)),(.c (ro kF x6 x7)),(.c (ro kB x8 x9)),(.c (ro kD xA xB))],.arr (.pr .str kV) x0 xC]⟩
def L165v3 {ρ : Type} (u : Nat) (x0 : Nat) (x1 : FF) (x2 : Int) (x3 : ByteArray) (x4 : Nat) (x5 : FF) (x6 : Nat) (x7 : FF) (x8 : Nat) (x9 : FF) (xA : Nat) (xB : FF) (xC : Nat) (xD : FF) : Nat → Nat → Int → FF → (Nat → FF → Option ρ) → Option ρ
 | 0,_,_,_,_ => none
 | m + 1,xE,xF,xG,k0 =>
  (bif (decide (xF < (Int.ofNat x6))) then (bif (inb xF x6) then (ob (F149 100 (listF (pj kR0 (x7 xF.toNat))) x0 x1 x2) fun xH => (L165v2 u x0 x1 x2 xF xH.1 xH.2 x3 x4 x5 x6 x7 x8 x9 xA xB xC xD u xE 0 xG
  (fun xI xJ => (L165v3 u x0 x1 x2 x3 x4 x5 x6 x7 x8 x9 xA xB xC xD m xI (w64 (xF + 1)) xJ k0)))) else none) else (k0 xE xG))
theorem nl165v3 {ρ σ : Type} (u : Nat) (x0 : Nat) (x1 : FF) (x2 : Int) (x3 : ByteArray) (x4 : Nat) (x5 : FF) (x6 : Nat) (x7 : FF) (x8 : Nat) (x9 : FF) (xA : Nat) (xB : FF) (xC : Nat) (xD : FF) (g : ρ → Option σ) : ∀ (m : Nat) (xE : Nat) (xF : Int) (xG : FF) (k0 : Nat → FF → Option ρ),ob (L165v3 u x0 x1 x2 x3 x4 x5 x6 x7 x8 x9 xA xB xC xD m xE xF xG k0) g = L165v3 u x0 x1 x2 x3 x4 x5 x6 x7 x8 x9 xA xB xC xD m xE xF xG (fun xH xI => ob (k0 xH xI) g)
 | 0,_,_,_,_ => rfl
 | m + 1,xE,xF,xG,k0 => by
  simp only [L165v3,ob_bif,ob_ob,ob_none,nl165v3 u x0 x1 x2 x3 x4 x5 x6 x7 x8 x9 xA xB xC xD g m,nl165v2]
def s165v4 (x0 : Nat) (x1 : FF) (x2 : Int) (x3 : Nat) (x4 : Int) (x5 : Nat × FF) (x6 : Nat) (x7 : FF) (x8 : ByteArray) (x9 : Nat) (xA : FF) (xB : Nat) (xC : FF) (xD : Nat) (xE : FF) (xF : Nat) (xG xH : FF) : St := ⟨(.u :: .x (.c (ro kV x0 x1)) :: vxi x2 :: .x (.ptr 0 0) :: (us 3 (.x (.own 1 0 x3) :: vxi x4 :: .x (.c (ro (.pr .str kV) x5.1 x5.2)) :: vxi 0 :: (us 7 (.x (.ptr 0 2) :: .x (.c (ro kA x6 x7)) :: vxi x4 :: .x (.c (.rp kA (x7 x4.toNat))) :: .agg (pjc kR0 (x7 x4.toNat)) :: .x (.c (ro kV x0 x1)) :: vxi x2 :: .x (.c (ro (.pr .str kV) x5.1 x5.2)) :: (us 25 [])))))),[.box [(vcs x8),(.c (ro kC x9 xA)),(.c (ro kA x6 x7)),(.c (ro kF xB xC)),(.c (ro kB xD xE)),(.c (ro kD xF xG))],.arr (.pr .str kV) x3 xH]⟩
theorem r165v3 (m : Nat) (k : Ex → St → Option ρ) (x0 : Nat) (x1 : FF) (x2 : Int) (x3 : ByteArray) (x4 : Nat) (x5 : FF) (x6 : Nat) (x7 : FF) (x8 : Nat) (x9 : FF) (xA : Nat) (xB : FF) (xC : Nat) (xD : FF) (xE : Nat) (xF : Int) (xG : FF) :
  loopH (B165v3 (C101 u) u) N165v3 (m + 1) (s165v2 x0 x1 x2 xE xF x3 x4 x5 x6 x7 x8 x9 xA xB xC xD xG) k =
  (bif (decide (xF < (Int.ofNat x6))) then (bif (inb xF x6) then (ob (F149 100 (listF (pj kR0 (x7 xF.toNat))) x0 x1 x2) fun xH => (loopN (B165v2 (C101 u) u) N165v2 u (s165v4 x0 x1 x2 xE xF xH x6 x7 x3 x4 x5 x8 x9 xA xB xC xD xG) (kBlk 2 (kBlk 1 (kSeq (C101 u) u (9 :: 10 :: (rl 18 32 [])) A10v4 (kLoop (B165v3 (C101 u) u) N165v3 m k)))))) else none) else (k (.exit 0) (s165v3 xE x3 x4 x5 x6 x7 x8 x9 xA xB xC xD xG))) := by kernel_rfl
theorem t165v1 (k : Ex → St → Option ρ) (x0 : Nat) (x1 : FF) (x2 : Int) (x3 : Nat) (x4 : Int) (x5 : Nat × FF) (x6 : Nat) (x7 : FF) (x8 : ByteArray) (x9 : Nat) (xA : FF) (xB : Nat) (xC : FF) (xD : Nat) (xE : FF) (xF : Nat) (xG xH : FF) :
  loopN (B165v2 (C101 u) u) N165v2 u (s165v4 x0 x1 x2 x3 x4 x5 x6 x7 x8 x9 xA xB xC xD xE xF xG xH) k =
  L165v2 u x0 x1 x2 x4 x5.1 x5.2 x8 x9 xA x6 x7 xB xC xD xE xF xG u x3 0 xH (fun xI xJ => k (.exit 2) (s165v1 x0 x1 x2 xI x4 x8 x9 xA x6 x7 xB xC xD xE xF xG xJ)) :=
 (loopN_at (st' := (s165v0 x0 x1 x2 x3 x4 x5.1 x5.2 0 x8 x9 xA x6 x7 xB xC xD xE xF xG xH)) (by kernel_rfl)).trans (q165v2 u x0 x1 x2 x4 x5.1 x5.2 x8 x9 xA x6 x7 xB xC xD xE xF xG k u x3 0 xH)
theorem g165v2 (m : Nat) (k : Ex → St → Option ρ) (x0 : Nat) (x1 : FF) (x2 : Int) (x3 : Nat) (x4 : Int) (x5 : ByteArray) (x6 : Nat) (x7 : FF) (x8 : Nat) (x9 : FF) (xA : Nat) (xB : FF) (xC : Nat) (xD : FF) (xE : Nat) (xF xG : FF) :
  (kBlk 2 (kBlk 1 (kSeq (C101 u) u (9 :: 10 :: (rl 18 32 [])) A10v4 (kLoop (B165v3 (C101 u) u) N165v3 m k)))) (.exit 2) (s165v1 x0 x1 x2 x3 x4 x5 x6 x7 x8 x9 xA xB xC xD xE xF xG) =
  (loopH (B165v3 (C101 u) u) N165v3 m (s165v2 x0 x1 x2 x3 (w64 (x4 + 1)) x5 x6 x7 x8 x9 xA xB xC xD xE xF xG) k) := by kernel_rfl
theorem q165v3 (u : Nat) (x0 : Nat) (x1 : FF) (x2 : Int) (x3 : ByteArray) (x4 : Nat) (x5 : FF) (x6 : Nat) (x7 : FF) (x8 : Nat) (x9 : FF) (xA : Nat) (xB : FF) (xC : Nat) (xD : FF) {ρ : Type} (k : Ex → St → Option ρ) : ∀ (m : Nat) (xE : Nat) (xF : Int) (xG : FF),
  loopH (B165v3 (C101 u) u) N165v3 m (s165v2 x0 x1 x2 xE xF x3 x4 x5 x6 x7 x8 x9 xA xB xC xD xG) k = L165v3 u x0 x1 x2 x3 x4 x5 x6 x7 x8 x9 xA xB xC xD m xE xF xG (fun xH xI => k (.exit 0) (s165v3 xH x3 x4 x5 x6 x7 x8 x9 xA xB xC xD xI))
 | 0,_,_,_ => rfl
 | m + 1,xE,xF,xG => by
  rw [r165v3]
  simp only [L165v3,q165v3 u x0 x1 x2 x3 x4 x5 x6 x7 x8 x9 xA xB xC xD k m,t165v1,g165v2]
def D165 (x0 : ByteArray) (x1 : Nat) (x2 : FF) (x3 : Nat) (x4 : FF) (x5 : Nat) (x6 : FF) (x7 : Nat) (x8 : FF) (x9 : Nat) (xA : FF) (xB : Nat) (xC : FF) (xD : Int) (k : (Nat × FF) → Option ρ) : Option ρ :=
 (L165v3 u xB xC xD x0 x1 x2 x3 x4 x5 x6 x7 x8 x9 xA u 0 0 (fun _ _ => .any)
  (fun xE xF => (k (xE,xF))))
def F165 (x0 : ByteArray) (x1 : Nat) (x2 : FF) (x3 : Nat) (x4 : FF) (x5 : Nat) (x6 : FF) (x7 : Nat) (x8 : FF) (x9 : Nat) (xA : FF) (xB : Nat) (xC : FF) (xD : Int) : Option (Nat × FF) := D165 u x0 x1 x2 x3 x4 x5 x6 x7 x8 x9 xA xB xC xD some
theorem f165 (x0 : ByteArray) (x1 : Nat) (x2 : FF) (x3 : Nat) (x4 : FF) (x5 : Nat) (x6 : FF) (x7 : Nat) (x8 : FF) (x9 : Nat) (xA : FF) (xB : Nat) (xC : FF) (xD : Int) (k : (Nat × FF) → Option ρ) : D165 u x0 x1 x2 x3 x4 x5 x6 x7 x8 x9 xA xB xC xD k = ob (F165 u x0 x1 x2 x3 x4 x5 x6 x7 x8 x9 xA xB xC xD) k := by
 simp only [F165,D165,ob_bif,ob_ob,ob_none,ob_some,nl165v3]
def s165v5 (x0 : ByteArray) (x1 : Nat) (x2 : FF) (x3 : Nat) (x4 : FF) (x5 : Nat) (x6 : FF) (x7 : Nat) (x8 : FF) (x9 : Nat) (xA : FF) (xB : Nat) (xC : FF) (xD : Int) : St := ⟨[.agg [(vcs x0),(.c (ro kC x1 x2)),(.c (ro kA x3 x4)),(.c (ro kF x5 x6)),(.c (ro kB x7 x8)),(.c (ro kD x9 xA))],.x (.c (ro kV xB xC)),vxi xD,.x (.ptr 0 0),uu,uu,.x (vcn),.x (.own 1 0 0),vxi 0,uu,uu,uu,uu,uu,uu,uu,uu,uu,uu,uu,uu,uu,uu,uu,uu,uu,uu,uu,uu,uu,uu,uu,uu,uu,uu,uu,uu,uu,uu,uu,uu,uu,uu,uu,uu,uu,uu,uu,uu,uu,uu],[.box [(vcs x0),(.c (ro kC x1 x2)),(.c (ro kA x3 x4)),(.c (ro kF x5 x6)),(.c (ro kB x7 x8)),(.c (ro kD x9 xA))],.arr (.pr .str kV) 0 nilF]⟩
theorem t165v3 (k : Ex → St → Option ρ) (x0 : ByteArray) (x1 : Nat) (x2 : FF) (x3 : Nat) (x4 : FF) (x5 : Nat) (x6 : FF) (x7 : Nat) (x8 : FF) (x9 : Nat) (xA : FF) (xB : Nat) (xC : FF) (xD : Int) :
  loopN (B165v3 (C101 u) u) N165v3 u (s165v5 x0 x1 x2 x3 x4 x5 x6 x7 x8 x9 xA xB xC xD) k =
  L165v3 u xB xC xD x0 x1 x2 x3 x4 x5 x6 x7 x8 x9 xA u 0 0 nilF (fun xE xF => k (.exit 0) (s165v3 xE x0 x1 x2 x3 x4 x5 x6 x7 x8 x9 xA xF)) :=
 (loopN_at (st' := (s165v2 xB xC xD 0 0 x0 x1 x2 x3 x4 x5 x6 x7 x8 x9 xA nilF)) (by kernel_rfl)).trans (q165v3 u xB xC xD x0 x1 x2 x3 x4 x5 x6 x7 x8 x9 xA k u 0 0 nilF)
theorem g165v4 (x0 : Nat) (x1 : ByteArray) (x2 : Nat) (x3 : FF) (x4 : Nat) (x5 : FF) (x6 : Nat) (x7 : FF) (x8 : Nat) (x9 : FF) (xA : Nat) (xB xC : FF) :
  (kBlk 0 (kSeq (C101 u) u (rl 8 42 []) A10v7 (finish A10))) (.exit 0) (s165v3 x0 x1 x2 x3 x4 x5 x6 x7 x8 x9 xA xB xC) =
  (some [.v (ro (.pr .str kV) x0 xC)]) := by kernel_rfl
theorem e165 (x0 : ByteArray) (x1 : Nat) (x2 : FF) (x3 : Nat) (x4 : FF) (x5 : Nat) (x6 : FF) (x7 : Nat) (x8 : FF) (x9 : Nat) (xA : FF) (xB : Nat) (xC : FF) (xD : Int) : evalF (C101 u) u A10 [.agg [(.s x0),(ro kC x1 x2),(ro kA x3 x4),(ro kF x5 x6),(ro kB x7 x8),(ro kD x9 xA)],.v (ro kV xB xC),.v (vi xD)] = ob (F165 u x0 x1 x2 x3 x4 x5 x6 x7 x8 x9 xA xB xC xD) fun t => some [.v (ro (.pr .str kV) t.1 t.2)] := Eq.trans (b := (loopN (B165v3 (C101 u) u) N165v3 u (s165v5 x0 x1 x2 x3 x4 x5 x6 x7 x8 x9 xA xB xC xD) (kBlk 0 (kSeq (C101 u) u (rl 8 42 []) A10v7 (finish A10))))) (by kernel_rfl) (by
 rw [← f165]
 simp only [D165,t165v3,g165v4])
def O165 : Ora where
 o := fun args {ρ} K =>
  wc args fun a1 l2 =>
  wagg a1 fun l3 =>
  wdS l3 fun y7 l5 =>
  wdL kC l5 fun y11 y12 l9 =>
  wdL kA l9 fun y16 y17 l14 =>
  wdL kF l14 fun y21 y22 l19 =>
  wdL kB l19 fun y26 y27 l24 =>
  wdL kD l24 fun y31 y32 l29 =>
  wn l29 <|
  wcL kV l2 fun y36 y37 l34 =>
  wcI .i64 l34 fun y41 l39 =>
  wn l39 <|
  (ob (F165 u y7 y11 y12 y16 y17 y21 y22 y26 y27 y31 y32 y36 y37 y41) fun t => K [.v (ro (.pr .str kV) t.1 t.2)])
 nat := fun args {ρ} K => by
  simp only [bind_wagg,bind_wc,bind_wcI,bind_wcL,bind_wdL,bind_wdS,bind_wn,bind_ob,Option.bind_some]
theorem d165 : DO (O165 u) (C101 u) 10 A10 := by
 intro P hmix hC hF args res h
 obtain ⟨a1,l2,rfl,z0⟩ := inv_wc h
 obtain ⟨l3,rfl,z1⟩ := inv_wagg z0
 obtain ⟨a4,y7,l5,rfl,h6,z2⟩ := inv_wdS z1
 obtain ⟨a8,y11,y12,l9,rfl,h10,z3⟩ := inv_wdL z2
 obtain ⟨a13,y16,y17,l14,rfl,h15,z4⟩ := inv_wdL z3
 obtain ⟨a18,y21,y22,l19,rfl,h20,z5⟩ := inv_wdL z4
 obtain ⟨a23,y26,y27,l24,rfl,h25,z6⟩ := inv_wdL z5
 obtain ⟨a28,y31,y32,l29,rfl,h30,z7⟩ := inv_wdL z6
 obtain ⟨hn,z8⟩ := inv_wn z7
 cases hn
 obtain ⟨a33,y36,y37,l34,rfl,h35,z9⟩ := inv_wcL z8
 obtain ⟨a38,y41,l39,rfl,h40,z10⟩ := inv_wcI z9
 obtain ⟨hn,z11⟩ := inv_wn z10
 cases hn
 exact Den.weaken (.cons (WkA.agg (.cons h6 (.cons h10 (.cons h15 (.cons h20 (.cons h25 (.cons h30 .nil))))))) (.cons h35 (.cons h40 .nil))) (evalF_sound hmix hC hF ((e165 u y7 y11 y12 y16 y17 y21 y22 y26 y27 y31 y32 y36 y37 y41).trans z11))
def C102 : Oracle := (C101 u).add 10 (fun _ => true) (O165 100)
def A3v1 : AC := (.seq (.region 3 [o1 16 (ln 28 6 3),mv 17 1,mv 18 2,o1 19 (cf 7 [16,17,18] [28,29,3]),o1 20 (ln 28 6 3),mv 21 1,mv 22 2,o1 23 (cf 8 [20,21,22] [28,29,3]),o1 24 (cs 6 [19,23] [33,33]),mv 25 24,og 26 (ln 28 6 3) 25 true,og 27 (.move (tm 1)) 25 true,og 28 (.move (tm 2)) 25 true,og 29 (cf 9 [26,27,28] [28,29,3]) 25 true,og 30 (ln 28 6 3) 25 true,og 31 (.move (tm 1)) 25 true,og 32 (.move (tm 2)) 25 true,og 33 (cf 10 [30,31,32] [28,29,3]) 25 true,og 34 (cs 6 [29,33] [33,33]) 25 true,o1 35 (po 25 34),mv 36 35,og 37 (cs 5 [] []) 36 true,o1 38 (po 36 37),o1 6 (sg 38)] 0 (some [[],[],[],[0,1,2],[],[],[],(rl 0 7 []),(rl 0 8 []),(rl 0 9 []),(rl 0 10 []),(rl 0 10 []),(rl 0 10 []),(rl 0 13 []),(rl 0 10 []),(rl 0 10 []),(rl 0 10 []),(rl 0 17 []),(rl 0 18 []),(rl 0 19 []),(rl 0 20 []),(rl 0 21 []),(rl 0 22 []),(rl 0 23 [])])) []
 (.ret (rl 0 6 (rl 7 32 []))))
def A3 : AF := ⟨39,[.tmp 6],
 (.seq (.region 0 [o1 3 (bx 0 28 0),o1 6 (sb false)] 1 none) []
 (.seq (.seq (.region 1 [o1 7 (ln 28 6 3),o1 8 (cs 4 [7] [28]),o1 9 (.unOp .not 4 (tm 8)),mv 10 9,og 11 (.move (tm 1)) 10 false,og 12 (.len 29 false (tm 11)) 10 false,og 13 (bk .gtr 3 12 40) 10 false,o1 14 (pa 10 13)] 0 none) []
 (.cond (tm 14)
 (.seq (.region 2 [o1 15 (cs 5 [] []),o1 6 (sg 15)] 0 none) []
  (.ret (rl 0 6 (rl 7 32 []))))
 .skip)) (rl 6 10 [])
 A3v1))⟩
def D166 (x0 : ByteArray) (x1 : Nat) (x2 : FF) (x3 : Nat) (x4 : FF) (x5 : Nat) (x6 : FF) (x7 : Nat) (x8 : FF) (x9 : Nat) (xA : FF) (xB : Nat) (xC : FF) (xD : Int) (k : Bool → Option ρ) : Option ρ :=
 (ob (F163 100 x0 x1 x2 x3 x4 x5 x6 x7 x8 x9 xA) fun xE => (bif ((!xE) == false) then (bif (decide ((Int.ofNat xB) > 40)) then (ob (F132 100) fun xF => (k xF)) else (ob (F122 100 x0 x1 x2 x3 x4 x5 x6 x7 x8 x9 xA xB xC xD) fun xG => (ob (F164 100 x0 x1 x2 x3 x4 x5 x6 x7 x8 x9 xA xB xC xD) fun xH => (ob (F131 u xG.1 xG.2 xH.1 xH.2) fun xI => (bif (xI == true) then (ob (F130 100 x0 x1 x2 x3 x4 x5 x6 x7 x8 x9 xA xB xC xD) fun xJ => (ob (F165 100 x0 x1 x2 x3 x4 x5 x6 x7 x8 x9 xA xB xC xD) fun xK => (ob (F131 u xJ.1 xJ.2 xK.1 xK.2) fun xL => (bif (xL == true) then (ob (F132 100) fun xM => (k xM)) else (k false))))) else (k false)))))) else (ob (F132 100) fun xN => (k xN))))
def F166 (x0 : ByteArray) (x1 : Nat) (x2 : FF) (x3 : Nat) (x4 : FF) (x5 : Nat) (x6 : FF) (x7 : Nat) (x8 : FF) (x9 : Nat) (xA : FF) (xB : Nat) (xC : FF) (xD : Int) : Option (Bool) := D166 u x0 x1 x2 x3 x4 x5 x6 x7 x8 x9 xA xB xC xD some
theorem f166 (x0 : ByteArray) (x1 : Nat) (x2 : FF) (x3 : Nat) (x4 : FF) (x5 : Nat) (x6 : FF) (x7 : Nat) (x8 : FF) (x9 : Nat) (xA : FF) (xB : Nat) (xC : FF) (xD : Int) (k : (Bool) → Option ρ) : D166 u x0 x1 x2 x3 x4 x5 x6 x7 x8 x9 xA xB xC xD k = ob (F166 u x0 x1 x2 x3 x4 x5 x6 x7 x8 x9 xA xB xC xD) k := by
 simp only [F166,D166,ob_bif,ob_ob,ob_none,ob_some]
theorem e166 (x0 : ByteArray) (x1 : Nat) (x2 : FF) (x3 : Nat) (x4 : FF) (x5 : Nat) (x6 : FF) (x7 : Nat) (x8 : FF) (x9 : Nat) (xA : FF) (xB : Nat) (xC : FF) (xD : Int) : evalF (C102 u) u A3 [.agg [(.s x0),(ro kC x1 x2),(ro kA x3 x4),(ro kF x5 x6),(ro kB x7 x8),(ro kD x9 xA)],.v (ro kV xB xC),.v (vi xD)] = ob (F166 u x0 x1 x2 x3 x4 x5 x6 x7 x8 x9 xA xB xC xD) fun t => some [.v (.b t)] := Eq.trans (b := (ob (F163 100 x0 x1 x2 x3 x4 x5 x6 x7 x8 x9 xA) fun xE => (bif ((!xE) == false) then (bif (decide ((Int.ofNat xB) > 40)) then (ob (F132 100) fun xF => (some [.v (.b xF)])) else (ob (F122 100 x0 x1 x2 x3 x4 x5 x6 x7 x8 x9 xA xB xC xD) fun xG => (ob (F164 100 x0 x1 x2 x3 x4 x5 x6 x7 x8 x9 xA xB xC xD) fun xH => (ob (F131 u xG.1 xG.2 xH.1 xH.2) fun xI => (bif (xI == true) then (ob (F130 100 x0 x1 x2 x3 x4 x5 x6 x7 x8 x9 xA xB xC xD) fun xJ => (ob (F165 100 x0 x1 x2 x3 x4 x5 x6 x7 x8 x9 xA xB xC xD) fun xK => (ob (F131 u xJ.1 xJ.2 xK.1 xK.2) fun xL => (bif (xL == true) then (ob (F132 100) fun xM => (some [.v (.b xM)])) else (some [.v (.b false)]))))) else (some [.v (.b false)])))))) else (ob (F132 100) fun xN => (some [.v (.b xN)]))))) (by kernel_rfl) (by
 rw [← f166]
 simp only [D166])
def O166 : Ora where
 o := fun args {ρ} K =>
  wc args fun a1 l2 =>
  wagg a1 fun l3 =>
  wdS l3 fun y7 l5 =>
  wdL kC l5 fun y11 y12 l9 =>
  wdL kA l9 fun y16 y17 l14 =>
  wdL kF l14 fun y21 y22 l19 =>
  wdL kB l19 fun y26 y27 l24 =>
  wdL kD l24 fun y31 y32 l29 =>
  wn l29 <|
  wcL kV l2 fun y36 y37 l34 =>
  wcI .i64 l34 fun y41 l39 =>
  wn l39 <|
  (ob (F166 u y7 y11 y12 y16 y17 y21 y22 y26 y27 y31 y32 y36 y37 y41) fun t => K [.v (.b t)])
 nat := fun args {ρ} K => by
  simp only [bind_wagg,bind_wc,bind_wcI,bind_wcL,bind_wdL,bind_wdS,bind_wn,bind_ob,Option.bind_some]
theorem d166 : DO (O166 u) (C102 u) 3 A3 := by
 intro P hmix hC hF args res h
 obtain ⟨a1,l2,rfl,z0⟩ := inv_wc h
 obtain ⟨l3,rfl,z1⟩ := inv_wagg z0
 obtain ⟨a4,y7,l5,rfl,h6,z2⟩ := inv_wdS z1
 obtain ⟨a8,y11,y12,l9,rfl,h10,z3⟩ := inv_wdL z2
 obtain ⟨a13,y16,y17,l14,rfl,h15,z4⟩ := inv_wdL z3
 obtain ⟨a18,y21,y22,l19,rfl,h20,z5⟩ := inv_wdL z4
 obtain ⟨a23,y26,y27,l24,rfl,h25,z6⟩ := inv_wdL z5
 obtain ⟨a28,y31,y32,l29,rfl,h30,z7⟩ := inv_wdL z6
 obtain ⟨hn,z8⟩ := inv_wn z7
 cases hn
 obtain ⟨a33,y36,y37,l34,rfl,h35,z9⟩ := inv_wcL z8
 obtain ⟨a38,y41,l39,rfl,h40,z10⟩ := inv_wcI z9
 obtain ⟨hn,z11⟩ := inv_wn z10
 cases hn
 exact Den.weaken (.cons (WkA.agg (.cons h6 (.cons h10 (.cons h15 (.cons h20 (.cons h25 (.cons h30 .nil))))))) (.cons h35 (.cons h40 .nil))) (evalF_sound hmix hC hF ((e166 u y7 y11 y12 y16 y17 y21 y22 y26 y27 y31 y32 y36 y37 y41).trans z11))
end Go.Eng.R13
