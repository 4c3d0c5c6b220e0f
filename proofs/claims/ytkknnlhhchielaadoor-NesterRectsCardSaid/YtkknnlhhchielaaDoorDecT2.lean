/-
 The functions of the program,run on symbols; printed by decomp.py.
-/
import Derived.Test.YtkknnlhhchielaaDoorDecT1
set_option linter.all false
set_option maxRecDepth 1000000
set_option maxHeartbeats 4000000
namespace Go.Eng.R13
open Go Go.RowKit Go.Eng
variable {ρ σ : Type} (u m : Nat) (k : Ex → St → Option ρ) (ng : ρ → Option σ) (n0 n1 n2 n3 n4 n5 : Nat) (f0 f1 f2 f3 f4 f5 : FF) (i0 i1 i2 i3 i4 i5 i6 i7 i8 i9 iA iB iC iD iE iF iG iH iI iJ iK iL : Int) (b0 : Bool) (w0 w1 w2 w3 w4 w5 w6 : ByteArray) (g0 g1 : Nat → CV)
def A10v1 : AC := (.seq (.region 12 [o1 102 (fa 34 10 0 0),o1 103 (lo 3 102),o1 104 (fa 65 17 1 2),o1 105 (fa 34 104 0 0),o1 106 (lo 3 105),mv 107 15,o1 108 (bt .add 3 106 107),o1 109 (bt .lss 3 103 108),mv 110 109,og 111 (fa 34 10 0 0) 110 true,og 112 (lo 3 111) 110 true,og 113 (.move (tm 4)) 110 true,og 114 (bt .add 3 112 113) 110 true,og 115 (.move (tm 15)) 110 true,og 116 (bt .add 3 114 115) 110 true,og 117 (fa 65 17 0 0) 110 true,og 118 (fa 34 117 0 0) 110 true,og 119 (lo 3 118) 110 true,og 120 (bt .gtr 3 116 119) 110 true,o1 121 (po 110 120),mv 122 121,og 123 (fa 34 10 1 1) 122 true,og 124 (lo 3 123) 122 true,og 125 (fa 65 17 1 2) 122 true,og 126 (fa 34 125 1 1) 122 true,og 127 (lo 3 126) 122 true,og 128 (.move (tm 15)) 122 true,og 129 (bt .add 3 127 128) 122 true,og 130 (bt .lss 3 124 129) 122 true,o1 131 (po 122 130),mv 132 131,og 133 (fa 34 10 1 1) 132 true,og 134 (lo 3 133) 132 true,og 135 (.move (tm 5)) 132 true,og 136 (bt .add 3 134 135) 132 true,og 137 (.move (tm 15)) 132 true,og 138 (bt .add 3 136 137) 132 true,og 139 (fa 65 17 0 0) 132 true,og 140 (fa 34 139 1 1) 132 true,og 141 (lo 3 140) 132 true,og 142 (bt .gtr 3 138 141) 132 true,o1 143 (po 132 142)] 0 none) []
 (.cond (tm 143)
 (.seq (.region 13 [o1 14 (sb false)] 0 none) []
  (.ghost [0,1] (.ret (rl 0 14 (rl 15 129 [])))))
 .skip))
def A10v2 : AC := (.region 8 [mv 86 16,o1 87 (bk .add 3 86 1),o1 16 (sg 87)] 0 none)
def A10v3 : AC := (.seq (.block 1
 (.seq (.region 9 [mv 88 2,mv 89 16,o1 90 (.indexAddr 32 65 4 (tm 88) (tm 89)),o1 91 (ln 65 4 90),o1 17 (.alloc 0 65 [vci 0,vci 0,vci 0,vci 0]),o0 (.store 65 4 (tm 17) (tm 91))] 1 none) []
  (.seq (.seq (.region 10 [o1 92 (fa 65 17 0 0),o1 93 (ln 34 2 92),o1 94 (.call 21 [(tm 93),(ic 1099511627776)] [34,3] .snap),o1 95 (.unOp .not 4 (tm 94)),mv 96 95,og 97 (fa 65 17 1 2) 96 false,og 98 (ln 34 2 97) 96 false,og 99 (.call 21 [(tm 98),(ic 1099511627776)] [34,3] .snap) 96 false,og 100 (.unOp .not 4 (tm 99)) 96 false,o1 101 (pa 96 100)] 0 none) []
  (.cond (tm 101)
  (.seq (.region 11 [o1 14 (sb false)] 0 none) []
   (.ghost [0,1] (.ret (rl 0 14 (rl 15 129 [])))))
  .skip)) (14 :: (rl 92 10 []))
  A10v1))) (14 :: 17 :: (rl 88 56 []))
 A10v2)
def A10v4 : AC := (.seq (.seq (.region 7 [mv 82 16,mv 83 2,o1 84 (.len 32 false (tm 83)),o1 85 (bt .lss 3 82 84)] 0 none) []
 (.cond (tm 85)
 .skip
 (.ghost [0] (.exit 0 (rl 0 144 []))))) (rl 82 4 [])
 A10v3)
def A10v5 : AC := (.seq (.region 14 [o1 14 (sb true)] 0 none) []
 (.ghost [0] (.ret (rl 0 14 (rl 15 129 [])))))
def A10v6 : AC := (.seq (.region 5 [mv 80 6,o1 81 (.mm true [(tm 80),(ic 1)] [3,3]),o1 15 (sg 81)] 0 none) []
 (.seq (.seq (.region 6 [o1 16 (sk 0)] 0 none) []
 (.block 0
 (.loop [] (0 :: 1 :: 3 :: (rl 6 4 (rl 11 4 (rl 17 127 []))))
  A10v4))) (14 :: 16 :: 17 :: (rl 82 62 []))
 A10v5))
def A10v7 : AC := (.seq (.seq (.region 3 [o1 50 (fa 34 10 0 0),o1 51 (lo 3 50),mv 52 6,o1 53 (bt .lss 3 51 52),mv 54 53,og 55 (fa 34 10 1 1) 54 false,og 56 (lo 3 55) 54 false,og 57 (.move (tm 6)) 54 false,og 58 (bt .lss 3 56 57) 54 false,o1 59 (pa 54 58),mv 60 59,og 61 (fa 34 10 0 0) 60 false,og 62 (lo 3 61) 60 false,og 63 (.move (tm 4)) 60 false,og 64 (bt .add 3 62 63) 60 false,og 65 (.move (tm 0)) 60 false,og 66 (.move (tm 6)) 60 false,og 67 (bt .sub 3 65 66) 60 false,og 68 (bt .gtr 3 64 67) 60 false,o1 69 (pa 60 68),mv 70 69,og 71 (fa 34 10 1 1) 70 false,og 72 (lo 3 71) 70 false,og 73 (.move (tm 5)) 70 false,og 74 (bt .add 3 72 73) 70 false,og 75 (.move (tm 1)) 70 false,og 76 (.move (tm 6)) 70 false,og 77 (bt .sub 3 75 76) 70 false,og 78 (bt .gtr 3 74 77) 70 false,o1 79 (pa 70 78)] 0 none) []
 (.cond (tm 79)
 (.seq (.region 4 [o1 14 (sb false)] 0 none) []
  (.ghost [0] (.ret (rl 0 14 (rl 15 129 [])))))
 .skip)) (14 :: (rl 50 30 []))
 A10v6)
def A10 : AF := ⟨144,[.tmp 14],
 (.seq (.region 0 [o1 10 (bx 0 34 3),o1 14 (sb false)] 1 none) []
 (.seq (.seq (.region 1 [mv 18 0,mv 19 1,mv 20 6,o1 21 (.mm false [(tm 18),(tm 19),(tm 20)] [3,3,3]),o1 22 (bk .lss 3 21 0),mv 23 22,og 24 (.move (tm 0)) 23 false,og 25 (.move (tm 1)) 23 false,og 26 (.mm true [(tm 24),(tm 25)] [3,3]) 23 false,og 27 (bk .gtr 3 26 32768) 23 false,o1 28 (pa 23 27),mv 29 28,og 30 (.move (tm 6)) 29 false,og 31 (bk .gtr 3 30 500) 29 false,o1 32 (pa 29 31),mv 33 32,og 34 (.move (tm 4)) 33 false,og 35 (.move (tm 5)) 33 false,og 36 (.mm false [(tm 34),(tm 35)] [3,3]) 33 false,og 37 (bk .lss 3 36 1) 33 false,o1 38 (pa 33 37),mv 39 38,og 40 (.move (tm 4)) 39 false,og 41 (.move (tm 5)) 39 false,og 42 (.mm true [(tm 40),(tm 41)] [3,3]) 39 false,og 43 (bk .gtr 3 42 32768) 39 false,o1 44 (pa 39 43),mv 45 44,og 46 (ln 34 2 10) 45 false,og 47 (.call 21 [(tm 46),(ic 32768)] [34,3] .snap) 45 false,og 48 (.unOp .not 4 (tm 47)) 45 false,o1 49 (pa 45 48)] 0 none) []
 (.cond (tm 49)
 (.seq (.region 2 [o1 14 (sb false)] 0 none) []
  (.ghost [0] (.ret (rl 0 14 (rl 15 129 [])))))
 .skip)) (14 :: (rl 18 32 []))
 A10v7))⟩
def N406v1 : St → Option St := nN 1 (0 :: 1 :: 3 :: (rl 6 4 (rl 11 4 (rl 17 127 []))))
def s406v0 : St := ⟨(.u :: .u :: .x (.c (ro kE n0 f0)) :: .u :: vxi i0 :: vxi i1 :: (us 4 (.x (.ptr 0 0) :: (us 4 (vxi i2 :: vxi i3 :: (us 127 [])))))),[.box [(vci i4),(vci i5)]]⟩
def s406v1 : St := ⟨(us 14 (vxb false :: (us 129 []))),[.dead,.dead]⟩
def s406v2 : St := ⟨(us 144 []),[.dead]⟩
def L406v1 {ρ : Type} (u : Nat) (x0 : Nat) (x1 : FF) (x2 x3 x4 x5 x6 : Int) : Nat → Int → (Option ρ) → (Option ρ) → Option ρ
 | 0,_,_,_ => none
 | m + 1,x7,k0,k1 =>
  (bif (decide (x7 < (Int.ofNat x0))) then (bif (inb x7 x0) then (ob (F404 u (x1 x7.toNat 0).int (x1 x7.toNat 1).int 1099511627776) fun x8 => (bif ((!x8) == false) then (ob (F404 u (x1 x7.toNat 2).int (x1 x7.toNat 3).int 1099511627776) fun x9 => (bif (!x9) then k0 else (bif ((decide (x5 < (w64 ((x1 x7.toNat 2).int + x4)))) == true) then (bif ((decide ((w64 ((w64 (x5 + x2)) + x4)) > (x1 x7.toNat 0).int)) == true) then (bif ((decide (x6 < (w64 ((x1 x7.toNat 3).int + x4)))) == true) then (bif (decide ((w64 ((w64 (x6 + x3)) + x4)) > (x1 x7.toNat 1).int)) then k0 else (L406v1 u x0 x1 x2 x3 x4 x5 x6 m (w64 (x7 + 1)) k0 k1)) else (L406v1 u x0 x1 x2 x3 x4 x5 x6 m (w64 (x7 + 1)) k0 k1)) else (L406v1 u x0 x1 x2 x3 x4 x5 x6 m (w64 (x7 + 1)) k0 k1)) else (L406v1 u x0 x1 x2 x3 x4 x5 x6 m (w64 (x7 + 1)) k0 k1)))) else k0)) else none) else k1)
theorem nl406v1 : ∀ (m : Nat) (x0 : Int) (k0 : Option ρ) (k1 : Option ρ),ob (L406v1 u n0 f0 i0 i1 i2 i3 i4 m x0 k0 k1) ng = L406v1 u n0 f0 i0 i1 i2 i3 i4 m x0 (ob k0 ng) (ob k1 ng)
 | 0,_,_,_ => rfl
 | m + 1,x0,k0,k1 => by
  simp only [L406v1,ob_bif,ob_ob,ob_none,nl406v1 m]
theorem q406v1 : ∀ (m : Nat) (x0 : Int),
  loopH (eB A10v4 (C61 u) u) N406v1 m (s406v0 n0 f0 i0 i1 i2 x0 i3 i4) k = L406v1 u n0 f0 i0 i1 i2 i3 i4 m x0 (k .ret s406v1) (k (.exit 0) s406v2)
 | 0,_ => rfl
 | m + 1,x0 => by
  simp only [L406v1,← q406v1 m]
  kernel_rfl
def F406 (x0 x1 : Int) (x2 : Nat) (x3 : FF) (x4 x5 x6 x7 x8 : Int) : Option (Bool) :=
 (bif ((decide ((if x8 < (if x1 < x0 then x1 else x0) then x8 else (if x1 < x0 then x1 else x0)) < 0)) == false) then (bif ((decide ((if x1 > x0 then x1 else x0) > 32768)) == false) then (bif ((decide (x8 > 500)) == false) then (bif ((decide ((if x7 < x6 then x7 else x6) < 1)) == false) then (bif ((decide ((if x7 > x6 then x7 else x6) > 32768)) == false) then (ob (F404 u x4 x5 32768) fun x9 => (bif (!x9) then (some false) else (bif ((decide (x4 < x8)) == false) then (bif ((decide (x5 < x8)) == false) then (bif ((decide ((w64 (x4 + x6)) > (w64 (x0 - x8)))) == false) then (bif (decide ((w64 (x5 + x7)) > (w64 (x1 - x8)))) then (some false) else (L406v1 u x2 x3 x6 x7 (if 1 > x8 then 1 else x8) x4 x5 u 0
  (some false)
  (some true))) else (some false)) else (some false)) else (some false)))) else (some false)) else (some false)) else (some false)) else (some false)) else (some false))
def s406v3 : St := ⟨(vxi i0 :: vxi i1 :: .x (.c (ro kE n0 f0)) :: .agg [(vci i2),(vci i3)] :: vxi i4 :: vxi i5 :: vxi i6 :: uu :: uu :: uu :: .x (.ptr 0 0) :: uu :: uu :: uu :: .u :: vxi (if 1 > i6 then 1 else i6) :: vxi 0 :: uu :: (us 62 [vxi i6,vxi (if 1 > i6 then 1 else i6),uu,uu,uu,uu,uu,uu,uu,uu,uu,uu,uu,uu,uu,uu,uu,uu,uu,uu,uu,uu,uu,uu,uu,uu,uu,uu,uu,uu,uu,uu,uu,uu,uu,uu,uu,uu,uu,uu,uu,uu,uu,uu,uu,uu,uu,uu,uu,uu,uu,uu,uu,uu,uu,uu,uu,uu,uu,uu,uu,uu,uu,uu])),[.box [(vci i2),(vci i3)]]⟩
theorem t406v1 :
  loopN (eB A10v4 (C61 u) u) N406v1 u (s406v3 n0 f0 i0 i1 i2 i3 i4 i5 i6) k =
  L406v1 u n0 f0 i4 i5 (if 1 > i6 then 1 else i6) i2 i3 u 0 (k .ret s406v1) (k (.exit 0) s406v2) :=
 Eq.trans (loopN_at (by kernel_rfl)) (q406v1 ..)
theorem g406v2 :
  (kBlk 0 (kSeq (C61 u) u (14 :: 16 :: 17 :: (rl 82 62 [])) A10v5 (finish A10))) .ret s406v1 =
  (some [.v (.b false)]) := by kernel_rfl
theorem g406v3 :
  (kBlk 0 (kSeq (C61 u) u (14 :: 16 :: 17 :: (rl 82 62 [])) A10v5 (finish A10))) (.exit 0) s406v2 =
  (some [.v (.b true)]) := by kernel_rfl
theorem e406 : evalF (C61 u) u A10 [.v (vi i0),.v (vi i1),.v (ro kE n0 f0),.agg [(vi i2),(vi i3)],.v (vi i4),.v (vi i5),.v (vi i6)] = ob (F406 u i0 i1 n0 f0 i2 i3 i4 i5 i6) fun t => some [.v (.b t)] := Eq.trans (b := (bif ((decide ((if i6 < (if i1 < i0 then i1 else i0) then i6 else (if i1 < i0 then i1 else i0)) < 0)) == false) then (bif ((decide ((if i1 > i0 then i1 else i0) > 32768)) == false) then (bif ((decide (i6 > 500)) == false) then (bif ((decide ((if i5 < i4 then i5 else i4) < 1)) == false) then (bif ((decide ((if i5 > i4 then i5 else i4) > 32768)) == false) then (ob (F404 u i2 i3 32768) fun x0 => (bif (!x0) then (some [.v (.b false)]) else (bif ((decide (i2 < i6)) == false) then (bif ((decide (i3 < i6)) == false) then (bif ((decide ((w64 (i2 + i4)) > (w64 (i0 - i6)))) == false) then (bif (decide ((w64 (i3 + i5)) > (w64 (i1 - i6)))) then (some [.v (.b false)]) else (loopN (eB A10v4 (C61 u) u) N406v1 u (s406v3 n0 f0 i0 i1 i2 i3 i4 i5 i6) (kBlk 0 (kSeq (C61 u) u (14 :: 16 :: 17 :: (rl 82 62 [])) A10v5 (finish A10))))) else (some [.v (.b false)])) else (some [.v (.b false)])) else (some [.v (.b false)])))) else (some [.v (.b false)])) else (some [.v (.b false)])) else (some [.v (.b false)])) else (some [.v (.b false)])) else (some [.v (.b false)]))) (by kernel_rfl) (by
 simp only [F406,ob_bif,ob_ob,ob_none,ob_some,nl406v1,t406v1,g406v2,g406v3])
def O406 : Ora := mkO (qc (av ci) (qc (av ci) (qc (av (cL kE)) (qc (ag (tc ci (t1 ci))) (qc (av ci) (qc (av ci) (q1 (av ci)))))))) (fun x => F406 u x.1 x.2.1 x.2.2.1.1 x.2.2.1.2 x.2.2.2.1.1 x.2.2.2.1.2 x.2.2.2.2.1 x.2.2.2.2.2.1 x.2.2.2.2.2.2) fun t => [.v (.b t)]
theorem d406 : DO (O406 u) (C61 u) 10 A10 := dO u (fun x => by exact e406 u x.2.2.1.1 x.2.2.1.2 x.1 x.2.1 x.2.2.2.1.1 x.2.2.2.1.2 x.2.2.2.2.1 x.2.2.2.2.2.1 x.2.2.2.2.2.2)
def C62 : Oracle := (C61 u).add 10 (fun _ => true) (O406 u)
def A3v1 : AC := (.seq (.region 3 [o1 21 (ln 31 18 3),o1 22 (fa 36 5 5 6),o1 23 (lo 3 22),o1 24 (cs 7 [21,23] [31,3]),mv 20 24,o1 25 (.extract (tm 20) 0),o1 26 (.extract (tm 20) 1),o1 7 (sg 25),o1 8 (sg 26)] 0 none) []
 (.seq (.region 4 [o1 28 (ln 31 18 3),o1 29 (fa 36 5 5 6),o1 30 (lo 3 29),o1 31 (cs 8 [28,30] [31,3]),mv 27 31,o1 32 (.extract (tm 27) 0),o1 33 (.extract (tm 27) 1),o1 9 (sg 32),o1 10 (sg 33)] 0 none) []
 (.seq (.region 5 [mv 34 7,mv 35 9,o1 36 (bt .eql 3 34 35),mv 37 36,og 38 (.move (tm 8)) 37 true,og 39 (.move (tm 10)) 37 true,og 40 (bt .eql 3 38 39) 37 true,o1 41 (po 37 40),mv 42 41,og 43 (fa 36 5 0 0) 42 true,og 44 (lo 3 43) 42 true,og 45 (fa 36 5 1 1) 42 true,og 46 (lo 3 45) 42 true,og 47 (.move (tm 1)) 42 true,og 48 (fa 36 5 2 2) 42 true,og 49 (ln 34 2 48) 42 true,og 50 (fa 36 5 3 4) 42 true,og 51 (lo 3 50) 42 true,og 52 (fa 36 5 4 5) 42 true,og 53 (lo 3 52) 42 true,og 54 (fa 36 5 5 6) 42 true,og 55 (lo 3 54) 42 true,og 56 (cs 9 [44,46,47,49,51,53,55] [3,3,32,34,3,3,3]) 42 true,og 57 (fa 36 5 0 0) 42 true,og 58 (lo 3 57) 42 true,og 59 (fa 36 5 1 1) 42 true,og 60 (lo 3 59) 42 true,og 61 (.move (tm 1)) 42 true,og 62 (fa 36 5 2 2) 42 true,og 63 (ln 34 2 62) 42 true,og 64 (fa 36 5 3 4) 42 true,og 65 (lo 3 64) 42 true,og 66 (fa 36 5 4 5) 42 true,og 67 (lo 3 66) 42 true,og 68 (fa 36 5 5 6) 42 true,og 69 (lo 3 68) 42 true,og 70 (cs 10 [58,60,61,63,65,67,69] [3,3,32,34,3,3,3]) 42 true,og 71 (.eqB false 4 (tm 56) (tm 70) 4) 42 true,o1 72 (po 42 71),mv 73 72,og 74 (cs 6 [] []) 73 true,o1 75 (po 73 74),o1 6 (sg 75)] 0 (some [[],[],[0,1],[0,1,2],(rl 0 4 []),(rl 0 4 []),(rl 0 6 []),(rl 0 7 []),(rl 0 8 []),(rl 0 9 []),(rl 0 10 []),(rl 0 9 []),(rl 0 9 [11]),(rl 0 9 []),(rl 0 9 []),(rl 0 9 [14]),(rl 0 9 []),(rl 0 9 [16]),(rl 0 9 []),(rl 0 9 [18]),(rl 0 9 []),(rl 0 9 [20]),(rl 0 22 []),(rl 0 9 []),(rl 0 9 [23]),(rl 0 9 []),(rl 0 9 [25]),(rl 0 9 []),(rl 0 9 []),(rl 0 9 [28]),(rl 0 9 []),(rl 0 9 [30]),(rl 0 9 []),(rl 0 9 [32]),(rl 0 9 []),(rl 0 9 [34]),(rl 0 36 []),(rl 0 37 []),(rl 0 38 []),(rl 0 39 []),(rl 0 40 []),(rl 0 41 []),(rl 0 42 [])])) []
 (.ghost [0,1] (.ret (rl 0 6 (rl 7 69 [])))))))
def A3 : AF := ⟨76,[.tmp 6],
 (.seq (.region 0 [o1 3 (bx 0 31 0),o1 5 (bx 1 36 2),o1 6 (sb false)] 2 none) []
 (.seq (.seq (.region 1 [o1 11 (ln 31 18 3),o1 12 (cs 5 [11] [31]),o1 13 (.unOp .not 4 (tm 12)),mv 14 13,og 15 (.move (tm 1)) 14 false,og 16 (.len 32 false (tm 15)) 14 false,og 17 (bk .gtr 3 16 60) 14 false,o1 18 (pa 14 17)] 0 none) []
 (.cond (tm 18)
 (.seq (.region 2 [o1 19 (cs 6 [] []),o1 6 (sg 19)] 0 none) []
  (.ghost [0,1] (.ret (rl 0 6 (rl 7 69 [])))))
 .skip)) (6 :: (rl 11 9 []))
 A3v1))⟩
def F407 (x0 : Nat → CV) (x1 : Nat) (x2 : FF) (x3 x4 x5 x6 x7 x8 x9 : Int) : Option (Bool) :=
 (ob (F386 u (listF (pj kR0 x0))) fun xA => (bif ((!xA) == false) then (bif (decide ((Int.ofNat x1) > 60)) then (ob (F403 u) fun xB => (some xB)) else (ob (F393 u (listF (pj kR0 x0)) x9) fun xC => (ob (F405 u (listF (pj kR0 x0)) x9) fun xD => (bif ((xC.1 == xD.1) == true) then (bif ((xC.2 == xD.2) == true) then (ob (F395 u x3 x4 x1 x2 x5 x6 x7 x8 x9) fun xE => (ob (F406 u x3 x4 x1 x2 x5 x6 x7 x8 x9) fun xF => (bif ((xE == xF) == true) then (ob (F403 u) fun xG => (some xG)) else (some false)))) else (some false)) else (some false))))) else (ob (F403 u) fun xH => (some xH))))
theorem e407 : evalF (C62 u) u A3 [.agg (pj kR0 g0),.v (ro kE n0 f0),.agg [(vi i0),(vi i1),(vi i2),(vi i3),(vi i4),(vi i5),(vi i6)]] = ob (F407 u g0 n0 f0 i0 i1 i2 i3 i4 i5 i6) fun t => some [.v (.b t)] := by
 simp only [F407,ob_bif,ob_ob,ob_none,ob_some]
 kernel_rfl
def O407 : Ora := mkO (qc (ar kR0) (qc (av (cL kE)) (q1 (ag (tc ci (tc ci (tc ci (tc ci (tc ci (tc ci (t1 ci))))))))))) (fun x => F407 u x.1 x.2.1.1 x.2.1.2 x.2.2.1 x.2.2.2.1 x.2.2.2.2.1 x.2.2.2.2.2.1 x.2.2.2.2.2.2.1 x.2.2.2.2.2.2.2.1 x.2.2.2.2.2.2.2.2) fun t => [.v (.b t)]
theorem d407 : DO (O407 u) (C62 u) 3 A3 := dO u (fun x => by exact e407 u x.2.1.1 x.2.1.2 x.2.2.1 x.2.2.2.1 x.2.2.2.2.1 x.2.2.2.2.2.1 x.2.2.2.2.2.2.1 x.2.2.2.2.2.2.2.1 x.2.2.2.2.2.2.2.2 x.1)
end Go.Eng.R13
