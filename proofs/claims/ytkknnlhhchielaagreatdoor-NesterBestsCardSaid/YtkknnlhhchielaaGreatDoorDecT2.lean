/-
 The functions of the program,run on symbols;printed by decomp.py.
-/
import Derived.Test.YtkknnlhhchielaaGreatDoorDecT1
import Derived.Test.YtkknnlhhchielaaGreatDoorEngAn
import Derived.Test.YtkknnlhhchielaaGreatDoorProg
set_option linter.all false
set_option maxRecDepth 1000000
set_option maxHeartbeats 4000000
namespace Go.Eng.R13
open Go Go.RowKit Go.Eng
open Go.Proofs
variable {ρ σ : Type} (u m : Nat) (k : Ex -> St -> Option ρ) (ng : ρ -> Option σ) (n0 n1 n2 n3 n4 n5 n6 n7 : Nat) (f0 f1 f2 f3 f4 f5 f6 f7 : FF) (i0 i1 i2 i3 i4 i5 i6 i7 i8 i9 iA iB iC iD iE iF iG iH iI iJ iK iL iM : Int) (b0 b1 : Bool) (w0 w1 w2 w3 w4 w5 w6 w7 w8 w9 : ByteArray) (g0 g1 : Nat -> CV)
def JB:AC:=(.seq (.region 18 [mv 117 17,mv 118 23,o1 119 (.indexAddr 79 3 1 (tm 117) (tm 118)),o1 120 (lo 3 119),mv 121 17,mv 122 21,o1 123 (.indexAddr 79 3 1 (tm 121) (tm 122)),o1 124 (lo 3 123),o1 125 (bt .lss 3 120 124),mv 126 125,og 127 (.move (tm 16)) 126 true,og 128 (.move (tm 23)) 126 true,og 129 (.indexAddr 79 3 1 (tm 127) (tm 128)) 126 true,og 130 (lo 3 129) 126 true,og 131 (.move (tm 16)) 126 true,og 132 (.move (tm 21)) 126 true,og 133 (.indexAddr 79 3 1 (tm 131) (tm 132)) 126 true,og 134 (lo 3 133) 126 true,og 135 (bt .gtr 3 130 134) 126 true,o1 136 (po 126 135)] 0 (some [[],[],[0,1],[0,1,2],[],[],[4,5],[4,5,6],(rl 0 8 []),(rl 0 9 []),(rl 0 10 []),(rl 0 10 []),(rl 0 12 []),(rl 0 13 []),(rl 0 10 []),(rl 0 10 []),(rl 0 10 [14,15]),(rl 0 10 [14,15,16]),(rl 0 18 []),(rl 0 19 [])])) []
 (.cond (tm 136)
 (.region 19 [mv 137 18,mv 138 21,mv 139 18,mv 140 21,o1 141 (.indexAddr 49 42 2 (tm 139) (tm 140)),o1 142 (fa 42 141 1 1),o1 143 (lo 3 142),mv 144 18,mv 145 23,o1 146 (.indexAddr 49 42 2 (tm 144) (tm 145)),o1 147 (fa 42 146 1 1),o1 148 (lo 3 147),mv 149 25,o1 150 (bt .add 3 148 149),mv 151 15,o1 152 (bt .add 3 150 151),o1 153 (.mm true [(tm 143),(tm 152)] [3,3]),o1 154 (.indexAddr 49 42 2 (tm 137) (tm 138)),o1 155 (fa 42 154 1 1),o0 (.store 3 1 (tm 155) (tm 153))] 0 (some [[],[],[],[],[2,3],[2,3,4],(rl 2 4 []),[],[],[7,8],[7,8,9],(rl 7 4 []),[],(rl 7 6 []),[],(rl 7 8 []),(rl 2 14 []),(rl 0 17 []),(rl 0 18 []),(rl 0 19 [])]))
 .skip))
def Dj:AC:=(.region 14 [mv 64 23,o1 65 (bk .add 3 64 1),o1 23 (sg 65)] 0 none)
def aae:AC:=(.seq (.block 3
 (.seq (.region 15 [mv 67 1,mv 68 23,o1 69 (.indexAddr 24 58 18 (tm 67) (tm 68)),o1 70 (ln 58 18 69),mv 71 2,mv 72 23,o1 73 (bt .shr 3 71 72),o1 74 (bk .and 3 73 1),o1 75 (cs 29 [70,74] [58,3]),mv 66 75,o1 76 (.extract (tm 66) 0),o1 77 (.extract (tm 66) 1),o1 24 (sg 76),o1 25 (sg 77)] 0 (some [[],[],[0,1],[0,1,2],[],[],[4,5],[4,5,6],(rl 0 8 []),(rl 0 9 []),(rl 0 10 []),(rl 0 10 []),(rl 0 11 []),(rl 0 13 [])])) []
  (.seq (.seq (.region 16 [mv 78 17,mv 79 23,o1 80 (.indexAddr 79 3 1 (tm 78) (tm 79)),o1 81 (lo 3 80),mv 82 17,mv 83 21,o1 84 (.indexAddr 79 3 1 (tm 82) (tm 83)),o1 85 (lo 3 84),o1 86 (bt .lss 3 81 85),mv 87 86,og 88 (.move (tm 16)) 87 true,og 89 (.move (tm 23)) 87 true,og 90 (.indexAddr 79 3 1 (tm 88) (tm 89)) 87 true,og 91 (lo 3 90) 87 true,og 92 (.move (tm 16)) 87 true,og 93 (.move (tm 21)) 87 true,og 94 (.indexAddr 79 3 1 (tm 92) (tm 93)) 87 true,og 95 (lo 3 94) 87 true,og 96 (bt .lss 3 91 95) 87 true,o1 97 (po 87 96)] 0 (some [[],[],[0,1],[0,1,2],[],[],[4,5],[4,5,6],(rl 0 8 []),(rl 0 9 []),(rl 0 10 []),(rl 0 10 []),(rl 0 12 []),(rl 0 13 []),(rl 0 10 []),(rl 0 10 []),(rl 0 10 [14,15]),(rl 0 10 [14,15,16]),(rl 0 18 []),(rl 0 19 [])])) []
  (.cond (tm 97)
  (.region 17 [mv 98 18,mv 99 21,mv 100 18,mv 101 21,o1 102 (.indexAddr 49 42 2 (tm 100) (tm 101)),o1 103 (fa 42 102 0 0),o1 104 (lo 3 103),mv 105 18,mv 106 23,o1 107 (.indexAddr 49 42 2 (tm 105) (tm 106)),o1 108 (fa 42 107 0 0),o1 109 (lo 3 108),mv 110 24,o1 111 (bt .add 3 109 110),mv 112 15,o1 113 (bt .add 3 111 112),o1 114 (.mm true [(tm 104),(tm 113)] [3,3]),o1 115 (.indexAddr 49 42 2 (tm 98) (tm 99)),o1 116 (fa 42 115 0 0),o0 (.store 3 1 (tm 116) (tm 114))] 0 (some [[],[],[],[],[2,3],[2,3,4],(rl 2 4 []),[],[],[7,8],[7,8,9],(rl 7 4 []),[],(rl 7 6 []),[],(rl 7 8 []),(rl 2 14 []),(rl 0 17 []),(rl 0 18 []),(rl 0 19 [])]))
  .skip)) (rl 78 39 [])
  JB))) (24::25::(rl 66 90 []))
 Dj)
def lV:AC:=(.seq (.seq (.region 13 [mv 61 23,mv 62 14,o1 63 (bt .lss 3 61 62)] 0 none) []
 (.cond (tm 63)
 .skip
 (.exit 2 (0::3::(rl 7 7 (rl 23 177 [])))))) [61,62,63]
 aae)
def aad:AC:=(.region 24 [mv 195 19,mv 196 21,o1 197 (ln 44 5 28),o1 198 (.indexAddr 28 44 5 (tm 195) (tm 196)),o0 (.store 44 5 (tm 198) (tm 197))] 0 none)
def PU:AC:=(.seq (.region 20 [mv 157 1,mv 158 21,o1 159 (.indexAddr 24 58 18 (tm 157) (tm 158)),o1 160 (ln 58 18 159),mv 161 22,o1 162 (cs 29 [160,161] [58,3]),mv 156 162,o1 163 (.extract (tm 156) 0),o1 164 (.extract (tm 156) 1),o1 26 (sg 163),o1 27 (sg 164)] 0 none) []
 (.seq (.region 21 [mv 166 1,mv 167 21,o1 168 (.indexAddr 24 58 18 (tm 166) (tm 167)),o1 169 (ln 58 18 168),mv 170 18,mv 171 21,o1 172 (.indexAddr 49 42 2 (tm 170) (tm 171)),o1 173 (ln 42 2 172),mv 174 22,o1 175 (cs 30 [169,173,174] [58,42,3]),mv 165 175,o1 176 (.extract (tm 165) 0),o1 177 (.extract (tm 165) 1),o1 28 (.alloc 0 44 [vcs ByteArray.empty,vci 0,vci 0,vci 0,vcb false]),o0 (.store 44 5 (tm 28) (tm 176)),o1 29 (sg 177)] 1 (some [[],[],[0,1],[0,1,2],[],[],[4,5],[4,5,6],[],(rl 0 9 []),(rl 0 10 []),(rl 0 11 []),(rl 0 11 []),[],(rl 0 12 [13]),(rl 0 15 [])])) []
 (.seq (.seq (.region 22 [mv 178 29,o1 179 (.unOp .not 4 (tm 178)),mv 180 179,og 181 (fa 23 6 3 3) 180 false,og 182 (lo 3 181) 180 false,og 183 (fa 23 6 4 4) 180 false,og 184 (lo 3 183) 180 false,og 185 (.move (tm 18)) 180 false,og 186 (.move (tm 21)) 180 false,og 187 (.indexAddr 49 42 2 (tm 185) (tm 186)) 180 false,og 188 (ln 42 2 187) 180 false,og 189 (.move (tm 26)) 180 false,og 190 (.move (tm 27)) 180 false,og 191 (.move (tm 5)) 180 false,og 192 (.call 42 [(tm 182),(tm 184),(.const (.slice none 0 0)),(tm 188),(tm 189),(tm 190),(tm 191)] [3,3,65,42,3,3,3] .snap) 180 false,og 193 (.unOp .not 4 (tm 192)) 180 false,o1 194 (pa 180 193)] 0 (some [[],[0],[0,1],[0,1,2],(rl 0 4 []),[0,1,2],[0,1,2,5],[0,1,2],[0,1,2],[0,1,2,7,8],[0,1,2,7,8,9],[0,1,2],[0,1,2],[0,1,2],(rl 0 14 []),(rl 0 15 []),(rl 0 16 [])])) []
 (.cond (tm 194)
 (.seq (.region 23 [o1 12 (.assign (.const (.slice none 0 0))),o1 13 (sb false)] 0 none) []
  (.ghost (rl 0 4 []) (.ret (rl 0 12 (rl 14 186 [])))))
 .skip)) (12::13::(rl 178 17 []))
 aad)))
def PT:AC:=(.region 8 [mv 45 20,o1 46 (bk .add 3 45 1),o1 20 (sg 46)] 0 none)
def aac:AC:=(.seq (.block 1
 (.seq (.region 9 [mv 47 4,mv 48 20,o1 49 (.indexAddr 79 3 1 (tm 47) (tm 48)),o1 50 (lo 3 49),o1 21 (sg 50)] 0 none) []
  (.seq (.region 10 [mv 51 2,mv 52 21,o1 53 (bt .shr 3 51 52),o1 54 (bk .and 3 53 1),o1 22 (sg 54)] 0 none) []
  (.seq (.region 11 [mv 55 18,mv 56 21,mv 57 5,mv 58 5,o1 59 (.build 42 [vci 0,vci 0] [(0,1),(1,1)] 0 [(0,(tm 57)),(1,(tm 58))]),o1 60 (.indexAddr 49 42 2 (tm 55) (tm 56)),o0 (.store 42 2 (tm 60) (tm 59))] 0 none) []
  (.seq (.seq (.region 12 [o1 23 (sk 0)] 0 none) []
  (.block 2
  (.loop [] (0::3::(rl 7 7 (rl 24 176 [])))
   lV))) (23::24::25::(rl 61 95 []))
  PU))))) (12::13::(rl 21 9 (rl 47 152 [])))
 PT)
def Cc:AC:=(.seq (.seq (.region 7 [mv 42 20,mv 43 14,o1 44 (bt .lss 3 42 43)] 0 none) []
 (.cond (tm 44)
 .skip
 (.ghost [0,1] (.exit 0 (rl 0 19 (rl 20 180 [])))))) [42,43,44]
 aac)
def PV:AC:=(.seq (.region 25 [mv 199 19,o1 12 (sg 199),o1 13 (sb true)] 0 none) []
 (.ghost [0,1] (.ret (rl 0 12 (rl 14 186 [])))))
def A36:AF:=⟨200,[.tmp 12,.tmp 13],
 (.seq (.region 0 [o1 6 (bx 0 23 0),o1 12 (.assign (.const (.slice none 0 0))),o1 13 (sb false)] 1 none) []
 (.seq (.region 1 [mv 30 1,o1 31 (.len 24 false (tm 30)),o1 14 (sg 31)] 0 none) []
 (.seq (.region 2 [mv 32 5,o1 33 (.mm true [(tm 32),(ic 1)] [3,3]),o1 15 (sg 33)] 0 none) []
 (.seq (.region 3 [mv 34 3,o1 35 (cf 59 [34] [79]),mv 36 4,o1 37 (cf 59 [36] [79]),o1 16 (sg 35),o1 17 (sg 37)] 0 none) []
 (.seq (.region 4 [mv 38 14,o1 39 (.makeSlice 0 49 42 kP 16 [(vi 0),(vi 0)] (tm 38) (tm 38)),o1 18 (sg 39)] 1 none) []
 (.seq (.region 5 [mv 40 14,o1 41 (.makeSlice 0 28 44 kB 48 [(.s ByteArray.empty),(vi 0),(vi 0),(vi 0),(.b false)] (tm 40) (tm 40)),o1 19 (sg 41)] 1 none) []
 (.seq (.seq (.region 6 [o1 20 (sk 0)] 0 none) []
 (.block 0
 (.loop [] (0::3::(rl 7 7 (rl 21 179 [])))
  Cc))) (12::13::(rl 20 10 (rl 42 157 [])))
 PV)))))))⟩
def jl:St->Option St:=nN 3 (0::3::(rl 7 7 (rl 24 176 [])))
def mD:St:=⟨(.u::.x (.c (ro kA n0 f0))::vxi i0::.u::.x (.c (ro kD n1 f1))::vxi i1::.x (.ptr 0 0)::(us 7 (vxi i2::vxi i3::.x (.c (ro kD n2 f2))::.x (.c (ro kD n3 f3))::.x (.own 1 0 n4)::.x (.own 2 0 n4)::vxi i4::vxi i5::vxi i6::vxi i7::(us 176 [])))),[.box [(vcs w0),(vcs w1),(vci i8),(vci i9),(vci iA),(vcs w2)],.arr kP n4 f4,.arr kB n4 f5]⟩
def Gd:St:=⟨(.u::.x (.c (ro kA n0 f0))::vxi i0::.u::.x (.c (ro kD n1 f1))::vxi i1::.x (.ptr 0 0)::(us 7 (vxi i2::vxi i3::.x (.c (ro kD n2 f2))::.x (.c (ro kD n3 f3))::.x (.own 1 0 n4)::.x (.own 2 0 n4)::vxi i4::vxi i5::vxi i6::(us 177 [])))),[.box [(vcs w0),(vcs w1),(vci i7),(vci i8),(vci i9),(vcs w2)],.arr kP n4 f4,.arr kB n4 f5]⟩
def dV {ρ:Type} (u:Nat) (x0:Nat) (x1:FF) (x2:Int) (x3:Nat) (x4:FF) (x5 x6 x7:Int) (x8:Nat) (x9:FF) (xA:Nat) (xB:FF) (xC:Nat) (xD xE xF:Int) (xG xH:ByteArray) (xI xJ xK:Int) (xL:ByteArray) (xM:FF):Nat->Int->FF->(FF->Option ρ)->Option ρ
 | 0,_,_,_=>none
 | m+1,xN,xO,k0 =>
  (bif (decide (xN<x6)) then (bif (inb xN x0) then (bif (decide (0<=xN)&&decide (xN<=64)) then (ob (s9 u (au (pj kR0 (x1 xN.toNat))) (bits .and .i64 (x2 / 2 ^ xN.toNat) 1)) fun xP=>(bif (inb xN xA) then (bif (inb xE xA) then (bif ((decide ((xB xN.toNat 0).int<(xB xE.toNat 0).int))==true) then (bif (inb xN x8) then (bif (inb xE x8) then (bif (decide ((x9 xN.toNat 0).int<(x9 xE.toNat 0).int)) then (bif (inb xE xC) then (bif (inb xN xC) then (bif (inb xE xC) then (bif (inb xN xA) then (bif (inb xE xA) then (bif ((decide ((xB xN.toNat 0).int<(xB xE.toNat 0).int))==true) then (bif (inb xN x8) then (bif (inb xE x8) then (bif (decide ((x9 xN.toNat 0).int>(x9 xE.toNat 0).int)) then (bif (inb xE xC) then (bif (inb xN xC) then (bif (inb xE xC) then (dV u x0 x1 x2 x3 x4 x5 x6 x7 x8 x9 xA xB xC xD xE xF xG xH xI xJ xK xL xM m (w64 (xN+1)) (cm (cm xO (0+xE.toNat) 0 1 (au [(.i .i64 (if (w64 ((w64 ((xO (0+xN.toNat) 0).int+xP.1))+x7))>(xO (0+xE.toNat) 0).int then (w64 ((w64 ((xO (0+xN.toNat) 0).int+xP.1))+x7)) else (xO (0+xE.toNat) 0).int))])) (0+xE.toNat) 1 1 (au [(.i .i64 (if (w64 ((w64 ((((cm xO (0+xE.toNat) 0 1 (au [(.i .i64 (if (w64 ((w64 ((xO (0+xN.toNat) 0).int+xP.1))+x7))>(xO (0+xE.toNat) 0).int then (w64 ((w64 ((xO (0+xN.toNat) 0).int+xP.1))+x7)) else (xO (0+xE.toNat) 0).int))])) (0+xN.toNat) 1).int)+xP.2))+x7))>(((cm xO (0+xE.toNat) 0 1 (au [(.i .i64 (if (w64 ((w64 ((xO (0+xN.toNat) 0).int+xP.1))+x7))>(xO (0+xE.toNat) 0).int then (w64 ((w64 ((xO (0+xN.toNat) 0).int+xP.1))+x7)) else (xO (0+xE.toNat) 0).int))])) (0+xE.toNat) 1).int) then (w64 ((w64 ((((cm xO (0+xE.toNat) 0 1 (au [(.i .i64 (if (w64 ((w64 ((xO (0+xN.toNat) 0).int+xP.1))+x7))>(xO (0+xE.toNat) 0).int then (w64 ((w64 ((xO (0+xN.toNat) 0).int+xP.1))+x7)) else (xO (0+xE.toNat) 0).int))])) (0+xN.toNat) 1).int)+xP.2))+x7)) else (((cm xO (0+xE.toNat) 0 1 (au [(.i .i64 (if (w64 ((w64 ((xO (0+xN.toNat) 0).int+xP.1))+x7))>(xO (0+xE.toNat) 0).int then (w64 ((w64 ((xO (0+xN.toNat) 0).int+xP.1))+x7)) else (xO (0+xE.toNat) 0).int))])) (0+xE.toNat) 1).int)))])) k0) else none) else none) else none) else (dV u x0 x1 x2 x3 x4 x5 x6 x7 x8 x9 xA xB xC xD xE xF xG xH xI xJ xK xL xM m (w64 (xN+1)) (cm xO (0+xE.toNat) 0 1 (au [(.i .i64 (if (w64 ((w64 ((xO (0+xN.toNat) 0).int+xP.1))+x7))>(xO (0+xE.toNat) 0).int then (w64 ((w64 ((xO (0+xN.toNat) 0).int+xP.1))+x7)) else (xO (0+xE.toNat) 0).int))])) k0)) else none) else none) else (dV u x0 x1 x2 x3 x4 x5 x6 x7 x8 x9 xA xB xC xD xE xF xG xH xI xJ xK xL xM m (w64 (xN+1)) (cm xO (0+xE.toNat) 0 1 (au [(.i .i64 (if (w64 ((w64 ((xO (0+xN.toNat) 0).int+xP.1))+x7))>(xO (0+xE.toNat) 0).int then (w64 ((w64 ((xO (0+xN.toNat) 0).int+xP.1))+x7)) else (xO (0+xE.toNat) 0).int))])) k0)) else none) else none) else none) else none) else none) else (bif (inb xN xA) then (bif (inb xE xA) then (bif ((decide ((xB xN.toNat 0).int<(xB xE.toNat 0).int))==true) then (bif (inb xN x8) then (bif (inb xE x8) then (bif (decide ((x9 xN.toNat 0).int>(x9 xE.toNat 0).int)) then (bif (inb xE xC) then (bif (inb xN xC) then (bif (inb xE xC) then (dV u x0 x1 x2 x3 x4 x5 x6 x7 x8 x9 xA xB xC xD xE xF xG xH xI xJ xK xL xM m (w64 (xN+1)) (cm xO (0+xE.toNat) 1 1 (au [(.i .i64 (if (w64 ((w64 ((xO (0+xN.toNat) 1).int+xP.2))+x7))>(xO (0+xE.toNat) 1).int then (w64 ((w64 ((xO (0+xN.toNat) 1).int+xP.2))+x7)) else (xO (0+xE.toNat) 1).int))])) k0) else none) else none) else none) else (dV u x0 x1 x2 x3 x4 x5 x6 x7 x8 x9 xA xB xC xD xE xF xG xH xI xJ xK xL xM m (w64 (xN+1)) xO k0)) else none) else none) else (dV u x0 x1 x2 x3 x4 x5 x6 x7 x8 x9 xA xB xC xD xE xF xG xH xI xJ xK xL xM m (w64 (xN+1)) xO k0)) else none) else none)) else none) else none) else (bif (inb xN xA) then (bif (inb xE xA) then (bif ((decide ((xB xN.toNat 0).int<(xB xE.toNat 0).int))==true) then (bif (inb xN x8) then (bif (inb xE x8) then (bif (decide ((x9 xN.toNat 0).int>(x9 xE.toNat 0).int)) then (bif (inb xE xC) then (bif (inb xN xC) then (bif (inb xE xC) then (dV u x0 x1 x2 x3 x4 x5 x6 x7 x8 x9 xA xB xC xD xE xF xG xH xI xJ xK xL xM m (w64 (xN+1)) (cm xO (0+xE.toNat) 1 1 (au [(.i .i64 (if (w64 ((w64 ((xO (0+xN.toNat) 1).int+xP.2))+x7))>(xO (0+xE.toNat) 1).int then (w64 ((w64 ((xO (0+xN.toNat) 1).int+xP.2))+x7)) else (xO (0+xE.toNat) 1).int))])) k0) else none) else none) else none) else (dV u x0 x1 x2 x3 x4 x5 x6 x7 x8 x9 xA xB xC xD xE xF xG xH xI xJ xK xL xM m (w64 (xN+1)) xO k0)) else none) else none) else (dV u x0 x1 x2 x3 x4 x5 x6 x7 x8 x9 xA xB xC xD xE xF xG xH xI xJ xK xL xM m (w64 (xN+1)) xO k0)) else none) else none)) else none) else none)) else none) else none) else (k0 xO))
theorem Io:∀ (m:Nat) (x0:Int) (x1:FF) (k0:FF->Option ρ),ob (dV u n0 f0 i0 n1 f1 i1 i2 i3 n2 f2 n3 f3 n4 i4 i5 i6 w0 w1 i7 i8 i9 w2 f4 m x0 x1 k0) ng=dV u n0 f0 i0 n1 f1 i1 i2 i3 n2 f2 n3 f3 n4 i4 i5 i6 w0 w1 i7 i8 i9 w2 f4 m x0 x1 (fun x2=>ob (k0 x2) ng)
 | 0,_,_,_=>rfl
 | m+1,x0,x1,k0=>by
  simp only [dV,ak,aw,af,Io m]
def Lx (x0:Int × Int):St:=⟨(.u::.x (.c (ro kA n0 f0))::vxi i0::.u::.x (.c (ro kD n1 f1))::vxi i1::.x (.ptr 0 0)::(us 7 (vxi i2::vxi i3::.x (.c (ro kD n2 f2))::.x (.c (ro kD n3 f3))::.x (.own 1 0 n4)::.x (.own 2 0 n4)::vxi i4::vxi i5::vxi i6::vxi i7::vxi x0.1::vxi x0.2::(us 40 (.tup [.v (vi x0.1),.v (vi x0.2)]::.x (.c (ro kA n0 f0))::vxi i7::.x (.c (.rp kA (f0 i7.toNat)))::.agg (pjc kR0 (f0 i7.toNat))::vxi i0::vxi i7::vxi (i0 / 2 ^ i7.toNat)::vxi (bits .and .i64 (i0 / 2 ^ i7.toNat) 1)::.tup [.v (vi x0.1),.v (vi x0.2)]::vxi x0.1::vxi x0.2::(us 122 [])))))),[.box [(vcs w0),(vcs w1),(vci i8),(vci i9),(vci iA),(vcs w2)],.arr kP n4 (cm f4 (0+i5.toNat) 0 1 (au [(vi (if (w64 ((w64 ((f4 (0+i7.toNat) 0).int+x0.1))+i3))>(f4 (0+i5.toNat) 0).int then (w64 ((w64 ((f4 (0+i7.toNat) 0).int+x0.1))+i3)) else (f4 (0+i5.toNat) 0).int))])),.arr kB n4 f5]⟩
def Gc (x0:Int × Int):St:=⟨(.u::.x (.c (ro kA n0 f0))::vxi i0::.u::.x (.c (ro kD n1 f1))::vxi i1::.x (.ptr 0 0)::(us 7 (vxi i2::vxi i3::.x (.c (ro kD n2 f2))::.x (.c (ro kD n3 f3))::.x (.own 1 0 n4)::.x (.own 2 0 n4)::vxi i4::vxi i5::vxi i6::vxi i7::vxi x0.1::vxi x0.2::(us 40 (.tup [.v (vi x0.1),.v (vi x0.2)]::.x (.c (ro kA n0 f0))::vxi i7::.x (.c (.rp kA (f0 i7.toNat)))::.agg (pjc kR0 (f0 i7.toNat))::vxi i0::vxi i7::vxi (i0 / 2 ^ i7.toNat)::vxi (bits .and .i64 (i0 / 2 ^ i7.toNat) 1)::.tup [.v (vi x0.1),.v (vi x0.2)]::vxi x0.1::vxi x0.2::(us 122 [])))))),[.box [(vcs w0),(vcs w1),(vci i8),(vci i9),(vci iA),(vcs w2)],.arr kP n4 f4,.arr kB n4 f5]⟩
theorem VK (hT hB:AC) (he:hB=hole hT [1,0,0,1,1] lV) :
  am (eB hB (C92 u) u) jl (m+1) (mD n0 n1 n2 n3 n4 f0 f1 f2 f3 f5 f4 i0 i1 i2 i3 i4 i5 i6 iA i7 i8 i9 w0 w1 w2) k =
  (bif (decide (iA<i2)) then (bif (inb iA n0) then (bif (decide (0<=iA)&&decide (iA<=64)) then (ob (s9 u (au (pj kR0 (f0 iA.toNat))) (bits .and .i64 (i0 / 2 ^ iA.toNat) 1)) fun x0=>(bif (inb iA n3) then (bif (inb i5 n3) then (bif ((decide ((f3 iA.toNat 0).int<(f3 i5.toNat 0).int))==true) then (bif (inb iA n2) then (bif (inb i5 n2) then (bif (decide ((f2 iA.toNat 0).int<(f2 i5.toNat 0).int)) then (bif (inb i5 n4) then (bif (inb iA n4) then (bif (inb i5 n4) then (aS (C92 u) u hT (Lx n0 n1 n2 n3 n4 f0 f1 f2 f3 f5 f4 i0 i1 i2 i3 i4 i5 i6 iA i7 i8 i9 w0 w1 w2 x0) (aA 3 (aI (C92 u) u (24::25::(rl 66 90 [])) Dj (aN (eB hB (C92 u) u) jl m k)))) else none) else none) else none) else (aS (C92 u) u hT (Gc n0 n1 n2 n3 n4 f0 f1 f2 f3 f5 f4 i0 i1 i2 i3 i4 i5 i6 iA i7 i8 i9 w0 w1 w2 x0) (aA 3 (aI (C92 u) u (24::25::(rl 66 90 [])) Dj (aN (eB hB (C92 u) u) jl m k))))) else none) else none) else (aS (C92 u) u hT (Gc n0 n1 n2 n3 n4 f0 f1 f2 f3 f5 f4 i0 i1 i2 i3 i4 i5 i6 iA i7 i8 i9 w0 w1 w2 x0) (aA 3 (aI (C92 u) u (24::25::(rl 66 90 [])) Dj (aN (eB hB (C92 u) u) jl m k))))) else none) else none)) else none) else none) else (k (.exit 2) (Gd n0 n1 n2 n3 n4 f0 f1 f2 f3 f5 f4 i0 i1 i2 i3 i4 i5 i6 i7 i8 i9 w0 w1 w2))):=by
  subst he
  kernel_rfl
theorem Ww (x0:Int × Int) :
  aS (C92 u) u JB (Lx n0 n1 n2 n3 n4 f0 f1 f2 f3 f4 f5 i0 i1 i2 i3 i4 i5 i6 i7 i8 i9 iA w0 w1 w2 x0) (aA 3 (aI (C92 u) u (24::25::(rl 66 90 [])) Dj (aN (eB lV (C92 u) u) jl m k))) =
  (bif (inb i7 n3) then (bif (inb i5 n3) then (bif ((decide ((f3 i7.toNat 0).int<(f3 i5.toNat 0).int))==true) then (bif (inb i7 n2) then (bif (inb i5 n2) then (bif (decide ((f2 i7.toNat 0).int>(f2 i5.toNat 0).int)) then (bif (inb i5 n4) then (bif (inb i7 n4) then (bif (inb i5 n4) then (am (eB lV (C92 u) u) jl m (mD n0 n1 n2 n3 n4 f0 f1 f2 f3 (cm (cm f4 (0+i5.toNat) 0 1 (au [(vi (if (w64 ((w64 ((f4 (0+i7.toNat) 0).int+x0.1))+i3))>(f4 (0+i5.toNat) 0).int then (w64 ((w64 ((f4 (0+i7.toNat) 0).int+x0.1))+i3)) else (f4 (0+i5.toNat) 0).int))])) (0+i5.toNat) 1 1 (au [(vi (if (w64 ((w64 ((((cm f4 (0+i5.toNat) 0 1 (au [(vi (if (w64 ((w64 ((f4 (0+i7.toNat) 0).int+x0.1))+i3))>(f4 (0+i5.toNat) 0).int then (w64 ((w64 ((f4 (0+i7.toNat) 0).int+x0.1))+i3)) else (f4 (0+i5.toNat) 0).int))])) (0+i7.toNat) 1).int)+x0.2))+i3))>(((cm f4 (0+i5.toNat) 0 1 (au [(vi (if (w64 ((w64 ((f4 (0+i7.toNat) 0).int+x0.1))+i3))>(f4 (0+i5.toNat) 0).int then (w64 ((w64 ((f4 (0+i7.toNat) 0).int+x0.1))+i3)) else (f4 (0+i5.toNat) 0).int))])) (0+i5.toNat) 1).int) then (w64 ((w64 ((((cm f4 (0+i5.toNat) 0 1 (au [(vi (if (w64 ((w64 ((f4 (0+i7.toNat) 0).int+x0.1))+i3))>(f4 (0+i5.toNat) 0).int then (w64 ((w64 ((f4 (0+i7.toNat) 0).int+x0.1))+i3)) else (f4 (0+i5.toNat) 0).int))])) (0+i7.toNat) 1).int)+x0.2))+i3)) else (((cm f4 (0+i5.toNat) 0 1 (au [(vi (if (w64 ((w64 ((f4 (0+i7.toNat) 0).int+x0.1))+i3))>(f4 (0+i5.toNat) 0).int then (w64 ((w64 ((f4 (0+i7.toNat) 0).int+x0.1))+i3)) else (f4 (0+i5.toNat) 0).int))])) (0+i5.toNat) 1).int)))])) f5 i0 i1 i2 i3 i4 i5 i6 (w64 (i7+1)) i8 i9 iA w0 w1 w2) k) else none) else none) else none) else (am (eB lV (C92 u) u) jl m (mD n0 n1 n2 n3 n4 f0 f1 f2 f3 (cm f4 (0+i5.toNat) 0 1 (au [(vi (if (w64 ((w64 ((f4 (0+i7.toNat) 0).int+x0.1))+i3))>(f4 (0+i5.toNat) 0).int then (w64 ((w64 ((f4 (0+i7.toNat) 0).int+x0.1))+i3)) else (f4 (0+i5.toNat) 0).int))])) f5 i0 i1 i2 i3 i4 i5 i6 (w64 (i7+1)) i8 i9 iA w0 w1 w2) k)) else none) else none) else (am (eB lV (C92 u) u) jl m (mD n0 n1 n2 n3 n4 f0 f1 f2 f3 (cm f4 (0+i5.toNat) 0 1 (au [(vi (if (w64 ((w64 ((f4 (0+i7.toNat) 0).int+x0.1))+i3))>(f4 (0+i5.toNat) 0).int then (w64 ((w64 ((f4 (0+i7.toNat) 0).int+x0.1))+i3)) else (f4 (0+i5.toNat) 0).int))])) f5 i0 i1 i2 i3 i4 i5 i6 (w64 (i7+1)) i8 i9 iA w0 w1 w2) k)) else none) else none):=by kernel_rfl
theorem Wv (x0:Int × Int) :
  aS (C92 u) u JB (Gc n0 n1 n2 n3 n4 f0 f1 f2 f3 f4 f5 i0 i1 i2 i3 i4 i5 i6 i7 i8 i9 iA w0 w1 w2 x0) (aA 3 (aI (C92 u) u (24::25::(rl 66 90 [])) Dj (aN (eB lV (C92 u) u) jl m k))) =
  (bif (inb i7 n3) then (bif (inb i5 n3) then (bif ((decide ((f3 i7.toNat 0).int<(f3 i5.toNat 0).int))==true) then (bif (inb i7 n2) then (bif (inb i5 n2) then (bif (decide ((f2 i7.toNat 0).int>(f2 i5.toNat 0).int)) then (bif (inb i5 n4) then (bif (inb i7 n4) then (bif (inb i5 n4) then (am (eB lV (C92 u) u) jl m (mD n0 n1 n2 n3 n4 f0 f1 f2 f3 (cm f4 (0+i5.toNat) 1 1 (au [(vi (if (w64 ((w64 ((f4 (0+i7.toNat) 1).int+x0.2))+i3))>(f4 (0+i5.toNat) 1).int then (w64 ((w64 ((f4 (0+i7.toNat) 1).int+x0.2))+i3)) else (f4 (0+i5.toNat) 1).int))])) f5 i0 i1 i2 i3 i4 i5 i6 (w64 (i7+1)) i8 i9 iA w0 w1 w2) k) else none) else none) else none) else (am (eB lV (C92 u) u) jl m (mD n0 n1 n2 n3 n4 f0 f1 f2 f3 f4 f5 i0 i1 i2 i3 i4 i5 i6 (w64 (i7+1)) i8 i9 iA w0 w1 w2) k)) else none) else none) else (am (eB lV (C92 u) u) jl m (mD n0 n1 n2 n3 n4 f0 f1 f2 f3 f4 f5 i0 i1 i2 i3 i4 i5 i6 (w64 (i7+1)) i8 i9 iA w0 w1 w2) k)) else none) else none):=by kernel_rfl
theorem Mn:∀ (m:Nat) (x0:Int) (x1:FF),
  am (eB lV (C92 u) u) jl m (mD n0 n1 n2 n3 n4 f0 f1 f2 f3 x1 f4 i0 i1 i2 i3 i4 i5 i6 x0 i7 i8 i9 w0 w1 w2) k=dV u n0 f0 i0 n1 f1 i1 i2 i3 n2 f2 n3 f3 n4 i4 i5 i6 w0 w1 i7 i8 i9 w2 f4 m x0 x1 (fun x2=>k (.exit 2) (Gd n0 n1 n2 n3 n4 f0 f1 f2 f3 x2 f4 i0 i1 i2 i3 i4 i5 i6 i7 i8 i9 w0 w1 w2))
 | 0,_,_=>rfl
 | m+1,x0,x1=>by
  rw [VK (he:=(by kernel_rfl:lV=hole JB [1,0,0,1,1] lV))]
  simp only [dV,Mn m,Ww,Wv]
def vO:St->Option St:=nN 3 (0::3::(rl 7 7 (rl 21 179 [])))
def Dx:St:=⟨(.u::.x (.c (ro kA n0 f0))::vxi i0::.u::.x (.c (ro kD n1 f1))::vxi i1::.x (.ptr 0 0)::(us 7 (vxi i2::vxi i3::.x (.c (ro kD n2 f2))::.x (.c (ro kD n3 f3))::.x (.own 1 0 n4)::.x (.own 2 0 n4)::vxi i4::(us 179 [])))),[.box [(vcs w0),(vcs w1),(vci i5),(vci i6),(vci i7),(vcs w2)],.arr kP n4 f4,.arr kB n4 f5]⟩
def Gb:St:=⟨(us 12 (.x (vcn)::vxb false::(us 186 []))),[.dead,.dead,.dead,.dead]⟩
def Lw:St:=⟨(us 19 (.x (.own 2 0 n0)::(us 180 []))),[.dead,.dead,.arr kB n0 f0]⟩
def lE {ρ:Type} (u:Nat) (x0:Nat) (x1:FF) (x2:Int) (x3:Nat) (x4:FF) (x5 x6 x7:Int) (x8:Nat) (x9:FF) (xA:Nat) (xB:FF) (xC:Nat) (xD xE:ByteArray) (xF xG xH:Int) (xI:ByteArray):Nat->Int->FF->FF->(Option ρ)->(FF->Option ρ)->Option ρ
 | 0,_,_,_,_,_=>none
 | m+1,xJ,xK,xL,k0,k1 =>
  (bif (decide (xJ<x6)) then (bif (inb xJ x3) then (bif (decide (0<=(x4 xJ.toNat 0).int)&&decide ((x4 xJ.toNat 0).int<=64)) then (bif (inb (x4 xJ.toNat 0).int xC) then (dV u x0 x1 x2 x3 x4 x5 x6 x7 x8 x9 xA xB xC xJ (x4 xJ.toNat 0).int (bits .and .i64 (x2 / 2 ^ (Int.toNat (x4 xJ.toNat 0).int)) 1) xD xE xF xG xH xI xL u 0 (cm xK (0+(Int.toNat (x4 xJ.toNat 0).int)) 0 2 (au [(.i .i64 x5),(.i .i64 x5)]))
  (fun xM=>(bif (inb (x4 xJ.toNat 0).int x0) then (ob (s9 u (au [(.s ((x1 (Int.toNat (x4 xJ.toNat 0).int) 0).str)),(.i .i64 ((x1 (Int.toNat (x4 xJ.toNat 0).int) 1).int)),(.i .i64 ((x1 (Int.toNat (x4 xJ.toNat 0).int) 2).int)),(.s ((x1 (Int.toNat (x4 xJ.toNat 0).int) 3).str)),(.s ((x1 (Int.toNat (x4 xJ.toNat 0).int) 4).str)),(.i .i64 ((x1 (Int.toNat (x4 xJ.toNat 0).int) 5).int)),(.ro false (.pr (.int .i64) (.pr (.int .i64) .nil)) ((x1 (Int.toNat (x4 xJ.toNat 0).int) 6).len) ((x1 (Int.toNat (x4 xJ.toNat 0).int) 6).el)),(.ro false (.pr (.sl (.pr (.int .i64) (.pr (.int .i64) .nil))) .nil) ((x1 (Int.toNat (x4 xJ.toNat 0).int) 7).len) ((x1 (Int.toNat (x4 xJ.toNat 0).int) 7).el)),(.s ((x1 (Int.toNat (x4 xJ.toNat 0).int) 8).str)),(.i .i64 ((x1 (Int.toNat (x4 xJ.toNat 0).int) 9).int)),(.i .i64 ((x1 (Int.toNat (x4 xJ.toNat 0).int) 10).int)),(.i .i64 ((x1 (Int.toNat (x4 xJ.toNat 0).int) 11).int)),(.i .i64 ((x1 (Int.toNat (x4 xJ.toNat 0).int) 12).int)),(.i .i64 ((x1 (Int.toNat (x4 xJ.toNat 0).int) 13).int)),(.i .i64 ((x1 (Int.toNat (x4 xJ.toNat 0).int) 14).int)),(.i .i64 ((x1 (Int.toNat (x4 xJ.toNat 0).int) 15).int)),(.i .i64 ((x1 (Int.toNat (x4 xJ.toNat 0).int) 16).int)),(.i .i64 ((x1 (Int.toNat (x4 xJ.toNat 0).int) 17).int))]) (bits .and .i64 (x2 / 2 ^ (Int.toNat (x4 xJ.toNat 0).int)) 1)) fun xN=>(bif (inb (x4 xJ.toNat 0).int x0) then (bif (inb (x4 xJ.toNat 0).int xC) then (ob (G9 u (au [(.s ((x1 (Int.toNat (x4 xJ.toNat 0).int) 0).str)),(.i .i64 ((x1 (Int.toNat (x4 xJ.toNat 0).int) 1).int)),(.i .i64 ((x1 (Int.toNat (x4 xJ.toNat 0).int) 2).int)),(.s ((x1 (Int.toNat (x4 xJ.toNat 0).int) 3).str)),(.s ((x1 (Int.toNat (x4 xJ.toNat 0).int) 4).str)),(.i .i64 ((x1 (Int.toNat (x4 xJ.toNat 0).int) 5).int)),(.ro false (.pr (.int .i64) (.pr (.int .i64) .nil)) ((x1 (Int.toNat (x4 xJ.toNat 0).int) 6).len) ((x1 (Int.toNat (x4 xJ.toNat 0).int) 6).el)),(.ro false (.pr (.sl (.pr (.int .i64) (.pr (.int .i64) .nil))) .nil) ((x1 (Int.toNat (x4 xJ.toNat 0).int) 7).len) ((x1 (Int.toNat (x4 xJ.toNat 0).int) 7).el)),(.s ((x1 (Int.toNat (x4 xJ.toNat 0).int) 8).str)),(.i .i64 ((x1 (Int.toNat (x4 xJ.toNat 0).int) 9).int)),(.i .i64 ((x1 (Int.toNat (x4 xJ.toNat 0).int) 10).int)),(.i .i64 ((x1 (Int.toNat (x4 xJ.toNat 0).int) 11).int)),(.i .i64 ((x1 (Int.toNat (x4 xJ.toNat 0).int) 12).int)),(.i .i64 ((x1 (Int.toNat (x4 xJ.toNat 0).int) 13).int)),(.i .i64 ((x1 (Int.toNat (x4 xJ.toNat 0).int) 14).int)),(.i .i64 ((x1 (Int.toNat (x4 xJ.toNat 0).int) 15).int)),(.i .i64 ((x1 (Int.toNat (x4 xJ.toNat 0).int) 16).int)),(.i .i64 ((x1 (Int.toNat (x4 xJ.toNat 0).int) 17).int))]) ((xM (0+(Int.toNat (x4 xJ.toNat 0).int)) 0).int) ((xM (0+(Int.toNat (x4 xJ.toNat 0).int)) 1).int) (bits .and .i64 (x2 / 2 ^ (Int.toNat (x4 xJ.toNat 0).int)) 1)) fun xO=>(bif ((!xO.2.2.2.2.2)==false) then (bif (inb (x4 xJ.toNat 0).int xC) then (ob (BW u xG xH 0 (fun _ _=>.any) ((xM (0+(Int.toNat (x4 xJ.toNat 0).int)) 0).int) ((xM (0+(Int.toNat (x4 xJ.toNat 0).int)) 1).int) xN.1 xN.2 x5) fun xP=>(bif (!xP) then k0 else (bif (inb (x4 xJ.toNat 0).int xC) then (lE u x0 x1 x2 x3 x4 x5 x6 x7 x8 x9 xA xB xC xD xE xF xG xH xI m (w64 (xJ+1)) xM (cm xL (0+(Int.toNat (x4 xJ.toNat 0).int)) 0 5 (au [(.s xO.1),(.i .i64 xO.2.1),(.i .i64 xO.2.2.1),(.i .i64 xO.2.2.2.1),(.b xO.2.2.2.2.1)])) k0 k1) else none))) else none) else k0)) else none) else none)) else none))) else none) else none) else none) else (k1 xL))
theorem Im:∀ (m:Nat) (x0:Int) (x1 x2:FF) (k0:Option ρ) (k1:FF->Option ρ),ob (lE u n0 f0 i0 n1 f1 i1 i2 i3 n2 f2 n3 f3 n4 w0 w1 i4 i5 i6 w2 m x0 x1 x2 k0 k1) ng=lE u n0 f0 i0 n1 f1 i1 i2 i3 n2 f2 n3 f3 n4 w0 w1 i4 i5 i6 w2 m x0 x1 x2 (ob k0 ng) (fun x3=>ob (k1 x3) ng)
 | 0,_,_,_,_,_=>rfl
 | m+1,x0,x1,x2,k0,k1=>by
  simp only [lE,ak,aw,af,Im m,Io]
theorem VJ :
  am (eB Cc (C92 u) u) vO (m+1) (Dx n0 n1 n2 n3 n4 f0 f1 f2 f3 f4 f5 i0 i1 i2 i3 i7 i4 i5 i6 w0 w1 w2) k =
  (bif (decide (i7<i2)) then (bif (inb i7 n1) then (bif (decide (0<=(f1 i7.toNat 0).int)&&decide ((f1 i7.toNat 0).int<=64)) then (bif (inb (f1 i7.toNat 0).int n4) then (am (eB lV (C92 u) u) jl u (mD n0 n1 n2 n3 n4 f0 f1 f2 f3 (cm f4 (0+(Int.toNat (f1 i7.toNat 0).int)) 0 2 (au [(vi i1),(vi i1)])) f5 i0 i1 i2 i3 i7 (f1 i7.toNat 0).int (bits .and .i64 (i0 / 2 ^ (Int.toNat (f1 i7.toNat 0).int)) 1) 0 i4 i5 i6 w0 w1 w2) (aA 2 (aI (C92 u) u (23::24::25::(rl 61 95 [])) PU (aA 1 (aI (C92 u) u (12::13::(rl 21 9 (rl 47 152 []))) PT (aN (eB Cc (C92 u) u) vO m k)))))) else none) else none) else none) else (k (.exit 0) (Lw n4 f5))):=by kernel_rfl
theorem Wu :
  (aA 2 (aI (C92 u) u (23::24::25::(rl 61 95 [])) PU (aA 1 (aI (C92 u) u (12::13::(rl 21 9 (rl 47 152 []))) PT (aN (eB Cc (C92 u) u) vO m k))))) (.exit 2) (Gd n0 n1 n2 n3 n4 f0 f1 f2 f3 f4 f5 i0 i1 i2 i3 i4 (f1 i4.toNat 0).int (bits .and .i64 (i0 / 2 ^ (Int.toNat (f1 i4.toNat 0).int)) 1) i5 i6 i7 w0 w1 w2) =
  (bif (inb (f1 i4.toNat 0).int n0) then (ob (s9 u (au [(.s ((f0 (Int.toNat (f1 i4.toNat 0).int) 0).str)),(vi ((f0 (Int.toNat (f1 i4.toNat 0).int) 1).int)),(vi ((f0 (Int.toNat (f1 i4.toNat 0).int) 2).int)),(.s ((f0 (Int.toNat (f1 i4.toNat 0).int) 3).str)),(.s ((f0 (Int.toNat (f1 i4.toNat 0).int) 4).str)),(vi ((f0 (Int.toNat (f1 i4.toNat 0).int) 5).int)),(ro kP ((f0 (Int.toNat (f1 i4.toNat 0).int) 6).len) ((f0 (Int.toNat (f1 i4.toNat 0).int) 6).el)),(ro kF ((f0 (Int.toNat (f1 i4.toNat 0).int) 7).len) ((f0 (Int.toNat (f1 i4.toNat 0).int) 7).el)),(.s ((f0 (Int.toNat (f1 i4.toNat 0).int) 8).str)),(vi ((f0 (Int.toNat (f1 i4.toNat 0).int) 9).int)),(vi ((f0 (Int.toNat (f1 i4.toNat 0).int) 10).int)),(vi ((f0 (Int.toNat (f1 i4.toNat 0).int) 11).int)),(vi ((f0 (Int.toNat (f1 i4.toNat 0).int) 12).int)),(vi ((f0 (Int.toNat (f1 i4.toNat 0).int) 13).int)),(vi ((f0 (Int.toNat (f1 i4.toNat 0).int) 14).int)),(vi ((f0 (Int.toNat (f1 i4.toNat 0).int) 15).int)),(vi ((f0 (Int.toNat (f1 i4.toNat 0).int) 16).int)),(vi ((f0 (Int.toNat (f1 i4.toNat 0).int) 17).int))]) (bits .and .i64 (i0 / 2 ^ (Int.toNat (f1 i4.toNat 0).int)) 1)) fun x0=>(bif (inb (f1 i4.toNat 0).int n0) then (bif (inb (f1 i4.toNat 0).int n4) then (ob (G9 u (au [(.s ((f0 (Int.toNat (f1 i4.toNat 0).int) 0).str)),(vi ((f0 (Int.toNat (f1 i4.toNat 0).int) 1).int)),(vi ((f0 (Int.toNat (f1 i4.toNat 0).int) 2).int)),(.s ((f0 (Int.toNat (f1 i4.toNat 0).int) 3).str)),(.s ((f0 (Int.toNat (f1 i4.toNat 0).int) 4).str)),(vi ((f0 (Int.toNat (f1 i4.toNat 0).int) 5).int)),(ro kP ((f0 (Int.toNat (f1 i4.toNat 0).int) 6).len) ((f0 (Int.toNat (f1 i4.toNat 0).int) 6).el)),(ro kF ((f0 (Int.toNat (f1 i4.toNat 0).int) 7).len) ((f0 (Int.toNat (f1 i4.toNat 0).int) 7).el)),(.s ((f0 (Int.toNat (f1 i4.toNat 0).int) 8).str)),(vi ((f0 (Int.toNat (f1 i4.toNat 0).int) 9).int)),(vi ((f0 (Int.toNat (f1 i4.toNat 0).int) 10).int)),(vi ((f0 (Int.toNat (f1 i4.toNat 0).int) 11).int)),(vi ((f0 (Int.toNat (f1 i4.toNat 0).int) 12).int)),(vi ((f0 (Int.toNat (f1 i4.toNat 0).int) 13).int)),(vi ((f0 (Int.toNat (f1 i4.toNat 0).int) 14).int)),(vi ((f0 (Int.toNat (f1 i4.toNat 0).int) 15).int)),(vi ((f0 (Int.toNat (f1 i4.toNat 0).int) 16).int)),(vi ((f0 (Int.toNat (f1 i4.toNat 0).int) 17).int))]) ((f4 (0+(Int.toNat (f1 i4.toNat 0).int)) 0).int) ((f4 (0+(Int.toNat (f1 i4.toNat 0).int)) 1).int) (bits .and .i64 (i0 / 2 ^ (Int.toNat (f1 i4.toNat 0).int)) 1)) fun x1=>(bif ((!x1.2.2.2.2.2)==false) then (bif (inb (f1 i4.toNat 0).int n4) then (ob (BW u i6 i7 0 aR ((f4 (0+(Int.toNat (f1 i4.toNat 0).int)) 0).int) ((f4 (0+(Int.toNat (f1 i4.toNat 0).int)) 1).int) x0.1 x0.2 i1) fun x2=>(bif (!x2) then (k .ret Gb) else (bif (inb (f1 i4.toNat 0).int n4) then (am (eB Cc (C92 u) u) vO m (Dx n0 n1 n2 n3 n4 f0 f1 f2 f3 f4 (cm f5 (0+(Int.toNat (f1 i4.toNat 0).int)) 0 5 (au [(.s x1.1),(vi x1.2.1),(vi x1.2.2.1),(vi x1.2.2.2.1),(.b x1.2.2.2.2.1)])) i0 i1 i2 i3 (w64 (i4+1)) i5 i6 i7 w0 w1 w2) k) else none))) else none) else (k .ret Gb))) else none) else none)) else none):=by kernel_rfl
theorem Mm:∀ (m:Nat) (x0:Int) (x1 x2:FF),
  am (eB Cc (C92 u) u) vO m (Dx n0 n1 n2 n3 n4 f0 f1 f2 f3 x1 x2 i0 i1 i2 i3 x0 i4 i5 i6 w0 w1 w2) k=lE u n0 f0 i0 n1 f1 i1 i2 i3 n2 f2 n3 f3 n4 w0 w1 i4 i5 i6 w2 m x0 x1 x2 (k .ret Gb) (fun x3=>k (.exit 0) (Lw n4 x3))
 | 0,_,_,_=>rfl
 | m+1,x0,x1,x2=>by
  rw [VJ]
  simp only [lE,Mm m,Mn,Wu]
def FQ (x0 x1:ByteArray) (x2 x3 x4:Int) (x5:ByteArray) (x6:Nat) (x7:FF) (x8:Int) (x9:Nat) (xA:FF) (xB:Nat) (xC:FF) (xD:Int):Option (Bool × Nat × FF × Bool) :=
 (ob (AG u x9 xA) fun xE=>(ob (AG u xB xC) fun xF=>(bif (decide (0<=(Int.ofNat x6))&&decide ((Int.ofNat x6)<=(Int.ofNat x6))&&decide ((Int.ofNat x6)<=1073741824)&&true) then (bif (decide (0<=(Int.ofNat x6))&&decide ((Int.ofNat x6)<=(Int.ofNat x6))&&decide ((Int.ofNat x6)<=1073741824)&&true) then (lE u x6 x7 x8 xB xC xD (Int.ofNat x6) (if 1>xD then 1 else xD) xE.1 xE.2 xF.1 xF.2 (Int.toNat (Int.ofNat x6)) x0 x1 x2 x3 x4 x5 u 0 (fun _ j=>au [(.i .i64 0),(.i .i64 0)] j) (fun _ j=>au [(.s ByteArray.empty),(.i .i64 0),(.i .i64 0),(.i .i64 0),(.b false)] j)
  (some (true,0,(fun _ _=>.any),false))
  (fun xG=>(some (false,(Int.toNat (Int.ofNat x6)),xG,true)))) else none) else none)))
theorem aa2:aD (C92 u) u A36 [.agg [(.s w0),(.s w1),(vi i0),(vi i1),(vi i2),(.s w2)],.v (ro kA n0 f0),.v (vi i3),.v (ro kD n1 f1),.v (ro kD n2 f2),.v (vi i4)]=ob (FQ u w0 w1 i0 i1 i2 w2 n0 f0 i3 n1 f1 n2 f2 i4) fun t=>some (bif t.1 then [.v (.ro true .nil 0 aR),.v (.b false)] else [.v (ro kB t.2.1 t.2.2.1),.v (.b true)]):=Eq.trans (b:=(ob (AG u n1 f1) fun x0=>(ob (AG u n2 f2) fun x1=>(bif (decide (0<=(Int.ofNat n0))&&decide ((Int.ofNat n0)<=(Int.ofNat n0))&&decide ((Int.ofNat n0)<=1073741824)&&true) then (bif (decide (0<=(Int.ofNat n0))&&decide ((Int.ofNat n0)<=(Int.ofNat n0))&&decide ((Int.ofNat n0)<=1073741824)&&true) then (am (eB Cc (C92 u) u) vO u (Dx n0 n2 x0.1 x1.1 (Int.toNat (Int.ofNat n0)) f0 f2 x0.2 x1.2 (fun _ j=>au [(vi 0),(vi 0)] j) (fun _ j=>au [(.s ByteArray.empty),(vi 0),(vi 0),(vi 0),(.b false)] j) i3 i4 (Int.ofNat n0) (if 1>i4 then 1 else i4) 0 i0 i1 i2 w0 w1 w2) (aA 0 (aI (C92 u) u (12::13::(rl 20 10 (rl 42 157 []))) PV (aH A36)))) else none) else none)))) (by kernel_rfl) (by
 simp only [FQ,ak,aw,af,aa,Im,Mm,cond_true,cond_false]<;>kernel_rfl)
def Cq (x0 x1:ByteArray) (x2 x3 x4:Int) (x5:ByteArray) (x6:Nat) (x7:FF) (x8:Int) (x9:Nat) (xA:FF) (xB:Nat) (xC:FF) (xD:Int):Option (Nat × FF × Bool):=ob (FQ u x0 x1 x2 x3 x4 x5 x6 x7 x8 x9 xA xB xC xD) fun t=>some (bif t.1 then (0,(fun _ _=>.any),false) else (t.2.1,t.2.2.1,true))
def YV:Ora:=mkO (qc (ag (tc cS (tc cS (tc ci (tc ci (tc ci (t1 cS))))))) (qc (av (cL kA)) (qc (av ci) (qc (av (cL kD)) (qc (av (cL kD)) (q1 (av ci))))))) (fun x=>Cq u x.1.1 x.1.2.1 x.1.2.2.1 x.1.2.2.2.1 x.1.2.2.2.2.1 x.1.2.2.2.2.2 x.2.1.1 x.2.1.2 x.2.2.1 x.2.2.2.1.1 x.2.2.2.1.2 x.2.2.2.2.1.1 x.2.2.2.2.1.2 x.2.2.2.2.2) fun t=>[.v (ro kB t.1 t.2.1),.v (.b t.2.2)]
theorem abF:DO (YV u) (C92 u) 36 A36:=dW u (fun x=>by exact aa2 u x.2.1.1 x.2.2.2.1.1 x.2.2.2.2.1.1 x.2.1.2 x.2.2.2.1.2 x.2.2.2.2.1.2 x.1.2.2.1 x.1.2.2.2.1 x.1.2.2.2.2.1 x.2.2.1 x.2.2.2.2.2 x.1.1 x.1.2.1 x.1.2.2.2.2.2) (fun _=>rfl) fun t=>by
 obtain ⟨b,t⟩:=t
 cases b with
 | true=>exact (.cons (WkA.v (Wk.ro (by rfl))) (.cons (WkA.v (Wk.refl _)) .nil))
 | false =>
  exact (.cons (WkA.v (Wk.refl _)) (.cons (WkA.v (Wk.refl _)) .nil))
def C93:ao:=(C92 u).add 36 (fun _=>true) (YV u)
def B60:An tT Tryz.f60 [.k [2,6,7,8],.k (0::1::(rl 3 22 [])),.k (5::(rl 11 13 [])),.h [],.k (0::1::2::(rl 6 19 [])),.k (rl 11 4 []),.k (0::1::2::(rl 4 21 [])),.k (0::1::(rl 3 22 []))]:=by
 apply Subtype.mk;cbv<;>exact rfl
def A60:AF:=B60.1
def Ua:AC:=sA A60.body [1,1]
def ZS:AC:=sA Ua [1,1,1]
def Ub:AC:=sA Ua [1,1,0,1,0,0]
def TK:St->Option St:=nN 1 (0::1::2::(rl 6 19 []))
def Sd:St:=⟨(us 3 (vxi i0::.x (.c (ro kF n0 f0))::vxi i1::(us 19 []))),[.box [(.c (ro kP n1 f1)),(.c (ro kF n2 f2))]]⟩
def XI:St:=⟨(us 3 (vxi i0::(us 21 []))),[.box [(.c (ro kP n0 f0)),(.c (ro kF n1 f1))]]⟩
def vm {ρ:Type} (u:Nat) (x0:Nat) (x1:FF) (x2:Nat) (x3:FF) (x4:Nat) (x5:FF):Nat->Int->Int->(Int->Option ρ)->Option ρ
 | 0,_,_,_=>none
 | m+1,x6,x7,k0 =>
  (bif (decide (x7<(Int.ofNat x0))) then (bif (inb x7 x0) then (ob (F38 u (x1 x7.toNat 0).len (x1 x7.toNat 0).el) fun x8=>(vm u x0 x1 x2 x3 x4 x5 m (w64 (x6+x8)) (w64 (x7+1)) k0)) else none) else (k0 x6))
theorem NP:∀ (m:Nat) (x0 x1:Int) (k0:Int->Option ρ),ob (vm u n0 f0 n1 f1 n2 f2 m x0 x1 k0) ng=vm u n0 f0 n1 f1 n2 f2 m x0 x1 (fun x2=>ob (k0 x2) ng)
 | 0,_,_,_=>rfl
 | m+1,x0,x1,k0=>by
  simp only [vm,ak,aw,af,NP m]
theorem SW:∀ (m:Nat) (x0 x1:Int),
  am (eB Ub (C93 u) u) TK m (Sd n0 n1 n2 f0 f1 f2 x0 x1) k=vm u n0 f0 n1 f1 n2 f2 m x0 x1 (fun x2=>k (.exit 0) (XI n1 n2 f1 f2 x2))
 | 0,_,_=>rfl
 | m+1,x0,x1=>by
  simp only [vm,<- SW m]
  kernel_rfl
def F19 (x0:Nat) (x1:FF) (x2:Nat) (x3:FF):Option (Int) :=
 (ob (F14 u x0 x1 x2 x3) fun x4=>(bif (x4 != 0) then (some 0) else (ob (F44 u x0 x1 x2 x3) fun x5=>(vm u x5.1 x5.2 x0 x1 x2 x3 u 0 0
  (fun x6=>(some x6))))))
theorem e19:aD (C93 u) u A60 [.agg [(ro kP n0 f0),(ro kF n1 f1)]]=ob (F19 u n0 f0 n1 f1) fun t=>some [.v (vi t)]:=Eq.trans (b:=(ob (F14 u n0 f0 n1 f1) fun x0=>(bif (x0 != 0) then (some [.v (vi 0)]) else (ob (F44 u n0 f0 n1 f1) fun x1=>(am (eB Ub (C93 u) u) TK u (Sd x1.1 n0 n1 x1.2 f0 f1 0 0) (aA 0 (aI (C93 u) u (5::(rl 11 13 [])) ZS (aH A60)))))))) (by kernel_rfl) (by
 simp only [F19,ak,aw,af,aa,NP,SW]<;>kernel_rfl)
def O19:Ora:=mkO (q1 (ag (tc (cL kP) (t1 (cL kF))))) (fun x=>F19 u x.1.1 x.1.2 x.2.1 x.2.2) fun t=>[.v (vi t)]
theorem d19:DO (O19 u) (C93 u) 60 A60:=dO u (fun x=>by exact e19 u x.1.1 x.2.1 x.1.2 x.2.2)
def C94:ao:=(C93 u).add 60 (fun _=>true) (O19 u)
def B37:An tT Tryz.f37 [.k (4::(rl 8 4 [])),.k (rl 0 4 (rl 5 33 [])),.k (6::7::(rl 12 25 [])),.h [],.k (0::3::4::(rl 7 31 [])),.k (rl 12 5 []),.k (rl 0 5 (rl 6 32 [])),.k (7::(rl 19 18 [])),.k (rl 0 4 (rl 5 33 []))]:=by
 apply Subtype.mk;cbv<;>exact rfl
def A37:AF:=B37.1
def Uu:AC:=sA A37.body [1,1]
def aab:AC:=sA Uu [1,1]
def Uv:AC:=sA Uu [1,0,1,0,0]
def Pm:St->Option St:=nN 1 (0::3::4::(rl 7 31 []))
def Mc:St:=⟨(.u::.x (.c (ro kA n0 f0))::.x (.ptr 0 0)::.u::.u::vxi i0::vxi i1::(us 31 [])),[.box [(vcs w0),(vci i2),(.c (ro kB n1 f1))]]⟩
def VD:St:=⟨(us 5 (vxi i0::(us 32 []))),[.box [(vcs w0),(vci i1),(.c (ro kB n0 f0))]]⟩
def mg {ρ:Type} (u:Nat) (x0:Nat) (x1:FF) (x2:ByteArray) (x3:Int) (x4:Nat) (x5:FF):Nat->Int->Int->(Int->Option ρ)->Option ρ
 | 0,_,_,_=>none
 | m+1,x6,x7,k0 =>
  (bif (decide (x7<(Int.ofNat x4))) then (bif (inb x7 x4) then (ob (FX u x0 x1 (x5 x7.toNat 0).str) fun x8=>(bif (decide (x8>=0)) then (bif (inb x8 x0) then (ob (F19 u (x1 x8.toNat 6).len (x1 x8.toNat 6).el (x1 x8.toNat 7).len (x1 x8.toNat 7).el) fun x9=>(mg u x0 x1 x2 x3 x4 x5 m (w64 (x6+x9)) (w64 (x7+1)) k0)) else none) else (mg u x0 x1 x2 x3 x4 x5 m x6 (w64 (x7+1)) k0))) else none) else (k0 x6))
theorem IV:∀ (m:Nat) (x0 x1:Int) (k0:Int->Option ρ),ob (mg u n0 f0 w0 i0 n1 f1 m x0 x1 k0) ng=mg u n0 f0 w0 i0 n1 f1 m x0 x1 (fun x2=>ob (k0 x2) ng)
 | 0,_,_,_=>rfl
 | m+1,x0,x1,k0=>by
  simp only [mg,ak,aw,af,IV m]
theorem MP:∀ (m:Nat) (x0 x1:Int),
  am (eB Uv (C94 u) u) Pm m (Mc n0 n1 f0 f1 x0 x1 i0 w0) k=mg u n0 f0 w0 i0 n1 f1 m x0 x1 (fun x2=>k (.exit 0) (VD n1 f1 x2 i0 w0))
 | 0,_,_=>rfl
 | m+1,x0,x1=>by
  simp only [mg,<- MP m]
  kernel_rfl
def Hh (x0:ByteArray) (x1:Int) (x2:Nat) (x3:FF) (x4:Nat) (x5:FF):Option (Int) :=
 (bif (decide ((Int.ofNat x2)>32)) then (some 0) else (mg u x4 x5 x0 x1 x2 x3 u 0 0
  (fun x6=>(some x6))))
theorem abt:aD (C94 u) u A37 [.agg [(.s w0),(vi i0),(ro kB n0 f0)],.v (ro kA n1 f1)]=ob (Hh u w0 i0 n0 f0 n1 f1) fun t=>some [.v (vi t)]:=Eq.trans (b:=(bif (decide ((Int.ofNat n0)>32)) then (some [.v (vi 0)]) else (am (eB Uv (C94 u) u) Pm u (Mc n1 n0 f1 f0 0 0 i0 w0) (aA 0 (aI (C94 u) u (6::7::(rl 12 25 [])) aab (aH A37)))))) (by kernel_rfl) (by
 simp only [Hh,ak,aw,af,aa,IV,MP]<;>kernel_rfl)
def Zm:Ora:=mkO (qc (ag (tc cS (tc ci (t1 (cL kB))))) (q1 (av (cL kA)))) (fun x=>Hh u x.1.1 x.1.2.1 x.1.2.2.1 x.1.2.2.2 x.2.1 x.2.2) fun t=>[.v (vi t)]
theorem ab6:DO (Zm u) (C94 u) 37 A37:=dO u (fun x=>by exact abt u x.1.2.2.1 x.2.1 x.1.2.2.2 x.2.2 x.1.2.1 x.1.1)
def C95:ao:=(C94 u).add 37 (fun _=>true) (Zm u)
def aat:AC:=(.region 15 [mv 59 14,o1 60 (bk .add 3 59 1),o1 14 (sg 60)] 0 none)
def aas:AC:=(.seq (.block 3
 (.seq (.region 16 [mv 61 12,mv 62 14,o1 63 (bt .shr 3 61 62),o1 64 (bk .and 3 63 1),o1 65 (bk .eql 3 64 1)] 0 none) []
  (.cond (tm 65)
  (.region 17 [mv 66 13,mv 67 10,mv 68 14,o1 69 (.indexAddr 24 58 18 (tm 67) (tm 68)),o1 70 (ln 58 18 69),o1 71 (.buildSlice 0 24 58 kA 1 [vcs ByteArray.empty,vci 0,vci 0,vcs ByteArray.empty,vcs ByteArray.empty,vci 0,.c (.ro true kP 0 aR),.c (.ro true kF 0 aR),vcs ByteArray.empty,vci 0,vci 0,vci 0,vci 0,vci 0,vci 0,vci 0,vci 0,vci 0] [(0,(tm 70))]),o1 72 (.append 1 24 58 kA 208 (tm 66) (tm 71)),o1 13 (sg 72)] 2 none)
  .skip))) (rl 61 12 [])
 aat)
def P5:AC:=(.seq (.seq (.region 14 [mv 55 14,mv 56 10,o1 57 (.len 24 false (tm 56)),o1 58 (bt .lss 3 55 57)] 0 none) []
 (.cond (tm 58)
 .skip
 (.ghost [2] (.exit 2 (0::3::5::6::7::9::(rl 14 114 [])))))) (rl 55 4 [])
 aas)
def aar:AC:=(.region 27 [mv 93 18,o1 94 (bk .add 3 93 1),o1 18 (sg 94)] 0 none)
def aaq:AC:=(.seq (.block 9
 (.seq (.ghost [4] (.region 28 [o1 96 (ln 23 6 4),mv 97 13,mv 98 16,mv 99 15,mv 100 17,o1 101 (.indexAddr 84 79 1 (tm 99) (tm 100)),o1 102 (lo 79 101),mv 103 15,mv 104 18,o1 105 (.indexAddr 84 79 1 (tm 103) (tm 104)),o1 106 (lo 79 105),mv 107 2,o1 108 (cf 36 [96,97,98,102,106,107] [23,24,3,79,79,3]),mv 95 108,o1 109 (.extract (tm 95) 0),o1 110 (.extract (tm 95) 1),o1 19 (sg 109),o1 20 (sg 110)] 0 (some [[],[],[],[],[],[3,4],[3,4,5],[],[],[7,8],[7,8,9],[],(rl 0 12 []),(rl 0 13 []),(rl 0 14 []),(rl 0 14 []),(rl 0 15 []),(rl 0 17 [])]))) []
  (.seq (.region 29 [o1 111 (fa 23 4 0 0),o1 112 (lo 9 111),mv 113 2,mv 114 19,o1 115 (.build 30 [vcs ByteArray.empty,vci 0,.c (.ro true kB 0 aR)] [(0,1),(1,1),(2,1)] 0 [(0,(tm 112)),(1,(tm 113)),(2,(tm 114))]),o1 21 (.alloc 0 30 [vcs ByteArray.empty,vci 0,vcn]),o0 (.store 30 3 (tm 21) (tm 115))] 1 none) []
  (.seq (.region 30 [mv 116 20,mv 117 116,og 118 (ln 30 3 21) 117 true,og 119 (.move (tm 1)) 117 true,og 120 (cs 37 [118,119] [30,24]) 117 true,og 121 (ln 30 3 11) 117 true,og 122 (.move (tm 1)) 117 true,og 123 (cs 37 [121,122] [30,24]) 117 true,og 124 (bt .gtr 3 120 123) 117 true,o1 125 (po 117 124)] 0 (some [[],[0],[0,1],[0,1],(rl 0 4 []),[0,1],[0,1],(rl 0 7 []),(rl 0 8 []),(rl 0 9 [])])) []
  (.cond (tm 125)
  (.region 31 [o1 126 (ln 30 3 21),o0 (.store 30 3 (tm 11) (tm 126))] 0 none)
  .skip))))) (19::20::21::(rl 95 32 []))
 aar)
def P4:AC:=(.seq (.seq (.region 26 [mv 89 18,mv 90 15,o1 91 (.len 84 false (tm 90)),o1 92 (bt .lss 3 89 91)] 0 none) []
 (.cond (tm 92)
 .skip
 (.ghost [2] (.exit 8 (0::3::5::6::7::9::14::(rl 18 110 [])))))) (rl 89 4 [])
 aaq)
def P3:AC:=(.region 24 [mv 87 17,o1 88 (bk .add 3 87 1),o1 17 (sg 88)] 0 none)
def aap:AC:=(.seq (.block 7
 (.seq (.region 25 [o1 18 (sk 0)] 0 none) []
  (.block 8
  (.ghost [2,4] (.loop [] (0::3::5::6::7::9::14::(rl 19 109 []))
   P4))))) (rl 18 4 (rl 89 38 []))
 P3)
def Cg:AC:=(.seq (.seq (.region 23 [mv 83 17,mv 84 15,o1 85 (.len 84 false (tm 84)),o1 86 (bt .lss 3 83 85)] 0 none) []
 (.cond (tm 86)
 .skip
 (.ghost [2] (.exit 6 (0::3::5::6::7::9::14::(rl 17 111 [])))))) (rl 83 4 [])
 aap)
def Hm:AC:=(.region 21 [mv 81 16,o1 82 (bk .add 3 81 1),o1 16 (sg 82)] 0 none)
def Xb:AC:=(.seq (.block 5
 (.seq (.region 22 [o1 17 (sk 0)] 0 none) []
  (.block 6
  (.ghost [2,4] (.loop [] (0::3::5::6::7::9::14::(rl 18 110 []))
   Cg))))) (rl 17 5 (rl 83 44 []))
 Hm)
def tu:AC:=(.seq (.seq (.region 20 [mv 76 16,mv 77 13,o1 78 (.len 24 false (tm 77)),o1 79 (.binOp .shl 3 (ic 1) (tm 78) 3),o1 80 (bt .lss 3 76 79)] 0 none) []
 (.cond (tm 80)
 .skip
 (.ghost [2] (.exit 4 (0::3::5::6::7::9::(rl 13 115 [])))))) (rl 76 5 [])
 Xb)
def Hl:AC:=(.seq (.region 18 [mv 73 13,o1 74 (.len 24 false (tm 73)),o1 75 (cf 35 [74] [3]),o1 15 (sg 75)] 0 none) []
 (.seq (.region 19 [o1 16 (sk 0)] 0 none) []
 (.block 4
 (.ghost [2,4] (.loop [] (0::3::5::6::7::9::14::(rl 17 111 []))
  tu)))))
def Ch:AC:=(.region 11 [mv 53 12,o1 54 (bk .add 3 53 1),o1 12 (sg 54)] 0 none)
def Xa:AC:=(.seq (.block 1
 (.seq (.region 12 [o1 13 (.assign (.const (.slice none 0 0)))] 0 none) []
  (.seq (.seq (.region 13 [o1 14 (sk 0)] 0 none) []
  (.block 2
  (.ghost [2] (.loop [.slot 13 kA] (0::3::5::6::7::9::(rl 15 113 []))
   P5)))) (14::(rl 55 18 []))
  Hl))) (rl 13 9 (rl 55 72 []))
 Ch)
def oa:AC:=(.seq (.seq (.region 10 [mv 48 12,mv 49 10,o1 50 (.len 24 false (tm 49)),o1 51 (.binOp .shl 3 (ic 1) (tm 50) 3),o1 52 (bt .lss 3 48 51)] 0 none) []
 (.cond (tm 52)
 .skip
 (.ghost [0,2] (.exit 0 (rl 0 8 (9::10::(rl 12 116 []))))))) (rl 48 5 [])
 Xa)
def P6:AC:=(.seq (.region 32 [o1 127 (ln 30 3 11),o0 (.store 30 3 (tm 8) (tm 127)),o1 9 (sk 0)] 0 none) []
 (.ghost [0,2,3] (.ret (rl 0 8 (rl 10 118 [])))))
def W9:AC:=(.seq (.region 8 [o1 44 (fa 23 4 0 0),o1 45 (lo 9 44),mv 46 2,o1 47 (.build 30 [vcs ByteArray.empty,vci 0,.c (.ro true kB 0 aR)] [(0,1),(1,1),(2,1)] 0 [(0,(tm 45)),(1,(tm 46))]),o1 11 (.alloc 0 30 [vcs ByteArray.empty,vci 0,vcn]),o0 (.store 30 3 (tm 11) (tm 47))] 1 none) []
 (.seq (.seq (.region 9 [o1 12 (sk 0)] 0 none) []
 (.block 0
 (.ghost [2] (.loop [] (0::3::5::6::7::9::(rl 13 115 []))
  oa)))) (rl 12 10 (rl 48 79 []))
 P6))
def W8:AC:=(.seq (.seq (.region 6 [mv 36 3,o1 37 (.buildSlice 0 79 3 kD 5 [vci 0] [(0,(ic 1)),(1,(ic 3)),(2,(ic 21)),(3,(ic 343)),(4,(ic 10473))]),mv 38 10,o1 39 (.len 24 false (tm 38)),o1 40 (.indexAddr 79 3 1 (tm 37) (tm 39)),o1 41 (lo 3 40),o1 42 (bt .lss 3 36 41)] 1 none) []
 (.cond (tm 42)
 (.seq (.region 7 [o1 43 (.build 30 [vcs ByteArray.empty,vci 0,.c (.ro true kB 0 aR)] [(0,1),(1,1),(2,1)] 0 []),o0 (.store 30 3 (tm 8) (tm 43)),o1 9 (sk 29)] 0 none) []
  (.ghost [0,2] (.ret (rl 0 8 (rl 10 118 [])))))
 .skip)) (9::(rl 36 8 []))
 W9)
def W7:AC:=(.seq (.region 3 [o1 29 (ln 23 6 4),mv 30 1,o1 31 (cf 27 [29,30] [23,24]),o1 10 (sg 31)] 0 none) []
 (.seq (.seq (.region 4 [mv 32 10,o1 33 (.len 24 false (tm 32)),o1 34 (bk .gtr 3 33 4)] 0 none) []
 (.cond (tm 34)
 (.seq (.region 5 [o1 35 (.build 30 [vcs ByteArray.empty,vci 0,.c (.ro true kB 0 aR)] [(0,1),(1,1),(2,1)] 0 []),o0 (.store 30 3 (tm 8) (tm 35)),o1 9 (sk 4)] 0 none) []
  (.ghost [0] (.ret (rl 0 8 (rl 10 118 [])))))
 .skip)) (9::(rl 32 4 []))
 W8))
def A13:AF:=⟨128,[.cell 8 30 (some 3),.tmp 9],
 (.seq (.region 0 [o1 4 (bx 0 23 0),o1 8 (.alloc 1 30 [vcs ByteArray.empty,vci 0,vcn]),o1 9 (sk 0)] 2 none) []
 (.seq (.seq (.region 1 [mv 22 2,o1 23 (bk .lss 3 22 0),mv 24 23,og 25 (.move (tm 2)) 24 false,og 26 (bk .gtr 3 25 500) 24 false,o1 27 (pa 24 26)] 0 none) []
 (.cond (tm 27)
 (.seq (.region 2 [o1 28 (.build 30 [vcs ByteArray.empty,vci 0,.c (.ro true kB 0 aR)] [(0,1),(1,1),(2,1)] 0 []),o0 (.store 30 3 (tm 8) (tm 28)),o1 9 (sk 9)] 0 none) []
  (.ghost [0] (.ret (rl 0 8 (rl 10 118 [])))))
 .skip)) (9::(rl 22 7 []))
 W7))⟩
def O0:St->Option St:=nN 5 (0::3::5::6::7::9::(rl 15 113 []))
def Lv:St:=⟨(.u::.x (.c (ro kA n0 f0))::vxi i0::.u::.x (.ptr 0 0)::(us 3 (.x (.ptr 1 0)::.u::.x (.c (ro kA n1 f1))::.x (.ptr 3 0)::vxi i1::.x (.own 4 0 n2)::vxi i2::(us 113 [])))),[.box [(vcs w0),(vcs w1),(vci i3),(vci i4),(vci i5),(vcs w2)],.box [(vcs ByteArray.empty),(vci 0),(vcn)],.dead,.box [(vcs w0),(vci i0),(.c (.ro b0 kB n3 f2))],.arr kA n2 f3]⟩
def Lu:St:=⟨(.u::.x (.c (ro kA n0 f0))::vxi i0::.u::.x (.ptr 0 0)::(us 3 (.x (.ptr 1 0)::.u::.x (.c (ro kA n1 f1))::.x (.ptr 3 0)::vxi i1::.x (.own 4 0 n2)::(us 114 [])))),[.box [(vcs w0),(vcs w1),(vci i2),(vci i3),(vci i4),(vcs w2)],.box [(vcs ByteArray.empty),(vci 0),(vcn)],.dead,.box [(vcs w0),(vci i0),(.c (.ro b0 kB n3 f2))],.arr kA n2 f3]⟩
def jQ {ρ:Type} (u:Nat) (x0:Nat) (x1:FF) (x2:Int) (x3:Nat) (x4:FF) (x5:Int) (x6 x7:ByteArray) (x8 x9 xA:Int) (xB:ByteArray) (xC:Bool) (xD:Nat) (xE:FF):Nat->Nat->Int->FF->(Nat->FF->Option ρ)->Option ρ
 | 0,_,_,_,_=>none
 | m+1,xF,xG,xH,k0 =>
  (bif (decide (xG<(Int.ofNat x3))) then (bif (decide (0<=xG)&&decide (xG<=64)) then (bif ((bits .and .i64 (x5 / 2 ^ xG.toNat) 1)==1) then (bif (inb xG x3) then (bif (Nat.ble (xF+1) 1073741824) then (jQ u x0 x1 x2 x3 x4 x5 x6 x7 x8 x9 xA xB xC xD xE m (xF+1) (w64 (xG+1)) (aB xF xH (aG 18 [(.s (x4 xG.toNat 0).str),(.i .i64 (x4 xG.toNat 1).int),(.i .i64 (x4 xG.toNat 2).int),(.s (x4 xG.toNat 3).str),(.s (x4 xG.toNat 4).str),(.i .i64 (x4 xG.toNat 5).int),(.ro false (.pr (.int .i64) (.pr (.int .i64) .nil)) (x4 xG.toNat 6).len (x4 xG.toNat 6).el),(.ro false (.pr (.sl (.pr (.int .i64) (.pr (.int .i64) .nil))) .nil) (x4 xG.toNat 7).len (x4 xG.toNat 7).el),(.s (x4 xG.toNat 8).str),(.i .i64 (x4 xG.toNat 9).int),(.i .i64 (x4 xG.toNat 10).int),(.i .i64 (x4 xG.toNat 11).int),(.i .i64 (x4 xG.toNat 12).int),(.i .i64 (x4 xG.toNat 13).int),(.i .i64 (x4 xG.toNat 14).int),(.i .i64 (x4 xG.toNat 15).int),(.i .i64 (x4 xG.toNat 16).int),(.i .i64 (x4 xG.toNat 17).int)])) k0) else none) else none) else (jQ u x0 x1 x2 x3 x4 x5 x6 x7 x8 x9 xA xB xC xD xE m xF (w64 (xG+1)) xH k0)) else none) else (k0 xF xH))
theorem Il:∀ (m:Nat) (x0:Nat) (x1:Int) (x2:FF) (k0:Nat->FF->Option ρ),ob (jQ u n0 f0 i0 n1 f1 i1 w0 w1 i2 i3 i4 w2 b0 n2 f2 m x0 x1 x2 k0) ng=jQ u n0 f0 i0 n1 f1 i1 w0 w1 i2 i3 i4 w2 b0 n2 f2 m x0 x1 x2 (fun x3 x4=>ob (k0 x3 x4) ng)
 | 0,_,_,_,_=>rfl
 | m+1,x0,x1,x2,k0=>by
  simp only [jQ,ak,aw,af,Il m]
theorem Ml:∀ (m:Nat) (x0:Nat) (x1:Int) (x2:FF),
  am (eB P5 (C95 u) u) O0 m (Lv n0 n1 x0 n2 f0 f1 f2 x2 i0 i1 x1 i2 i3 i4 b0 w0 w1 w2) k=jQ u n0 f0 i0 n1 f1 i1 w0 w1 i2 i3 i4 w2 b0 n2 f2 m x0 x1 x2 (fun x3 x4=>k (.exit 2) (Lu n0 n1 x3 n2 f0 f1 f2 x4 i0 i1 i2 i3 i4 b0 w0 w1 w2))
 | 0,_,_,_=>rfl
 | m+1,x0,x1,x2=>by
  simp only [jQ,<- Ml m]
  kernel_rfl
def Jn:St->Option St:=nN 5 (0::3::5::6::7::9::14::(rl 19 109 []))
def Lt:St:=⟨(.u::.x (.c (ro kA n0 f0))::vxi i0::.u::.x (.ptr 0 0)::(us 3 (.x (.ptr 1 0)::.u::.x (.c (ro kA n1 f1))::.x (.ptr 3 0)::vxi i1::.x (.c (ro kA n2 f2))::.u::.x (.c (ro kC n3 f3))::vxi i2::vxi i3::vxi i4::(us 109 [])))),[.box [(vcs w0),(vcs w1),(vci i5),(vci i6),(vci i7),(vcs w2)],.box [(vcs ByteArray.empty),(vci 0),(vcn)],.dead,.box [(vcs w0),(vci i0),(.c (.ro b0 kB n4 f4))],.dead]⟩
def Ls:St:=⟨(.u::.x (.c (ro kA n0 f0))::vxi i0::.u::.x (.ptr 0 0)::(us 3 (.x (.ptr 1 0)::.u::.x (.c (ro kA n1 f1))::.x (.ptr 3 0)::vxi i1::.x (.c (ro kA n2 f2))::.u::.x (.c (ro kC n3 f3))::vxi i2::vxi i3::(us 110 [])))),[.box [(vcs w0),(vcs w1),(vci i4),(vci i5),(vci i6),(vcs w2)],.box [(vcs ByteArray.empty),(vci 0),(vcn)],.dead,.box [(vcs w0),(vci i0),(.c (.ro b0 kB n4 f4))],.dead]⟩
def dA {ρ:Type} (u:Nat) (x0:Nat) (x1:FF) (x2:Int) (x3:Nat) (x4:FF) (x5:Int) (x6:Nat) (x7:FF) (x8:Nat) (x9:FF) (xA xB:Int) (xC xD:ByteArray) (xE xF xG:Int) (xH:ByteArray):Nat->Int->Bool->Nat->FF->(Bool->Nat->FF->Option ρ)->Option ρ
 | 0,_,_,_,_,_=>none
 | m+1,xI,xJ,xK,xL,k0 =>
  (bif (decide (xI<(Int.ofNat x8))) then (bif (inb xB x8) then (bif (inb xI x8) then (ob (Cq u xC xD xE xF xG xH x6 x7 xA (x9 xB.toNat 0).len (x9 xB.toNat 0).el (x9 xI.toNat 0).len (x9 xI.toNat 0).el x2) fun xM=>(bif (xM.2.2==true) then (ob (Hh u xC x2 xM.1 xM.2.1 x0 x1) fun xN=>(ob (Hh u xC x2 xK xL x0 x1) fun xO=>(bif (decide (xN>xO)) then (dA u x0 x1 x2 x3 x4 x5 x6 x7 x8 x9 xA xB xC xD xE xF xG xH m (w64 (xI+1)) false xM.1 xM.2.1 k0) else (dA u x0 x1 x2 x3 x4 x5 x6 x7 x8 x9 xA xB xC xD xE xF xG xH m (w64 (xI+1)) xJ xK xL k0)))) else (dA u x0 x1 x2 x3 x4 x5 x6 x7 x8 x9 xA xB xC xD xE xF xG xH m (w64 (xI+1)) xJ xK xL k0))) else none) else none) else (k0 xJ xK xL))
theorem EQ:∀ (m:Nat) (x0:Int) (x1:Bool) (x2:Nat) (x3:FF) (k0:Bool->Nat->FF->Option ρ),ob (dA u n0 f0 i0 n1 f1 i1 n2 f2 n3 f3 i2 i3 w0 w1 i4 i5 i6 w2 m x0 x1 x2 x3 k0) ng=dA u n0 f0 i0 n1 f1 i1 n2 f2 n3 f3 i2 i3 w0 w1 i4 i5 i6 w2 m x0 x1 x2 x3 (fun x4 x5 x6=>ob (k0 x4 x5 x6) ng)
 | 0,_,_,_,_,_=>rfl
 | m+1,x0,x1,x2,x3,k0=>by
  simp only [dA,ak,aw,af,EQ m]
theorem H5:∀ (m:Nat) (x0:Int) (x1:Bool) (x2:Nat) (x3:FF),
  am (eB P4 (C95 u) u) Jn m (Lt n0 n1 n2 n3 x2 f0 f1 f2 f3 x3 i0 i1 i2 i3 x0 i4 i5 i6 x1 w0 w1 w2) k=dA u n0 f0 i0 n1 f1 i1 n2 f2 n3 f3 i2 i3 w0 w1 i4 i5 i6 w2 m x0 x1 x2 x3 (fun x4 x5 x6=>k (.exit 8) (Ls n0 n1 n2 n3 x5 f0 f1 f2 f3 x6 i0 i1 i2 i3 i4 i5 i6 x4 w0 w1 w2))
 | 0,_,_,_,_=>rfl
 | m+1,x0,x1,x2,x3=>by
  simp only [dA,<- H5 m]
  kernel_rfl
def rA:St->Option St:=nN 5 (0::3::5::6::7::9::14::(rl 18 110 []))
def Dw:St:=⟨(.u::.x (.c (ro kA n0 f0))::vxi i0::.u::.x (.ptr 0 0)::(us 3 (.x (.ptr 1 0)::.u::.x (.c (ro kA n1 f1))::.x (.ptr 3 0)::vxi i1::.x (.c (ro kA n2 f2))::.u::.x (.c (ro kC n3 f3))::vxi i2::vxi i3::(us 110 [])))),[.box [(vcs w0),(vcs w1),(vci i4),(vci i5),(vci i6),(vcs w2)],.box [(vcs ByteArray.empty),(vci 0),(vcn)],.dead,.box [(vcs w0),(vci i0),(.c (.ro b0 kB n4 f4))],.dead]⟩
def Ga:St:=⟨(.u::.x (.c (ro kA n0 f0))::vxi i0::.u::.x (.ptr 0 0)::(us 3 (.x (.ptr 1 0)::.u::.x (.c (ro kA n1 f1))::.x (.ptr 3 0)::vxi i1::.x (.c (ro kA n2 f2))::.u::.x (.c (ro kC n3 f3))::vxi i2::(us 111 [])))),[.box [(vcs w0),(vcs w1),(vci i3),(vci i4),(vci i5),(vcs w2)],.box [(vcs ByteArray.empty),(vci 0),(vcn)],.dead,.box [(vcs w0),(vci i0),(.c (.ro b0 kB n4 f4))],.dead]⟩
def jG {ρ:Type} (u:Nat) (x0:Nat) (x1:FF) (x2:Int) (x3:Nat) (x4:FF) (x5:Int) (x6:Nat) (x7:FF) (x8:Nat) (x9:FF) (xA:Int) (xB xC:ByteArray) (xD xE xF:Int) (xG:ByteArray):Nat->Int->Bool->Nat->FF->(Bool->Nat->FF->Option ρ)->Option ρ
 | 0,_,_,_,_,_=>none
 | m+1,xH,xI,xJ,xK,k0 =>
  (bif (decide (xH<(Int.ofNat x8))) then (dA u x0 x1 x2 x3 x4 x5 x6 x7 x8 x9 xA xH xB xC xD xE xF xG u 0 xI xJ xK
  (fun xL xM xN=>(jG u x0 x1 x2 x3 x4 x5 x6 x7 x8 x9 xA xB xC xD xE xF xG m (w64 (xH+1)) xL xM xN k0))) else (k0 xI xJ xK))
theorem EP:∀ (m:Nat) (x0:Int) (x1:Bool) (x2:Nat) (x3:FF) (k0:Bool->Nat->FF->Option ρ),ob (jG u n0 f0 i0 n1 f1 i1 n2 f2 n3 f3 i2 w0 w1 i3 i4 i5 w2 m x0 x1 x2 x3 k0) ng=jG u n0 f0 i0 n1 f1 i1 n2 f2 n3 f3 i2 w0 w1 i3 i4 i5 w2 m x0 x1 x2 x3 (fun x4 x5 x6=>ob (k0 x4 x5 x6) ng)
 | 0,_,_,_,_,_=>rfl
 | m+1,x0,x1,x2,x3,k0=>by
  simp only [jG,ak,aw,af,EP m,EQ]
theorem Qw :
  am (eB Cg (C95 u) u) rA (m+1) (Dw n0 n1 n2 n3 n4 f0 f1 f2 f3 f4 i0 i1 i2 i6 i3 i4 i5 b0 w0 w1 w2) k =
  (bif (decide (i6<(Int.ofNat n3))) then (am (eB P4 (C95 u) u) Jn u (Lt n0 n1 n2 n3 n4 f0 f1 f2 f3 f4 i0 i1 i2 i6 0 i3 i4 i5 b0 w0 w1 w2) (aA 8 (aA 7 (aI (C95 u) u (rl 18 4 (rl 89 38 [])) P3 (aN (eB Cg (C95 u) u) rA m k))))) else (k (.exit 6) (Ga n0 n1 n2 n3 n4 f0 f1 f2 f3 f4 i0 i1 i2 i3 i4 i5 b0 w0 w1 w2))):=by kernel_rfl
theorem Wt :
  (aA 8 (aA 7 (aI (C95 u) u (rl 18 4 (rl 89 38 [])) P3 (aN (eB Cg (C95 u) u) rA m k)))) (.exit 8) (Ls n0 n1 n2 n3 n4 f0 f1 f2 f3 f4 i0 i1 i2 i3 i4 i5 i6 b0 w0 w1 w2) =
  (am (eB Cg (C95 u) u) rA m (Dw n0 n1 n2 n3 n4 f0 f1 f2 f3 f4 i0 i1 i2 (w64 (i3+1)) i4 i5 i6 b0 w0 w1 w2) k):=by kernel_rfl
theorem H4:∀ (m:Nat) (x0:Int) (x1:Bool) (x2:Nat) (x3:FF),
  am (eB Cg (C95 u) u) rA m (Dw n0 n1 n2 n3 x2 f0 f1 f2 f3 x3 i0 i1 i2 x0 i3 i4 i5 x1 w0 w1 w2) k=jG u n0 f0 i0 n1 f1 i1 n2 f2 n3 f3 i2 w0 w1 i3 i4 i5 w2 m x0 x1 x2 x3 (fun x4 x5 x6=>k (.exit 6) (Ga n0 n1 n2 n3 x5 f0 f1 f2 f3 x6 i0 i1 i2 i3 i4 i5 x4 w0 w1 w2))
 | 0,_,_,_,_=>rfl
 | m+1,x0,x1,x2,x3=>by
  rw [Qw]
  simp only [jG,H4 m,H5,Wt]
def rz:St->Option St:=nN 5 (0::3::5::6::7::9::14::(rl 17 111 []))
def Dv:St:=⟨(.u::.x (.c (ro kA n0 f0))::vxi i0::.u::.x (.ptr 0 0)::(us 3 (.x (.ptr 1 0)::.u::.x (.c (ro kA n1 f1))::.x (.ptr 3 0)::vxi i1::.x (.c (ro kA n2 f2))::.u::.x (.c (ro kC n3 f3))::vxi i2::(us 111 [])))),[.box [(vcs w0),(vcs w1),(vci i3),(vci i4),(vci i5),(vcs w2)],.box [(vcs ByteArray.empty),(vci 0),(vcn)],.dead,.box [(vcs w0),(vci i0),(.c (.ro b0 kB n4 f4))],.dead]⟩
def F9:St:=⟨(.u::.x (.c (ro kA n0 f0))::vxi i0::.u::.x (.ptr 0 0)::(us 3 (.x (.ptr 1 0)::.u::.x (.c (ro kA n1 f1))::.x (.ptr 3 0)::vxi i1::(us 115 [])))),[.box [(vcs w0),(vcs w1),(vci i2),(vci i3),(vci i4),(vcs w2)],.box [(vcs ByteArray.empty),(vci 0),(vcn)],.dead,.box [(vcs w0),(vci i0),(.c (.ro b0 kB n2 f2))],.dead]⟩
def jF {ρ:Type} (u:Nat) (x0:Nat) (x1:FF) (x2:Int) (x3:Nat) (x4:FF) (x5:Int) (x6:Nat) (x7:FF) (x8:Nat) (x9:FF) (xA xB:ByteArray) (xC xD xE:Int) (xF:ByteArray):Nat->Int->Bool->Nat->FF->(Bool->Nat->FF->Option ρ)->Option ρ
 | 0,_,_,_,_,_=>none
 | m+1,xG,xH,xI,xJ,k0 =>
  (bif (decide (0<=(Int.ofNat x6))&&decide ((Int.ofNat x6)<=64)) then (bif (decide (xG<(w64 (1*2 ^ (Int.toNat (Int.ofNat x6)))))) then (jG u x0 x1 x2 x3 x4 x5 x6 x7 x8 x9 xG xA xB xC xD xE xF u 0 xH xI xJ
  (fun xK xL xM=>(jF u x0 x1 x2 x3 x4 x5 x6 x7 x8 x9 xA xB xC xD xE xF m (w64 (xG+1)) xK xL xM k0))) else (k0 xH xI xJ)) else none)
theorem EO:∀ (m:Nat) (x0:Int) (x1:Bool) (x2:Nat) (x3:FF) (k0:Bool->Nat->FF->Option ρ),ob (jF u n0 f0 i0 n1 f1 i1 n2 f2 n3 f3 w0 w1 i2 i3 i4 w2 m x0 x1 x2 x3 k0) ng=jF u n0 f0 i0 n1 f1 i1 n2 f2 n3 f3 w0 w1 i2 i3 i4 w2 m x0 x1 x2 x3 (fun x4 x5 x6=>ob (k0 x4 x5 x6) ng)
 | 0,_,_,_,_,_=>rfl
 | m+1,x0,x1,x2,x3,k0=>by
  simp only [jF,ak,aw,af,EO m,EP]
theorem Qv :
  am (eB tu (C95 u) u) rz (m+1) (Dv n0 n1 n2 n3 n4 f0 f1 f2 f3 f4 i0 i1 i5 i2 i3 i4 b0 w0 w1 w2) k =
  (bif (decide (0<=(Int.ofNat n2))&&decide ((Int.ofNat n2)<=64)) then (bif (decide (i5<(w64 (1*2 ^ (Int.toNat (Int.ofNat n2)))))) then (am (eB Cg (C95 u) u) rA u (Dw n0 n1 n2 n3 n4 f0 f1 f2 f3 f4 i0 i1 i5 0 i2 i3 i4 b0 w0 w1 w2) (aA 6 (aA 5 (aI (C95 u) u (rl 17 5 (rl 83 44 [])) Hm (aN (eB tu (C95 u) u) rz m k))))) else (k (.exit 4) (F9 n0 n1 n4 f0 f1 f4 i0 i1 i2 i3 i4 b0 w0 w1 w2))) else none):=by kernel_rfl
theorem Ws :
  (aA 6 (aA 5 (aI (C95 u) u (rl 17 5 (rl 83 44 [])) Hm (aN (eB tu (C95 u) u) rz m k)))) (.exit 6) (Ga n0 n1 n2 n3 n4 f0 f1 f2 f3 f4 i0 i1 i2 i3 i4 i5 b0 w0 w1 w2) =
  (am (eB tu (C95 u) u) rz m (Dv n0 n1 n2 n3 n4 f0 f1 f2 f3 f4 i0 i1 (w64 (i2+1)) i3 i4 i5 b0 w0 w1 w2) k):=by kernel_rfl
theorem H3:∀ (m:Nat) (x0:Int) (x1:Bool) (x2:Nat) (x3:FF),
  am (eB tu (C95 u) u) rz m (Dv n0 n1 n2 n3 x2 f0 f1 f2 f3 x3 i0 i1 x0 i2 i3 i4 x1 w0 w1 w2) k=jF u n0 f0 i0 n1 f1 i1 n2 f2 n3 f3 w0 w1 i2 i3 i4 w2 m x0 x1 x2 x3 (fun x4 x5 x6=>k (.exit 4) (F9 n0 n1 x5 f0 f1 x6 i0 i1 i2 i3 i4 x4 w0 w1 w2))
 | 0,_,_,_,_=>rfl
 | m+1,x0,x1,x2,x3=>by
  rw [Qv]
  simp only [jF,H3 m,H4,Ws]
def lT:St->Option St:=nN 4 (0::3::5::6::7::9::(rl 13 115 []))
def Du:St:=⟨(.u::.x (.c (ro kA n0 f0))::vxi i0::.u::.x (.ptr 0 0)::(us 3 (.x (.ptr 1 0)::.u::.x (.c (ro kA n1 f1))::.x (.ptr 3 0)::vxi i1::(us 115 [])))),[.box [(vcs w0),(vcs w1),(vci i2),(vci i3),(vci i4),(vcs w2)],.box [(vcs ByteArray.empty),(vci 0),(vcn)],.dead,.box [(vcs w0),(vci i0),(.c (.ro b0 kB n2 f2))]]⟩
def Lr:St:=⟨(us 8 (.x (.ptr 1 0)::.u::.u::.x (.ptr 3 0)::(us 116 []))),[.dead,.box [(vcs ByteArray.empty),(vci 0),(vcn)],.dead,.box [(vcs w0),(vci i0),(.c (.ro b0 kB n0 f0))]]⟩
def jm {ρ:Type} (u:Nat) (x0:Nat) (x1:FF) (x2:Int) (x3:Nat) (x4:FF) (x5 x6:ByteArray) (x7 x8 x9:Int) (xA:ByteArray):Nat->Int->Bool->Nat->FF->(Bool->Nat->FF->Option ρ)->Option ρ
 | 0,_,_,_,_,_=>none
 | m+1,xB,xC,xD,xE,k0 =>
  (bif (decide (0<=(Int.ofNat x3))&&decide ((Int.ofNat x3)<=64)) then (bif (decide (xB<(w64 (1*2 ^ (Int.toNat (Int.ofNat x3)))))) then (jQ u x0 x1 x2 x3 x4 xB x5 x6 x7 x8 x9 xA xC xD xE u 0 0 (fun _ _=>.any)
  (fun xF xG=>(ob (At u (Int.ofNat xF)) fun xH=>(jF u x0 x1 x2 x3 x4 xB xF xG xH.1 xH.2 x5 x6 x7 x8 x9 xA u 0 xC xD xE
  (fun xI xJ xK=>(jm u x0 x1 x2 x3 x4 x5 x6 x7 x8 x9 xA m (w64 (xB+1)) xI xJ xK k0)))))) else (k0 xC xD xE)) else none)
theorem EN:∀ (m:Nat) (x0:Int) (x1:Bool) (x2:Nat) (x3:FF) (k0:Bool->Nat->FF->Option ρ),ob (jm u n0 f0 i0 n1 f1 w0 w1 i1 i2 i3 w2 m x0 x1 x2 x3 k0) ng=jm u n0 f0 i0 n1 f1 w0 w1 i1 i2 i3 w2 m x0 x1 x2 x3 (fun x4 x5 x6=>ob (k0 x4 x5 x6) ng)
 | 0,_,_,_,_,_=>rfl
 | m+1,x0,x1,x2,x3,k0=>by
  simp only [jm,ak,aw,af,EN m,Il,EO]
theorem Qu :
  am (eB oa (C95 u) u) lT (m+1) (Du n0 n1 n2 f0 f1 f2 i0 i4 i1 i2 i3 b0 w0 w1 w2) k =
  (bif (decide (0<=(Int.ofNat n1))&&decide ((Int.ofNat n1)<=64)) then (bif (decide (i4<(w64 (1*2 ^ (Int.toNat (Int.ofNat n1)))))) then (am (eB P5 (C95 u) u) O0 u (Lv n0 n1 0 n2 f0 f1 f2 aR i0 i4 0 i1 i2 i3 b0 w0 w1 w2) (aA 2 (aI (C95 u) u (14::(rl 55 18 [])) Hl (aA 1 (aI (C95 u) u (rl 13 9 (rl 55 72 [])) Ch (aN (eB oa (C95 u) u) lT m k)))))) else (k (.exit 0) (Lr n2 f2 i0 b0 w0))) else none):=by kernel_rfl
theorem Wr :
  (aA 2 (aI (C95 u) u (14::(rl 55 18 [])) Hl (aA 1 (aI (C95 u) u (rl 13 9 (rl 55 72 [])) Ch (aN (eB oa (C95 u) u) lT m k))))) (.exit 2) (Lu n0 n1 n2 n3 f0 f1 f2 f3 i0 i1 i2 i3 i4 b0 w0 w1 w2) =
  (ob (At u (Int.ofNat n2)) fun x0=>(am (eB tu (C95 u) u) rz u (Dv n0 n1 n2 x0.1 n3 f0 f1 f3 x0.2 f2 i0 i1 0 i2 i3 i4 b0 w0 w1 w2) (aA 4 (aA 1 (aI (C95 u) u (rl 13 9 (rl 55 72 [])) Ch (aN (eB oa (C95 u) u) lT m k)))))):=by kernel_rfl
theorem Wq :
  (aA 4 (aA 1 (aI (C95 u) u (rl 13 9 (rl 55 72 [])) Ch (aN (eB oa (C95 u) u) lT m k)))) (.exit 4) (F9 n0 n1 n2 f0 f1 f2 i0 i1 i2 i3 i4 b0 w0 w1 w2) =
  (am (eB oa (C95 u) u) lT m (Du n0 n1 n2 f0 f1 f2 i0 (w64 (i1+1)) i2 i3 i4 b0 w0 w1 w2) k):=by kernel_rfl
theorem H0:∀ (m:Nat) (x0:Int) (x1:Bool) (x2:Nat) (x3:FF),
  am (eB oa (C95 u) u) lT m (Du n0 n1 x2 f0 f1 x3 i0 x0 i1 i2 i3 x1 w0 w1 w2) k=jm u n0 f0 i0 n1 f1 w0 w1 i1 i2 i3 w2 m x0 x1 x2 x3 (fun x4 x5 x6=>k (.exit 0) (Lr x5 x6 i0 x4 w0))
 | 0,_,_,_,_=>rfl
 | m+1,x0,x1,x2,x3=>by
  rw [Qu]
  simp only [jm,H0 m,Ml,Wr,H3,Wq]
def BU (x0 x1:ByteArray) (x2 x3 x4:Int) (x5:ByteArray) (x6:Nat) (x7:FF) (x8 x9:Int):Option (Bool × ByteArray × Int × Nat × FF × Int × Bool) :=
 (bif ((decide (x8<0))==false) then (bif (decide (x8>500)) then (some (true,ByteArray.empty,0,0,(fun _ _=>.any),9,false)) else (ob (Cr u x0 x1 x2 x3 x4 x5 x6 x7) fun xA=>(bif (decide ((Int.ofNat xA.1)>4)) then (some (true,ByteArray.empty,0,0,(fun _ _=>.any),4,false)) else (bif (inb (Int.ofNat xA.1) 5) then (bif (decide (x9<(((aG 1 [(.i .i64 1),(.i .i64 3),(.i .i64 21),(.i .i64 343),(.i .i64 10473)]) (0+(Int.toNat (Int.ofNat xA.1))) 0).int))) then (some (true,ByteArray.empty,0,0,(fun _ _=>.any),29,false)) else (jm u x6 x7 x8 xA.1 xA.2 x0 x1 x2 x3 x4 x5 u 0 true 0 (fun _ _=>.any)
  (fun xB xC xD=>(some (false,x0,x8,xC,xD,0,xB))))) else none)))) else (some (true,ByteArray.empty,0,0,(fun _ _=>.any),9,false)))
theorem aa1:aD (C95 u) u A13 [.agg [(.s w0),(.s w1),(vi i0),(vi i1),(vi i2),(.s w2)],.v (ro kA n0 f0),.v (vi i3),.v (vi i4)]=ob (BU u w0 w1 i0 i1 i2 w2 n0 f0 i3 i4) fun t=>some (bif t.1 then [.agg [(.s ByteArray.empty),(vi 0),(.ro true kB 0 aR)],.v (vi t.2.2.2.2.2.1)] else [.agg [(.s t.2.1),(vi t.2.2.1),(.ro t.2.2.2.2.2.2 kB t.2.2.2.1 t.2.2.2.2.1)],.v (vi 0)]):=Eq.trans (b:=(bif ((decide (i3<0))==false) then (bif (decide (i3>500)) then (some [.agg [(.s ByteArray.empty),(vi 0),(.ro true kB 0 aR)],.v (vi 9)]) else (ob (Cr u w0 w1 i0 i1 i2 w2 n0 f0) fun x0=>(bif (decide ((Int.ofNat x0.1)>4)) then (some [.agg [(.s ByteArray.empty),(vi 0),(.ro true kB 0 aR)],.v (vi 4)]) else (bif (inb (Int.ofNat x0.1) 5) then (bif (decide (i4<(((aG 1 [(vi 1),(vi 3),(vi 21),(vi 343),(vi 10473)]) (0+(Int.toNat (Int.ofNat x0.1))) 0).int))) then (some [.agg [(.s ByteArray.empty),(vi 0),(.ro true kB 0 aR)],.v (vi 29)]) else (am (eB oa (C95 u) u) lT u (Du n0 x0.1 0 f0 x0.2 aR i3 0 i0 i1 i2 true w0 w1 w2) (aA 0 (aI (C95 u) u (rl 12 10 (rl 48 79 [])) P6 (aH A13))))) else none)))) else (some [.agg [(.s ByteArray.empty),(vi 0),(.ro true kB 0 aR)],.v (vi 9)]))) (by kernel_rfl) (by
 simp only [BU,ak,aw,af,aa,EN,H0,cond_true,cond_false]<;>kernel_rfl)
def BV (x0 x1:ByteArray) (x2 x3 x4:Int) (x5:ByteArray) (x6:Nat) (x7:FF) (x8 x9:Int):Option (ByteArray × Int × Nat × FF × Int):=ob (BU u x0 x1 x2 x3 x4 x5 x6 x7 x8 x9) fun t=>some (bif t.1 then (ByteArray.empty,0,0,(fun _ _=>.any),t.2.2.2.2.2.1) else (t.2.1,t.2.2.1,t.2.2.2.1,t.2.2.2.2.1,0))
def YU:Ora:=mkO (qc (ag (tc cS (tc cS (tc ci (tc ci (tc ci (t1 cS))))))) (qc (av (cL kA)) (qc (av ci) (q1 (av ci))))) (fun x=>BV u x.1.1 x.1.2.1 x.1.2.2.1 x.1.2.2.2.1 x.1.2.2.2.2.1 x.1.2.2.2.2.2 x.2.1.1 x.2.1.2 x.2.2.1 x.2.2.2) fun t=>[.agg [(.s t.1),(vi t.2.1),(ro kB t.2.2.1 t.2.2.2.1)],.v (vi t.2.2.2.2)]
theorem abE:DO (YU u) (C95 u) 13 A13:=dW u (fun x=>by exact aa1 u x.2.1.1 x.2.1.2 x.1.2.2.1 x.1.2.2.2.1 x.1.2.2.2.2.1 x.2.2.1 x.2.2.2 x.1.1 x.1.2.1 x.1.2.2.2.2.2) (fun _=>rfl) fun t=>by
 obtain ⟨b,t⟩:=t
 cases b with
 | true=>exact (.cons (WkA.agg (.cons (Wk.refl _) (.cons (Wk.refl _) (.cons (Wk.ro (by rfl)) .nil)))) (.cons (WkA.v (Wk.refl _)) .nil))
 | false =>
  exact (.cons (WkA.agg (.cons (Wk.refl _) (.cons (Wk.refl _) (.cons (Wk.ro (by rfl)) .nil)))) (.cons (WkA.v (Wk.refl _)) .nil))
def C96:ao:=(C95 u).add 13 (fun _=>true) (YU u)
def B14:An tT Tryz.f14 [.k (6::(rl 8 8 (rl 19 87 []))),.h [.slot 8 kE],.k (0::1::2::5::6::(rl 10 96 [])),.k (rl 19 5 []),.g [0,1,2],.k (rl 0 106 []),.k (6::(rl 10 6 (rl 26 80 []))),.k (6::(rl 35 22 [])),.g (rl 0 4 []),.k (rl 0 6 (rl 7 99 [])),.k (6::12::(rl 57 14 [])),.h [],.k (0::1::2::5::6::(rl 13 93 [])),.k [57,58,59],.k (0::1::2::5::6::(rl 12 94 [])),.k (6::(rl 62 9 [])),.g (rl 0 4 []),.k (rl 0 6 (rl 7 99 [])),.k (6::(rl 89 13 [])),.g (rl 0 5 []),.k (rl 0 6 (rl 7 99 [])),.g [0,1,2],.k (rl 0 6 (rl 7 99 []))]:=by
 apply Subtype.mk;cbv<;>exact rfl
def A14:AF:=B14.1
def W6:AC:=sA A14.body [1,1,1,1]
def Cf:AC:=sA A14.body [1,1,1,0,1,0,0]
def UP:AC:=sA Cf [1]
def UQ:AC:=sA UP [1]
def UR:AC:=sA UP [0,0,1,1,1]
def US:AC:=sA UR [1]
def UT:AC:=sA UR [0,1,0,0]
def O2:St->Option St:=nN 4 (0::1::2::5::6::(rl 13 93 []))
def LC:St:=⟨(us 3 (.x (.ptr 0 0)::.x (.ptr 1 0)::.u::.u::.x (.c (ro kA n0 f0))::.x (.own 2 0 n1)::vxi i0::.x (.ptr 3 0)::vxi i1::vxi i2::(us 93 []))),[.box [(vcs w0),(vci i3),(.c (ro kB n2 f1))],.box [(vcs w1),(vcs w2),(vci i4),(vci i5),(vci i6),(vcs w3)],.arr kE n1 f2,.box [(vcs w4),(vci i7),(vci i8),(vci i9),(vcb b0)]]⟩
def sw:St:=⟨(us 6 (vxb false::(us 99 []))),[.dead,.dead,.dead,.dead]⟩
def LB:St:=⟨(us 3 (.x (.ptr 0 0)::.x (.ptr 1 0)::.u::.u::.x (.c (ro kA n0 f0))::.x (.own 2 0 n1)::vxi i0::.x (.ptr 3 0)::vxi i1::(us 94 []))),[.box [(vcs w0),(vci i2),(.c (ro kB n2 f1))],.box [(vcs w1),(vcs w2),(vci i3),(vci i4),(vci i5),(vcs w3)],.arr kE n1 f2,.box [(vcs w4),(vci i6),(vci i7),(vci i8),(vcb b0)]]⟩
def l8 {ρ:Type} (u:Nat) (x0:Nat) (x1:FF) (x2:Nat) (x3 x4:Int) (x5:ByteArray) (x6:Int) (x7:Nat) (x8:FF) (x9 xA:ByteArray) (xB xC xD:Int) (xE:ByteArray) (xF:FF) (xG:ByteArray) (xH xI xJ:Int) (xK:Bool):Nat->Int->(Option ρ)->(Option ρ)->Option ρ
 | 0,_,_,_=>none
 | m+1,xL,k0,k1 =>
  (bif (decide (xL<x3)) then (bif (inb xL x7) then (bif (ByteArray.toList (x8 xL.toNat 0).str==ByteArray.toList xG) then k0 else (l8 u x0 x1 x2 x3 x4 x5 x6 x7 x8 x9 xA xB xC xD xE xF xG xH xI xJ xK m (w64 (xL+1)) k0 k1)) else none) else k1)
theorem Ir:∀ (m:Nat) (x0:Int) (k0:Option ρ) (k1:Option ρ),ob (l8 u n0 f0 n1 i0 i1 w0 i2 n2 f1 w1 w2 i3 i4 i5 w3 f2 w4 i6 i7 i8 b0 m x0 k0 k1) ng=l8 u n0 f0 n1 i0 i1 w0 i2 n2 f1 w1 w2 i3 i4 i5 w3 f2 w4 i6 i7 i8 b0 m x0 (ob k0 ng) (ob k1 ng)
 | 0,_,_,_=>rfl
 | m+1,x0,k0,k1=>by
  simp only [l8,ak,aw,af,Ir m]
theorem Mq:∀ (m:Nat) (x0:Int),
  am (eB UT (C96 u) u) O2 m (LC n0 n1 n2 f0 f1 f2 i0 i1 x0 i2 i3 i4 i5 i6 i7 i8 b0 w0 w1 w2 w3 w4) k=l8 u n0 f0 n1 i0 i1 w0 i2 n2 f1 w1 w2 i3 i4 i5 w3 f2 w4 i6 i7 i8 b0 m x0 (k .ret sw) (k (.exit 2) (LB n0 n1 n2 f0 f1 f2 i0 i1 i2 i3 i4 i5 i6 i7 i8 b0 w0 w1 w2 w3 w4))
 | 0,_=>rfl
 | m+1,x0=>by
  simp only [l8,<- Mq m]
  kernel_rfl
def vP:St->Option St:=nN 3 (0::1::2::5::6::(rl 10 96 []))
def Dy:St:=⟨(us 3 (.x (.ptr 0 0)::.x (.ptr 1 0)::.u::.u::.x (.c (ro kA n0 f0))::.x (.own 2 0 n1)::vxi i0::(us 96 []))),[.box [(vcs w0),(vci i1),(.c (ro kB n2 f1))],.box [(vcs w1),(vcs w2),(vci i2),(vci i3),(vci i4),(vcs w3)],.arr kE n1 f2]⟩
def LA:St:=⟨(us 6 (vxb false::(us 99 []))),[.dead,.dead,.dead,.dead,.dead]⟩
def Lz:St:=⟨(us 106 []),[.dead,.dead,.dead]⟩
def jB {ρ:Type} (u:Nat) (x0:Nat) (x1:FF) (x2:ByteArray) (x3:Int) (x4:Nat) (x5:FF) (x6 x7:ByteArray) (x8 x9 xA:Int) (xB:ByteArray):Nat->Nat->Int->FF->(Option ρ)->(Option ρ)->(Option ρ)->Option ρ
 | 0,_,_,_,_,_,_=>none
 | m+1,xC,xD,xE,k0,k1,k2 =>
  (bif (decide (xD<(Int.ofNat x4))) then (bif (inb xD x4) then (ob (FX u x0 x1 (x5 xD.toNat 0).str) fun xF=>(bif ((decide (xF<0))==false) then (bif ((x5 xD.toNat 4).bool==false) then (bif ((decide ((x5 xD.toNat 3).int<0))==false) then (bif ((decide ((x5 xD.toNat 3).int>1))==false) then (ob (rI u (x5 xD.toNat 1).int (x5 xD.toNat 2).int 32768) fun xG=>(bif (!xG) then k0 else (l8 u x0 x1 xC xD xF x2 x3 x4 x5 x6 x7 x8 x9 xA xB xE (x5 xD.toNat 0).str (x5 xD.toNat 1).int (x5 xD.toNat 2).int (x5 xD.toNat 3).int (x5 xD.toNat 4).bool u 0
  k0
  (bif (inb xF x0) then (ob (F26 u (x1 xF.toNat 6).len (x1 xF.toNat 6).el (x1 xF.toNat 7).len (x1 xF.toNat 7).el (x5 xD.toNat 0).str (x5 xD.toNat 1).int (x5 xD.toNat 2).int (x5 xD.toNat 3).int (x5 xD.toNat 4).bool) fun xH=>(ob (F21 u xH.1 xH.2.1 xH.2.2.1 xH.2.2.2) fun xI=>(bif (inb xF x0) then (ob (s9 u (au (pj kR0 (x1 xF.toNat))) (x5 xD.toNat 3).int) fun xJ=>(ob (BW u x9 xA xC xE xI.1 xI.2.1 xJ.1 xJ.2 x3) fun xK=>(bif (!xK) then k1 else (bif (Nat.ble (xC+1) 1073741824) then (jB u x0 x1 x2 x3 x4 x5 x6 x7 x8 x9 xA xB m (xC+1) (w64 (xD+1)) (aB xC xE (aG 4 [(.i .i64 xI.1),(.i .i64 xI.2.1),(.i .i64 xI.2.2.1),(.i .i64 xI.2.2.2)])) k0 k1 k2) else none)))) else none))) else none)))) else k0) else k0) else k0) else k0)) else none) else k2)
theorem Iq:∀ (m:Nat) (x0:Nat) (x1:Int) (x2:FF) (k0:Option ρ) (k1:Option ρ) (k2:Option ρ),ob (jB u n0 f0 w0 i0 n1 f1 w1 w2 i1 i2 i3 w3 m x0 x1 x2 k0 k1 k2) ng=jB u n0 f0 w0 i0 n1 f1 w1 w2 i1 i2 i3 w3 m x0 x1 x2 (ob k0 ng) (ob k1 ng) (ob k2 ng)
 | 0,_,_,_,_,_,_=>rfl
 | m+1,x0,x1,x2,k0,k1,k2=>by
  simp only [jB,ak,aw,af,Iq m,Ir]
theorem VL :
  am (eB Cf (C96 u) u) vP (m+1) (Dy n0 n2 n1 f0 f1 f2 i4 i0 i1 i2 i3 w0 w1 w2 w3) k =
  (bif (decide (i4<(Int.ofNat n1))) then (bif (inb i4 n1) then (ob (FX u n0 f0 (f1 i4.toNat 0).str) fun x0=>(bif ((decide (x0<0))==false) then (bif ((f1 i4.toNat 4).bool==false) then (bif ((decide ((f1 i4.toNat 3).int<0))==false) then (bif ((decide ((f1 i4.toNat 3).int>1))==false) then (ob (rI u (f1 i4.toNat 1).int (f1 i4.toNat 2).int 32768) fun x1=>(bif (!x1) then (k .ret sw) else (am (eB UT (C96 u) u) O2 u (LC n0 n2 n1 f0 f1 f2 i4 x0 0 i0 i1 i2 i3 (f1 i4.toNat 1).int (f1 i4.toNat 2).int (f1 i4.toNat 3).int (f1 i4.toNat 4).bool w0 w1 w2 w3 (f1 i4.toNat 0).str) (aA 2 (aI (C96 u) u (6::12::(rl 57 14 [])) US (aA 1 (aI (C96 u) u (6::(rl 10 6 (rl 26 80 []))) UQ (aN (eB Cf (C96 u) u) vP m k)))))))) else (k .ret sw)) else (k .ret sw)) else (k .ret sw)) else (k .ret sw))) else none) else (k (.exit 0) Lz)):=by kernel_rfl
theorem Wx :
  (aA 2 (aI (C96 u) u (6::12::(rl 57 14 [])) US (aA 1 (aI (C96 u) u (6::(rl 10 6 (rl 26 80 []))) UQ (aN (eB Cf (C96 u) u) vP m k))))) (.exit 2) (LB n0 n1 n2 f0 f1 f2 i0 i1 i2 i3 i4 i5 (f1 i0.toNat 1).int (f1 i0.toNat 2).int (f1 i0.toNat 3).int (f1 i0.toNat 4).bool w0 w1 w2 w3 (f1 i0.toNat 0).str) =
  (bif (inb i1 n0) then (ob (F26 u (f0 i1.toNat 6).len (f0 i1.toNat 6).el (f0 i1.toNat 7).len (f0 i1.toNat 7).el (f1 i0.toNat 0).str (f1 i0.toNat 1).int (f1 i0.toNat 2).int (f1 i0.toNat 3).int (f1 i0.toNat 4).bool) fun x0=>(ob (F21 u x0.1 x0.2.1 x0.2.2.1 x0.2.2.2) fun x1=>(bif (inb i1 n0) then (ob (s9 u (au (pj kR0 (f0 i1.toNat))) (f1 i0.toNat 3).int) fun x2=>(ob (BW u i4 i5 n1 f2 x1.1 x1.2.1 x2.1 x2.2 i2) fun x3=>(bif (!x3) then (k .ret LA) else (bif (Nat.ble (n1+1) 1073741824) then (am (eB Cf (C96 u) u) vP m (Dy n0 (n1+1) n2 f0 f1 (aB n1 f2 (aG 4 [(vi x1.1),(vi x1.2.1),(vi x1.2.2.1),(vi x1.2.2.2)])) (w64 (i0+1)) i2 i3 i4 i5 w0 w1 w2 w3) k) else none)))) else none))) else none):=by kernel_rfl
theorem Mp:∀ (m:Nat) (x0:Nat) (x1:Int) (x2:FF),
  am (eB Cf (C96 u) u) vP m (Dy n0 x0 n1 f0 f1 x2 x1 i0 i1 i2 i3 w0 w1 w2 w3) k=jB u n0 f0 w0 i0 n1 f1 w1 w2 i1 i2 i3 w3 m x0 x1 x2 (k .ret sw) (k .ret LA) (k (.exit 0) Lz)
 | 0,_,_,_=>rfl
 | m+1,x0,x1,x2=>by
  rw [VL]
  simp only [jB,Mp m,Mq,Wx]<;>kernel_rfl
def KN (x0:ByteArray) (x1:Int) (x2:Nat) (x3:FF) (x4 x5:ByteArray) (x6 x7 x8:Int) (x9:ByteArray) (xA:Nat) (xB:FF):Option (Bool) :=
 (ob (Cr u x4 x5 x6 x7 x8 x9 xA xB) fun xC=>(jB u xC.1 xC.2 x0 x1 x2 x3 x4 x5 x6 x7 x8 x9 u 0 0 (fun _ _=>.any)
  (some false)
  (some false)
  (some true)))
theorem aa5:aD (C96 u) u A14 [.agg [(.s w0),(vi i0),(ro kB n0 f0)],.agg [(.s w1),(.s w2),(vi i1),(vi i2),(vi i3),(.s w3)],.v (ro kA n1 f1)]=ob (KN u w0 i0 n0 f0 w1 w2 i1 i2 i3 w3 n1 f1) fun t=>some [.v (.b t)]:=Eq.trans (b:=(ob (Cr u w1 w2 i1 i2 i3 w3 n1 f1) fun x0=>(am (eB Cf (C96 u) u) vP u (Dy x0.1 0 n0 x0.2 f0 aR 0 i0 i1 i2 i3 w0 w1 w2 w3) (aA 0 (aI (C96 u) u (6::(rl 8 8 (rl 19 87 []))) W6 (aH A14)))))) (by kernel_rfl) (by
 simp only [KN,ak,aw,af,aa,Iq,Mp]<;>kernel_rfl)
def YY:Ora:=mkO (qc (ag (tc cS (tc ci (t1 (cL kB))))) (qc (ag (tc cS (tc cS (tc ci (tc ci (tc ci (t1 cS))))))) (q1 (av (cL kA))))) (fun x=>KN u x.1.1 x.1.2.1 x.1.2.2.1 x.1.2.2.2 x.2.1.1 x.2.1.2.1 x.2.1.2.2.1 x.2.1.2.2.2.1 x.2.1.2.2.2.2.1 x.2.1.2.2.2.2.2 x.2.2.1 x.2.2.2) fun t=>[.v (.b t)]
theorem abI:DO (YY u) (C96 u) 14 A14:=dO u (fun x=>by exact aa5 u x.1.2.2.1 x.2.2.1 x.1.2.2.2 x.2.2.2 x.1.2.1 x.2.1.2.2.1 x.2.1.2.2.2.1 x.2.1.2.2.2.2.1 x.1.1 x.2.1.1 x.2.1.2.1 x.2.1.2.2.2.2.2)
def C97:ao:=(C96 u).add 14 (fun _=>true) (YY u)
def B4:An tT Tryz.f4 [.k (4::(rl 9 5 [])),.g [0],.k (rl 0 4 (rl 5 83 [])),.k [4,36,37,38],.g [0,1,2],.k (rl 0 4 (rl 5 83 [])),.k (4::(rl 39 8 [])),.g [0,1,2],.k (rl 0 4 (rl 5 83 [])),.g [0,1,2],.k (rl 0 4 (rl 5 83 []))]:=by
 apply Subtype.mk;cbv<;>exact rfl
def A4:AF:=B4.1
def F421 (x0:Nat->CV) (x1:Int):Option (Bool) :=
 (ob (He u (x0 6).len (x0 6).el 7) fun x2=>(bif (!x2) then (ob (Ha u) fun x3=>(some x3)) else (ob (vU u (x0 0).str (x0 1).str (x0 2).int (x0 3).int (x0 4).int (x0 5).str (x0 6).len (x0 6).el (x0 7).int x1) fun x4=>(ob (BV u (x0 0).str (x0 1).str (x0 2).int (x0 3).int (x0 4).int (x0 5).str (x0 6).len (x0 6).el (x0 7).int x1) fun x5=>(bif (x4.2.2.2.2 != x5.2.2.2.2) then (some false) else (bif (x4.2.2.2.2 != 0) then (ob (Hc u x4.1 x4.2.1 x4.2.2.1 x4.2.2.2.1 ByteArray.empty 0 0 (fun _ _=>.any)) fun x6=>(bif (x6==true) then (ob (Ha u) fun x7=>(some x7)) else (some false))) else (bif ((ByteArray.toList x4.1==ByteArray.toList (x0 0).str)==true) then (bif ((x4.2.1==(x0 7).int)==true) then (bif ((decide ((Int.ofNat x4.2.2.1)<=4))==true) then (ob (KN u x4.1 x4.2.1 x4.2.2.1 x4.2.2.2.1 (x0 0).str (x0 1).str (x0 2).int (x0 3).int (x0 4).int (x0 5).str (x0 6).len (x0 6).el) fun x8=>(bif (x8==true) then (ob (Ed u x4.1 x4.2.1 x4.2.2.1 x4.2.2.2.1 (x0 6).len (x0 6).el) fun x9=>(ob (Ed u x5.1 x5.2.1 x5.2.2.1 x5.2.2.2.1 (x0 6).len (x0 6).el) fun xA=>(bif ((x9==xA)==true) then (ob (Ha u) fun xB=>(some xB)) else (some false)))) else (some false))) else (some false)) else (some false)) else (some false))))))))
theorem aa0:aD (C97 u) u A4 [.agg (pj kR1 g0),.v (vi i0)]=ob (F421 u g0 i0) fun t=>some [.v (.b t)]:=by
 simp only [F421,ak,aw,af,aa]
 kernel_rfl
def O421:Ora:=mkO (qc (ar kR1) (q1 (av ci))) (fun x=>F421 u x.1 x.2) fun t=>[.v (.b t)]
theorem abD:DO (O421 u) (C97 u) 4 A4:=dO u (fun x=>by exact aa0 u x.2 x.1)
/- Functions that the plain texts alone name. -/
end Go.Eng.R13
