/-
 The plain definitions alone.
-/
import Derived.Test.YtkknnlhhchielaaDoorDecT2
set_option linter.all false
set_option maxRecDepth 1000000
namespace Go.Eng.R13
open Go Go.RowKit Go.Eng
def F69 (fuel:Nat) (x1 x2:Int):Option (Bool) :=
 (bif ((decide (x1≥(-32768)))==true) then (bif ((decide (x1≤32768))==true) then (bif ((decide (x2≥(-32768)))==true) then (some (decide (x2≤32768))) else (some false)) else (some false)) else (some false))
def L66v1 {ρ:Type} (fuel:Nat) (x6:Nat) (x7:FF):Nat→Int→(Option ρ)→(Option ρ)→Option ρ
 | 0,_,_,_=>none
 | m+1,x8,k0,k1 =>
  (bif (decide (x8<(Int.ofNat x6))) then (bif (inb x8 x6) then (ob (F69 fuel (CV.int (x7 (Int.toNat x8) 0)) (CV.int (x7 (Int.toNat x8) 1))) fun x9=>(bif (!x9) then k0 else (L66v1 fuel x6 x7 m (w64 (x8+1)) k0 k1))) else none) else k1)
def F66 (fuel:Nat) (x1:Nat) (x2:FF):Option (Bool) :=
 (L66v1 fuel x1 x2 fuel 0
  (some false)
  (some true))
def F71 (fuel:Nat) (x1 x2 x3 x4 x5 x6:Int):Option (Int) :=
 (some (w64 ((w64 ((w64 (x3-x1))*(w64 (x6-x2))))-(w64 ((w64 (x4-x2))*(w64 (x5-x1)))))))
def F70 (fuel:Nat) (x1 x2 x3 x4 x5 x6:Int):Option (Bool) :=
 (ob (F71 fuel x3 x4 x5 x6 x1 x2) fun x7=>(bif ((x7==0)==true) then (bif ((decide ((if x5<x3 then x5 else x3)≤x1))==true) then (bif ((decide (x1≤(if x5>x3 then x5 else x3)))==true) then (bif ((decide ((if x6<x4 then x6 else x4)≤x2))==true) then (some (decide (x2≤(if x6>x4 then x6 else x4)))) else (some false)) else (some false)) else (some false)) else (some false)))
def F88 (fuel:Nat) (x1:Int):Option (Int) :=
 (bif (decide (x1<0)) then (some (-1)) else (bif (decide (x1>0)) then (some 1) else (some 0)))
def F82 (fuel:Nat) (x1 x2 x3 x4 x5 x6 x7 x8:Int):Option (Bool) :=
 (ob (F70 fuel x1 x2 x5 x6 x7 x8) fun x9=>(bif (x9==false) then (ob (F70 fuel x3 x4 x5 x6 x7 x8) fun x10=>(bif (x10==false) then (ob (F70 fuel x5 x6 x1 x2 x3 x4) fun x11=>(bif (x11==false) then (ob (F70 fuel x7 x8 x1 x2 x3 x4) fun x12=>(bif x12 then (some true) else (ob (F71 fuel x1 x2 x3 x4 x5 x6) fun x21=>(ob (F88 fuel x21) fun x22=>(ob (F71 fuel x1 x2 x3 x4 x7 x8) fun x23=>(ob (F88 fuel x23) fun x24=>(bif ((decide ((w64 (x22*x24))<0))==true) then (ob (F71 fuel x5 x6 x7 x8 x1 x2) fun x25=>(ob (F88 fuel x25) fun x26=>(ob (F71 fuel x5 x6 x7 x8 x3 x4) fun x27=>(ob (F88 fuel x27) fun x28=>(some (decide ((w64 (x26*x28))<0))))))) else (some false)))))))) else (some true))) else (some true))) else (some true)))
def L67v2 {ρ:Type} (fuel:Nat) (x17:Nat) (x18:FF) (x19 x20:Int):Nat→Int→(Option ρ)→(Option ρ)→Option ρ
 | 0,_,_,_=>none
 | m+1,x21,k0,k1 =>
  (bif (decide (x21<x20)) then (bif (inb x20 x17) then (bif (inb x21 x17) then (bif (((CV.int (x18 (Int.toNat x20) 0))==(CV.int (x18 (Int.toNat x21) 0)))&&(((CV.int (x18 (Int.toNat x20) 1))==(CV.int (x18 (Int.toNat x21) 1)))&&true)) then k0 else (L67v2 fuel x17 x18 x19 x20 m (w64 (x21+1)) k0 k1)) else none) else none) else k1)
def L67v3 {ρ:Type} (fuel:Nat) (x9:Nat) (x10:FF) (x11:Int):Nat→Int→(Option ρ)→(Option ρ)→Option ρ
 | 0,_,_,_=>none
 | m+1,x12,k0,k1 =>
  (bif (decide (x12<x11)) then (L67v2 fuel x9 x10 x11 x12 fuel 0
  k0
  (L67v3 fuel x9 x10 x11 m (w64 (x12+1)) k0 k1)) else k1)
def L67v5 {ρ:Type} (fuel:Nat) (x67:Nat) (x68:FF) (x69 x70 x72 x73 x74 x75 x76 x77:Int):Nat→Int→(Option ρ)→(Option ρ)→Option ρ
 | 0,_,_,_=>none
 | m+1,x71,k0,k1 =>
  (bif (decide (x71<x69)) then (bif (x69==0) then none else (bif (((Int.tmod (w64 (x71+1)) x69) != x70)==true) then (bif (inb x71 x67) then (bif (x69==0) then none else (bif (inb (Int.tmod (w64 (x71+1)) x69) x67) then (ob (F82 fuel x72 x73 x74 x75 (CV.int (x68 (Int.toNat x71) 0)) (CV.int (x68 (Int.toNat x71) 1)) (CV.int (x68 (Int.toNat (Int.tmod (w64 (x71+1)) x69)) 0)) (CV.int (x68 (Int.toNat (Int.tmod (w64 (x71+1)) x69)) 1))) fun x78=>(bif x78 then k0 else (L67v5 fuel x67 x68 x69 x70 x72 x73 x74 x75 x76 x77 m (w64 (x71+1)) k0 k1))) else none)) else none) else (L67v5 fuel x67 x68 x69 x70 x72 x73 x74 x75 x76 x77 m (w64 (x71+1)) k0 k1))) else k1)
def L67v6 {ρ:Type} (fuel:Nat) (x49:Nat) (x50:FF) (x51:Int):Nat→Int→(Int→Int→Int→Int→Int→Int→Option ρ)→(Option ρ)→Option ρ
 | 0,_,_,_=>none
 | m+1,x52,k0,k1 =>
  (bif (decide (x52<x51)) then (bif (inb x52 x49) then (bif (x51==0) then none else (bif (inb (Int.tmod (w64 (x52+1)) x51) x49) then (bif (x51==0) then none else (bif (inb (Int.tmod (w64 (x52+2)) x51) x49) then (ob (F70 fuel (CV.int (x50 (Int.toNat x52) 0)) (CV.int (x50 (Int.toNat x52) 1)) (CV.int (x50 (Int.toNat (Int.tmod (w64 (x52+1)) x51)) 0)) (CV.int (x50 (Int.toNat (Int.tmod (w64 (x52+1)) x51)) 1)) (CV.int (x50 (Int.toNat (Int.tmod (w64 (x52+2)) x51)) 0)) (CV.int (x50 (Int.toNat (Int.tmod (w64 (x52+2)) x51)) 1))) fun x53=>(bif (x53==false) then (ob (F70 fuel (CV.int (x50 (Int.toNat (Int.tmod (w64 (x52+2)) x51)) 0)) (CV.int (x50 (Int.toNat (Int.tmod (w64 (x52+2)) x51)) 1)) (CV.int (x50 (Int.toNat x52) 0)) (CV.int (x50 (Int.toNat x52) 1)) (CV.int (x50 (Int.toNat (Int.tmod (w64 (x52+1)) x51)) 0)) (CV.int (x50 (Int.toNat (Int.tmod (w64 (x52+1)) x51)) 1))) fun x54=>(bif x54 then (k0 (CV.int (x50 (Int.toNat x52) 0)) (CV.int (x50 (Int.toNat x52) 1)) (CV.int (x50 (Int.toNat (Int.tmod (w64 (x52+1)) x51)) 0)) (CV.int (x50 (Int.toNat (Int.tmod (w64 (x52+1)) x51)) 1)) (CV.int (x50 (Int.toNat (Int.tmod (w64 (x52+2)) x51)) 0)) (CV.int (x50 (Int.toNat (Int.tmod (w64 (x52+2)) x51)) 1))) else (L67v5 fuel x49 x50 x51 x52 (CV.int (x50 (Int.toNat x52) 0)) (CV.int (x50 (Int.toNat x52) 1)) (CV.int (x50 (Int.toNat (Int.tmod (w64 (x52+1)) x51)) 0)) (CV.int (x50 (Int.toNat (Int.tmod (w64 (x52+1)) x51)) 1)) (CV.int (x50 (Int.toNat (Int.tmod (w64 (x52+2)) x51)) 0)) (CV.int (x50 (Int.toNat (Int.tmod (w64 (x52+2)) x51)) 1)) fuel (w64 (x52+2))
  (k0 (CV.int (x50 (Int.toNat x52) 0)) (CV.int (x50 (Int.toNat x52) 1)) (CV.int (x50 (Int.toNat (Int.tmod (w64 (x52+1)) x51)) 0)) (CV.int (x50 (Int.toNat (Int.tmod (w64 (x52+1)) x51)) 1)) (CV.int (x50 (Int.toNat (Int.tmod (w64 (x52+2)) x51)) 0)) (CV.int (x50 (Int.toNat (Int.tmod (w64 (x52+2)) x51)) 1)))
  (L67v6 fuel x49 x50 x51 m (w64 (x52+1)) k0 k1)))) else (k0 (CV.int (x50 (Int.toNat x52) 0)) (CV.int (x50 (Int.toNat x52) 1)) (CV.int (x50 (Int.toNat (Int.tmod (w64 (x52+1)) x51)) 0)) (CV.int (x50 (Int.toNat (Int.tmod (w64 (x52+1)) x51)) 1)) (CV.int (x50 (Int.toNat (Int.tmod (w64 (x52+2)) x51)) 0)) (CV.int (x50 (Int.toNat (Int.tmod (w64 (x52+2)) x51)) 1))))) else none)) else none)) else none) else k1)
def F67 (fuel:Nat) (x1:Nat) (x2:FF):Option (Bool) :=
 (L67v3 fuel x1 x2 (Int.ofNat x1) fuel 0
  (some false)
  (L67v6 fuel x1 x2 (Int.ofNat x1) fuel 0
  (fun x85 x86 x87 x88 x89 x90=>(some false))
  (some true)))
def F37 (fuel:Nat) (x1:Nat) (x2:FF):Option (Int) :=
 (bif (decide ((Int.ofNat x1)<3)) then (some 3) else (bif (decide ((Int.ofNat x1)>32)) then (some 4) else (ob (F66 fuel x1 x2) fun x3=>(bif (!x3) then (some 9) else (ob (F67 fuel x1 x2) fun x4=>(bif (!x4) then (some 17) else (some 0)))))))
def L38v1 {ρ:Type} (fuel:Nat) (x6:Nat) (x7:FF):Nat→Int→Int→(Int→Option ρ)→Option ρ
 | 0,_,_,_=>none
 | m+1,x8,x9,k0 =>
  (bif (decide (x9<(Int.ofNat x6))) then (bif (inb x9 x6) then (bif ((Int.ofNat x6)==0) then none else (bif (inb (Int.tmod (w64 (x9+1)) (Int.ofNat x6)) x6) then (L38v1 fuel x6 x7 m (w64 ((w64 (x8+(w64 ((CV.int (x7 (Int.toNat x9) 0))*(CV.int (x7 (Int.toNat (Int.tmod (w64 (x9+1)) (Int.ofNat x6))) 1))))))-(w64 ((CV.int (x7 (Int.toNat x9) 1))*(CV.int (x7 (Int.toNat (Int.tmod (w64 (x9+1)) (Int.ofNat x6))) 0)))))) (w64 (x9+1)) k0) else none)) else none) else (k0 x8))
def F38 (fuel:Nat) (x1:Nat) (x2:FF):Option (Int) :=
 (ob (F37 fuel x1 x2) fun x3=>(bif (x3 != 0) then (some 0) else (L38v1 fuel x1 x2 fuel 0 0
  (fun x11=>(some x11)))))
def F84 (fuel:Nat) (x1 x2 x3 x4 x5 x6:Int):Option (Int) :=
 (bif (decide ((w64 ((w64 ((w64 (x3-x1))*(w64 (x6-x2))))-(w64 ((w64 (x4-x2))*(w64 (x5-x1))))))>0)) then (some 1) else (bif (decide ((w64 ((w64 ((w64 (x3-x1))*(w64 (x6-x2))))-(w64 ((w64 (x4-x2))*(w64 (x5-x1))))))<0)) then (some (-1)) else (some 0)))
def F83 (fuel:Nat) (x1 x2 x3 x4 x5 x6:Int):Option (Bool) :=
 (ob (F84 fuel x1 x2 x3 x4 x5 x6) fun x7=>(bif ((x7==0)==true) then (bif ((decide (x5≥(if x3<x1 then x3 else x1)))==true) then (bif ((decide (x5≤(if x3>x1 then x3 else x1)))==true) then (bif ((decide (x6≥(if x4<x2 then x4 else x2)))==true) then (some (decide (x6≤(if x4>x2 then x4 else x2)))) else (some false)) else (some false)) else (some false)) else (some false)))
def F68 (fuel:Nat) (x1 x2 x3 x4 x5 x6 x7 x8:Int):Option (Bool) :=
 (ob (F83 fuel x1 x2 x3 x4 x5 x6) fun x9=>(bif (x9==false) then (ob (F83 fuel x1 x2 x3 x4 x7 x8) fun x10=>(bif (x10==false) then (ob (F83 fuel x5 x6 x7 x8 x1 x2) fun x11=>(bif (x11==false) then (ob (F83 fuel x5 x6 x7 x8 x3 x4) fun x12=>(bif x12 then (some true) else (ob (F84 fuel x1 x2 x3 x4 x5 x6) fun x17=>(ob (F84 fuel x1 x2 x3 x4 x7 x8) fun x18=>(bif ((decide ((w64 (x17*x18))<0))==true) then (ob (F84 fuel x5 x6 x7 x8 x1 x2) fun x19=>(ob (F84 fuel x5 x6 x7 x8 x3 x4) fun x20=>(some (decide ((w64 (x19*x20))<0))))) else (some false)))))) else (some true))) else (some true))) else (some true)))
def L39v2 {ρ:Type} (fuel:Nat) (x32:Nat) (x33:FF) (x34:Nat) (x35:FF) (x36:Int):Nat→Int→(Option ρ)→(Option ρ)→Option ρ
 | 0,_,_,_=>none
 | m+1,x37,k0,k1 =>
  (bif (decide (x37<(Int.ofNat x34))) then (bif (inb x36 x32) then (bif ((Int.ofNat x32)==0) then none else (bif (inb (Int.tmod (w64 (x36+1)) (Int.ofNat x32)) x32) then (bif (inb x37 x34) then (bif ((Int.ofNat x34)==0) then none else (bif (inb (Int.tmod (w64 (x37+1)) (Int.ofNat x34)) x34) then (ob (F68 fuel (CV.int (x33 (Int.toNat x36) 0)) (CV.int (x33 (Int.toNat x36) 1)) (CV.int (x33 (Int.toNat (Int.tmod (w64 (x36+1)) (Int.ofNat x32))) 0)) (CV.int (x33 (Int.toNat (Int.tmod (w64 (x36+1)) (Int.ofNat x32))) 1)) (CV.int (x35 (Int.toNat x37) 0)) (CV.int (x35 (Int.toNat x37) 1)) (CV.int (x35 (Int.toNat (Int.tmod (w64 (x37+1)) (Int.ofNat x34))) 0)) (CV.int (x35 (Int.toNat (Int.tmod (w64 (x37+1)) (Int.ofNat x34))) 1))) fun x38=>(bif x38 then k0 else (L39v2 fuel x32 x33 x34 x35 x36 m (w64 (x37+1)) k0 k1))) else none)) else none) else none)) else none) else k1)
def L39v3 {ρ:Type} (fuel:Nat) (x21:Nat) (x22:FF) (x23:Nat) (x24:FF):Nat→Int→(Option ρ)→(Option ρ)→Option ρ
 | 0,_,_,_=>none
 | m+1,x25,k0,k1 =>
  (bif (decide (x25<(Int.ofNat x21))) then (L39v2 fuel x21 x22 x23 x24 x25 fuel 0
  k0
  (L39v3 fuel x21 x22 x23 x24 m (w64 (x25+1)) k0 k1)) else k1)
def F39 (fuel:Nat) (x1:Nat) (x2:FF) (x3:Nat) (x4:FF):Option (Bool) :=
 (L39v3 fuel x1 x2 x3 x4 fuel 0
  (some true)
  (some false))
def L40v1 {ρ:Type} (fuel:Nat) (x16:Nat) (x17:FF) (x20 x21:Int):Nat→Bool→Int→(Int→Int→Int→Int→Option ρ)→(Bool→Option ρ)→Option ρ
 | 0,_,_,_,_=>none
 | m+1,x18,x19,k0,k1 =>
  (bif (decide (x19<(Int.ofNat x16))) then (bif (inb x19 x16) then (bif ((Int.ofNat x16)==0) then none else (bif (inb (Int.tmod (w64 (x19+1)) (Int.ofNat x16)) x16) then (ob (F70 fuel x20 x21 (CV.int (x17 (Int.toNat x19) 0)) (CV.int (x17 (Int.toNat x19) 1)) (CV.int (x17 (Int.toNat (Int.tmod (w64 (x19+1)) (Int.ofNat x16))) 0)) (CV.int (x17 (Int.toNat (Int.tmod (w64 (x19+1)) (Int.ofNat x16))) 1))) fun x22=>(bif x22 then (k0 (CV.int (x17 (Int.toNat x19) 0)) (CV.int (x17 (Int.toNat x19) 1)) (CV.int (x17 (Int.toNat (Int.tmod (w64 (x19+1)) (Int.ofNat x16))) 0)) (CV.int (x17 (Int.toNat (Int.tmod (w64 (x19+1)) (Int.ofNat x16))) 1))) else (bif ((decide ((CV.int (x17 (Int.toNat x19) 1))≤x21))==true) then (bif ((decide (x21<(CV.int (x17 (Int.toNat (Int.tmod (w64 (x19+1)) (Int.ofNat x16))) 1))))==true) then (ob (F71 fuel (CV.int (x17 (Int.toNat x19) 0)) (CV.int (x17 (Int.toNat x19) 1)) (CV.int (x17 (Int.toNat (Int.tmod (w64 (x19+1)) (Int.ofNat x16))) 0)) (CV.int (x17 (Int.toNat (Int.tmod (w64 (x19+1)) (Int.ofNat x16))) 1)) x20 x21) fun x23=>(bif ((decide ((CV.int (x17 (Int.toNat (Int.tmod (w64 (x19+1)) (Int.ofNat x16))) 1))≤x21))==true) then (bif ((decide (x21<(CV.int (x17 (Int.toNat x19) 1))))==true) then (ob (F71 fuel (CV.int (x17 (Int.toNat x19) 0)) (CV.int (x17 (Int.toNat x19) 1)) (CV.int (x17 (Int.toNat (Int.tmod (w64 (x19+1)) (Int.ofNat x16))) 0)) (CV.int (x17 (Int.toNat (Int.tmod (w64 (x19+1)) (Int.ofNat x16))) 1)) x20 x21) fun x24=>(bif ((decide (x23>0))==false) then (bif (decide (x24<0)) then (L40v1 fuel x16 x17 x20 x21 m (!x18) (w64 (x19+1)) k0 k1) else (L40v1 fuel x16 x17 x20 x21 m x18 (w64 (x19+1)) k0 k1)) else (L40v1 fuel x16 x17 x20 x21 m (!x18) (w64 (x19+1)) k0 k1))) else (bif ((decide (x23>0))==false) then (L40v1 fuel x16 x17 x20 x21 m x18 (w64 (x19+1)) k0 k1) else (L40v1 fuel x16 x17 x20 x21 m (!x18) (w64 (x19+1)) k0 k1))) else (bif ((decide (x23>0))==false) then (L40v1 fuel x16 x17 x20 x21 m x18 (w64 (x19+1)) k0 k1) else (L40v1 fuel x16 x17 x20 x21 m (!x18) (w64 (x19+1)) k0 k1)))) else (bif ((decide ((CV.int (x17 (Int.toNat (Int.tmod (w64 (x19+1)) (Int.ofNat x16))) 1))≤x21))==true) then (bif ((decide (x21<(CV.int (x17 (Int.toNat x19) 1))))==true) then (ob (F71 fuel (CV.int (x17 (Int.toNat x19) 0)) (CV.int (x17 (Int.toNat x19) 1)) (CV.int (x17 (Int.toNat (Int.tmod (w64 (x19+1)) (Int.ofNat x16))) 0)) (CV.int (x17 (Int.toNat (Int.tmod (w64 (x19+1)) (Int.ofNat x16))) 1)) x20 x21) fun x25=>(bif (decide (x25<0)) then (L40v1 fuel x16 x17 x20 x21 m (!x18) (w64 (x19+1)) k0 k1) else (L40v1 fuel x16 x17 x20 x21 m x18 (w64 (x19+1)) k0 k1))) else (L40v1 fuel x16 x17 x20 x21 m x18 (w64 (x19+1)) k0 k1)) else (L40v1 fuel x16 x17 x20 x21 m x18 (w64 (x19+1)) k0 k1))) else (bif ((decide ((CV.int (x17 (Int.toNat (Int.tmod (w64 (x19+1)) (Int.ofNat x16))) 1))≤x21))==true) then (bif ((decide (x21<(CV.int (x17 (Int.toNat x19) 1))))==true) then (ob (F71 fuel (CV.int (x17 (Int.toNat x19) 0)) (CV.int (x17 (Int.toNat x19) 1)) (CV.int (x17 (Int.toNat (Int.tmod (w64 (x19+1)) (Int.ofNat x16))) 0)) (CV.int (x17 (Int.toNat (Int.tmod (w64 (x19+1)) (Int.ofNat x16))) 1)) x20 x21) fun x26=>(bif (decide (x26<0)) then (L40v1 fuel x16 x17 x20 x21 m (!x18) (w64 (x19+1)) k0 k1) else (L40v1 fuel x16 x17 x20 x21 m x18 (w64 (x19+1)) k0 k1))) else (L40v1 fuel x16 x17 x20 x21 m x18 (w64 (x19+1)) k0 k1)) else (L40v1 fuel x16 x17 x20 x21 m x18 (w64 (x19+1)) k0 k1))))) else none)) else none) else (k1 x18))
def F40 (fuel:Nat) (x1:Nat) (x2:FF) (x3 x4:Int):Option (Int) :=
 (ob (F37 fuel x1 x2) fun x5=>(bif ((x5 != 0)==false) then (ob (F69 fuel x3 x4) fun x6=>(bif (!x6) then (some (-1)) else (L40v1 fuel x1 x2 x3 x4 fuel false 0
  (fun x32 x33 x34 x35=>(some 0))
  (fun x36=>(bif x36 then (some 1) else (some (-1))))))) else (some (-1))))
def L14v2 {ρ:Type} (fuel:Nat) (x46:Int) (x47:Nat) (x48:FF) (x50:Nat) (x51:FF) (x52:Nat) (x53:FF):Nat→Int→(Option ρ)→(Option ρ)→Option ρ
 | 0,_,_,_=>none
 | m+1,x49,k0,k1 =>
  (bif (decide (x49<x46)) then (bif (inb x49 x52) then (ob (F39 fuel x47 x48 (CV.len (x53 (Int.toNat x49) 0)) (CV.el (x53 (Int.toNat x49) 0))) fun x54=>(bif (x54==false) then (bif (inb x49 x52) then (bif (inb 0 (CV.len (x53 (Int.toNat x49) 0))) then (ob (F40 fuel x47 x48 (CV.int ((CV.el (x53 (Int.toNat x49) 0)) 0 0)) (CV.int ((CV.el (x53 (Int.toNat x49) 0)) 0 1))) fun x55=>(bif ((x55 != (-1))==false) then (bif (inb x49 x52) then (bif (inb 0 x47) then (ob (F40 fuel (CV.len (x53 (Int.toNat x49) 0)) (CV.el (x53 (Int.toNat x49) 0)) (CV.int (x48 0 0)) (CV.int (x48 0 1))) fun x56=>(bif (x56 != (-1)) then k0 else (L14v2 fuel x46 x47 x48 x50 x51 x52 x53 m (w64 (x49+1)) k0 k1))) else none) else none) else k0)) else none) else none) else k0)) else none) else k1)
def L14v3 {ρ:Type} (fuel:Nat) (x25:Nat) (x26:FF) (x27:Nat) (x28:FF):Nat→Int→(Int→Option ρ)→(Option ρ)→Option ρ
 | 0,_,_,_=>none
 | m+1,x24,k0,k1 =>
  (bif (decide (x24<(Int.ofNat x27))) then (bif (inb x24 x27) then (ob (F37 fuel (CV.len (x28 (Int.toNat x24) 0)) (CV.el (x28 (Int.toNat x24) 0))) fun x29=>(bif (x29 != 0) then (k0 x29) else (ob (F38 fuel (CV.len (x28 (Int.toNat x24) 0)) (CV.el (x28 (Int.toNat x24) 0))) fun x30=>(bif ((decide (x30≥0))==false) then (ob (F39 fuel x25 x26 (CV.len (x28 (Int.toNat x24) 0)) (CV.el (x28 (Int.toNat x24) 0))) fun x31=>(bif (x31==false) then (bif (inb 0 (CV.len (x28 (Int.toNat x24) 0))) then (ob (F40 fuel x25 x26 (CV.int ((CV.el (x28 (Int.toNat x24) 0)) 0 0)) (CV.int ((CV.el (x28 (Int.toNat x24) 0)) 0 1))) fun x32=>(bif (x32 != 1) then (k0 17) else (L14v2 fuel x24 (CV.len (x28 (Int.toNat x24) 0)) (CV.el (x28 (Int.toNat x24) 0)) x25 x26 x27 x28 fuel 0
  (k0 17)
  (L14v3 fuel x25 x26 x27 x28 m (w64 (x24+1)) k0 k1)))) else none) else (k0 17))) else (k0 17))))) else none) else k1)
def F14 (fuel:Nat) (x1:Nat) (x2:FF) (x3:Nat) (x4:FF):Option (Int) :=
 (bif (decide ((Int.ofNat x3)>8)) then (some 12) else (ob (F37 fuel x1 x2) fun x5=>(bif (x5 != 0) then (some x5) else (ob (F38 fuel x1 x2) fun x6=>(bif (decide (x6≤0)) then (some 17) else (L14v3 fuel x1 x2 x3 x4 fuel 0
  (fun x58=>(some x58))
  (some 0)))))))
def F44 (fuel:Nat) (x1:Nat) (x2:FF) (x3:Nat) (x4:FF):Option (Nat × FF) :=
 (bif (Nat.ble (1+x3) 1073741824) then (some ((1+x3),(joinF 1 (rowsF 1 [(.ro false (.pr (.int .i64) (.pr (.int .i64) .nil)) x1 x2)]) x4))) else none)
def F53 (fuel:Nat) (x1 x2:Int):Option (Bool) :=
 (bif ((decide (x1<(-1099511627776)))==false) then (bif ((decide (x1>1099511627776))==false) then (bif ((decide (x2<(-1099511627776)))==false) then (some (decide (x2>1099511627776))) else (some true)) else (some true)) else (some true))
def L32v1 {ρ:Type} (fuel:Nat) (x18:ByteArray) (x19 x20 x21:Int) (x22:Bool):Nat→Int→Int→Int→(Int→Int→Option ρ)→Option ρ
 | 0,_,_,_,_=>none
 | m+1,x15,x16,x17,k0 =>
  (bif (decide (x15<x21)) then (L32v1 fuel x18 x19 x20 x21 x22 m (w64 (x15+1)) (w64 (0-x17)) x16 k0) else (k0 x16 x17))
def F32 (fuel:Nat) (x1 x2:Int) (x3:ByteArray) (x4 x5 x6:Int) (x7:Bool):Option (Int × Int) :=
 (bif x7 then (L32v1 fuel x3 x4 x5 x6 x7 fuel 0 (w64 (0-x1)) x2
  (fun x25 x26=>(some ((w64 (x25+x4)),(w64 (x26+x5)))))) else (L32v1 fuel x3 x4 x5 x6 x7 fuel 0 x1 x2
  (fun x27 x28=>(some ((w64 (x27+x4)),(w64 (x28+x5)))))))
def L54v1 {ρ:Type} (fuel:Nat) (x18:Nat) (x19:FF) (x22:ByteArray) (x23 x24 x25:Int) (x26:Bool):Nat→Nat→Int→FF→(Nat→FF→Option ρ)→Option ρ
 | 0,_,_,_,_=>none
 | m+1,x20,x21,x27,k0 =>
  (bif (decide (x21<(Int.ofNat x18))) then (bif x26 then (bif (inb (w64 ((w64 ((Int.ofNat x18)-1))-x21)) x18) then (ob (F32 fuel (CV.int (x19 (Int.toNat (w64 ((w64 ((Int.ofNat x18)-1))-x21))) 0)) (CV.int (x19 (Int.toNat (w64 ((w64 ((Int.ofNat x18)-1))-x21))) 1)) x22 x23 x24 x25 x26) fun x28=>(bif (Nat.ble (x20+1) 1073741824) then (L54v1 fuel x18 x19 x22 x23 x24 x25 x26 m (x20+1) (w64 (x21+1)) (joinF x20 x27 (rowsF 2 [(.i .i64 x28.1),(.i .i64 x28.2)])) k0) else none)) else none) else (bif (inb x21 x18) then (ob (F32 fuel (CV.int (x19 (Int.toNat x21) 0)) (CV.int (x19 (Int.toNat x21) 1)) x22 x23 x24 x25 x26) fun x29=>(bif (Nat.ble (x20+1) 1073741824) then (L54v1 fuel x18 x19 x22 x23 x24 x25 x26 m (x20+1) (w64 (x21+1)) (joinF x20 x27 (rowsF 2 [(.i .i64 x29.1),(.i .i64 x29.2)])) k0) else none)) else none)) else (k0 x20 x27))
def F54 (fuel:Nat) (x1:Nat) (x2:FF) (x3:ByteArray) (x4 x5 x6:Int) (x7:Bool):Option (Nat × FF) :=
 (L54v1 fuel x1 x2 x3 x4 x5 x6 x7 fuel 0 0 (fun _ _=>.any)
  (fun x32 x33=>(some (x32,x33))))
def L26v2 {ρ:Type} (fuel:Nat) (x80:Nat) (x81:FF) (x83:Int) (x85:Nat) (x86:FF) (x87:Nat) (x88:FF) (x89:ByteArray) (x90 x91 x92:Int) (x93:Bool):Nat→Bool→Int→(Bool→Option ρ)→Option ρ
 | 0,_,_,_=>none
 | m+1,x82,x84,k0 =>
  (bif (inb x83 x80) then (bif (decide (x84<(Int.ofNat (CV.len (x81 (Int.toNat x83) 0))))) then (bif (x82==false) then (bif (inb x83 x80) then (bif (inb x84 (CV.len (x81 (Int.toNat x83) 0))) then (ob (F53 fuel (CV.int ((CV.el (x81 (Int.toNat x83) 0)) (Int.toNat x84) 0)) (CV.int ((CV.el (x81 (Int.toNat x83) 0)) (Int.toNat x84) 1))) fun x94=>(L26v2 fuel x80 x81 x83 x85 x86 x87 x88 x89 x90 x91 x92 x93 m x94 (w64 (x84+1)) k0)) else none) else none) else (L26v2 fuel x80 x81 x83 x85 x86 x87 x88 x89 x90 x91 x92 x93 m true (w64 (x84+1)) k0)) else (k0 x82)) else none)
def L26v3 {ρ:Type} (fuel:Nat) (x53:Nat) (x54:FF) (x57:Nat) (x58:FF) (x59:Nat) (x60:FF) (x61:ByteArray) (x62 x63 x64:Int) (x65:Bool):Nat→Bool→Int→(Bool→Option ρ)→Option ρ
 | 0,_,_,_=>none
 | m+1,x55,x56,k0 =>
  (bif (decide (x56<(Int.ofNat x53))) then (L26v2 fuel x53 x54 x56 x57 x58 x59 x60 x61 x62 x63 x64 x65 fuel x55 0
  (fun x96=>(L26v3 fuel x53 x54 x57 x58 x59 x60 x61 x62 x63 x64 x65 m x96 (w64 (x56+1)) k0))) else (k0 x55))
def L26v4 {ρ:Type} (fuel:Nat) (x114:Nat) (x115:FF) (x116:Nat) (x117:FF) (x118:ByteArray) (x119 x120 x121:Int) (x122:Bool) (x123:Nat) (x124:FF):Nat→Int→Nat→FF→(Nat→FF→Option ρ)→Option ρ
 | 0,_,_,_,_=>none
 | m+1,x113,x125,x126,k0 =>
  (bif (decide (x113<(Int.ofNat x116))) then (bif (inb x113 x116) then (ob (F54 fuel (CV.len (x117 (Int.toNat x113) 0)) (CV.el (x117 (Int.toNat x113) 0)) x118 x119 x120 x121 x122) fun x127=>(bif (Nat.ble (x125+1) 1073741824) then (L26v4 fuel x114 x115 x116 x117 x118 x119 x120 x121 x122 x123 x124 m (w64 (x113+1)) (x125+1) (joinF x125 x126 (rowsF 1 [(.ro false (.pr (.int .i64) (.pr (.int .i64) .nil)) x127.1 x127.2)])) k0) else none)) else none) else (k0 x125 x126))
def L26v6 {ρ:Type} (fuel:Nat) (x190:Nat) (x191:FF) (x192:Int) (x194:Nat) (x195:FF) (x196:Nat) (x197:FF) (x198:ByteArray) (x199 x200 x201:Int) (x202:Bool):Nat→Int→(Option ρ)→Option ρ
 | 0,_,_=>none
 | m+1,x193,k0 =>
  (bif (inb x192 x190) then (bif (decide (x193<(Int.ofNat (CV.len (x191 (Int.toNat x192) 0))))) then (L26v6 fuel x190 x191 x192 x194 x195 x196 x197 x198 x199 x200 x201 x202 m (w64 (x193+1)) k0) else k0) else none)
def L26v7 {ρ:Type} (fuel:Nat) (x166:Nat) (x167:FF) (x169:Nat) (x170:FF) (x171:Nat) (x172:FF) (x173:ByteArray) (x174 x175 x176:Int) (x177:Bool):Nat→Int→(Option ρ)→Option ρ
 | 0,_,_=>none
 | m+1,x168,k0 =>
  (bif (decide (x168<(Int.ofNat x166))) then (L26v6 fuel x166 x167 x168 x169 x170 x171 x172 x173 x174 x175 x176 x177 fuel 0
  (L26v7 fuel x166 x167 x169 x170 x171 x172 x173 x174 x175 x176 x177 m (w64 (x168+1)) k0)) else k0)
def FT26 (fuel:Nat) (x1:Nat) (x2:FF) (x3:Nat) (x4:FF) (x5:ByteArray) (x6 x7 x8:Int) (x9:Bool):Option (Bool × Nat × FF × Nat × FF) :=
 (ob (F44 fuel x1 x2 x3 x4) fun x10=>(bif ((decide (x8<0))==false) then (bif ((decide (x8>3))==false) then (ob (F53 fuel x6 x7) fun x11=>(L26v3 fuel x10.1 x10.2 x1 x2 x3 x4 x5 x6 x7 x8 x9 fuel x11 0
  (fun x98=>(bif x98 then (some (true,0,(fun _ _=>.any),0,(fun _ _=>.any))) else (ob (F54 fuel x1 x2 x5 x6 x7 x8 x9) fun x99=>(L26v4 fuel x1 x2 x3 x4 x5 x6 x7 x8 x9 x99.1 x99.2 fuel 0 0 (fun _ _=>.any)
  (fun x130 x131=>(some (false,x99.1,x99.2,x130,x131))))))))) else (L26v7 fuel x10.1 x10.2 x1 x2 x3 x4 x5 x6 x7 x8 x9 fuel 0
  (some (true,0,(fun _ _=>.any),0,(fun _ _=>.any))))) else (L26v7 fuel x10.1 x10.2 x1 x2 x3 x4 x5 x6 x7 x8 x9 fuel 0
  (some (true,0,(fun _ _=>.any),0,(fun _ _=>.any))))))
def F26 (fuel:Nat) (x1:Nat) (x2:FF) (x3:Nat) (x4:FF) (x5:ByteArray) (x6 x7 x8:Int) (x9:Bool):Option (Nat × FF × Nat × FF):=ob (FT26 fuel x1 x2 x3 x4 x5 x6 x7 x8 x9) fun t=>some (bif t.1 then (0,(fun _ _=>.any),0,(fun _ _=>.any)) else (t.2.1,t.2.2.1,t.2.2.2.1,t.2.2.2.2))
end Go.Eng.R13
