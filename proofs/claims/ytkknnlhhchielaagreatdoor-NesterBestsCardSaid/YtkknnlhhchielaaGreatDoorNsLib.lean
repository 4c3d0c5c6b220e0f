/-
 slices.Clone,slices.Grow and slices.Concat at lists of numbers.
-/
import Derived.Test.YtkknnlhhchielaaGreatDoorNsTurns
import Derived.Test.YtkknnlhhchielaaGreatDoorEngY
import Derived.KernelRfl
import Derived.Test.YtkknnlhhchielaaGreatDoorProg
set_option linter.all false
namespace Go.Eng
open Go Go.RowKit Go.Proofs
theorem aZ.congr {P:Program} {f:FuncId} {r:Kd} {args:List A} {n:Nat} {g g' : FF} (h:aZ P f r args n g) (e:∀ i j,i<n->j<r.len->g i j=g' i j):aZ P f r args n g':=by
 refine ⟨h.1,fun w okA vs h1 h2 h3=>(h.2 w okA vs h1 h2 h3).mono fun e1 w' hh=>?_⟩
 obtain ⟨v,cap,a1,a2,a3,a4,a5⟩:=hh
 refine ⟨v,cap,a1,a2,a3,a4,a5.imp id fun h4=>?_⟩
 obtain ⟨gb,cur,ee,b1,b2,b3,b4,b5⟩:=h4
 refine ⟨gb,cur,ee,b1,b2,b3,b4,fun i j hi hj=>?_⟩
 rw [<- e i j hi hj]
 exact b5 i j hi hj
def lbN:ao:=⟨fun _ _ {_} _=>none,fun _ _ {_} _=>rfl,fun _ _ _ _ _=>none,fun _ _ _=>none,fun _ _ _ _ _=>none,fun _ _ _ _ {_} _=>none,fun _ _ _ _ {_} _=>rfl⟩
theorem vC {P:Program}:az P lbN:=⟨fun _ _ _ h=>(by cases h),fun _ _ _ _ _ _ h=>(by cases h),fun _ _ _ _ _ h=>(by cases h),fun _ _ _ _ _ _ _ h=>(by cases h),fun _ _ _ _ _ _ h=>(by cases h)⟩
abbrev YN:AF:=D2 79 3 aM 8 [.c (.i .i64 0)]
def Om:AF:=⟨27,[.tmp 4],(.seq (.region 0 [o1 4 (.assign (.const (.slice none 0 0)))] 0 none) []
 (.seq (.seq (.region 1 [mv 5 1,o1 6 (bk .lss 3 5 0)] 0 none) []
 (.cond (tm 6)
 (.region 2 [o1 7 (.iface 9 (.const (.string (ByteArray.mk #[99,97,110,110,111,116,32,98,101,32,110,101,103,97,116,105,118,101])))),o0 (.pan (tm 7))] 0 none)
 .skip)) [5,6,7]
 (.seq (.seq (.region 3 [mv 8 1,mv 9 0,o1 10 (.capN 79 (tm 9)),mv 11 0,o1 12 (.len 79 false (tm 11)),o1 13 (bt .sub 3 10 12),o1 14 (bt .sub 3 8 13),o1 1 (sg 14)] 0 none) []
 (.seq (.region 4 [mv 15 1,o1 16 (bk .gtr 3 15 0)] 0 none) []
 (.cond (tm 16)
 (.region 5 [mv 17 0,mv 18 0,o1 19 (.capN 79 (tm 18)),o1 20 (.slice 79 3 1 (tm 17) none (some (tm 19)) none),mv 21 1,o1 22 (.appendZ 0 79 3 3 (.pr (.int .i64) .nil) 8 [(.i .i64 0)] (tm 20) (tm 21)),mv 23 0,o1 24 (.len 79 false (tm 23)),o1 25 (.slice 79 3 1 (tm 22) none (some (tm 24)) none),o1 0 (sg 25)] 1 none)
 .skip))) (1::(rl 8 18 []))
 (.seq (.region 6 [mv 26 0,o1 4 (sg 26)] 0 none) []
 (.ret (rl 0 4 (rl 5 22 [])))))))⟩
def WR:AF:=⟨36,[.tmp 2],(.seq (.region 0 [o1 2 (.assign (.const (.slice none 0 0)))] 0 none) []
 (.seq (.region 1 [o1 3 (sk 0)] 0 none) []
 (.seq (.seq (.region 2 [mv 9 0,o1 10 (.len 84 false (tm 9)),o1 11 (.move (ic 0))] 0 none) []
 (.block 0
 (.loop [] (1::2::(rl 4 5 (rl 12 24 [])))
  (.seq (.region 3 [o1 12 (bt .lss 3 11 10)] 0 none) []
   (.seq (.cond (tm 12)
   .skip
   (.exit 0 (1::2::(rl 4 32 [])))) []
   (.seq (.block 1
   (.seq (.region 4 [o1 13 (.indexAddr 84 79 1 (tm 9) (tm 11)),o1 14 (lo 79 13),o1 5 (sg 14)] 0 none) []
    (.seq (.region 5 [mv 15 3,mv 16 5,o1 17 (.len 79 false (tm 16)),o1 18 (bt .add 3 15 17),o1 3 (sg 18)] 0 none) []
    (.seq (.region 6 [mv 19 3,o1 20 (bk .lss 3 19 0)] 0 none) []
    (.cond (tm 20)
    (.region 7 [o1 21 (.iface 9 (.const (.string (ByteArray.mk #[108,101,110,32,111,117,116,32,111,102,32,114,97,110,103,101])))),o0 (.pan (tm 21))] 0 none)
    .skip))))) (5::(rl 13 9 []))
   (.region 8 [o1 22 (bk .add 3 11 1),mv 11 22] 0 none))))))) (5::(rl 9 14 []))
 (.seq (.region 9 [mv 23 3,o1 24 (.callo 0 89 [(.const (.slice none 0 0)),(tm 23)] [79,3] (.pr (.int .i64) .nil)),o1 6 (sg 24)] 1 none) []
 (.seq (.seq (.region 10 [mv 25 0,o1 26 (.len 84 false (tm 25)),o1 27 (.move (ic 0))] 0 none) []
 (.block 2
 (.loop [.slot 6 (.pr (.int .i64) .nil)] (rl 0 6 (rl 7 18 (rl 28 8 [])))
  (.seq (.region 11 [o1 28 (bt .lss 3 27 26)] 0 none) []
   (.seq (.cond (tm 28)
   .skip
   (.exit 2 (rl 0 6 (rl 7 29 [])))) []
   (.seq (.block 3
   (.seq (.region 12 [o1 29 (.indexAddr 84 79 1 (tm 25) (tm 27)),o1 30 (lo 79 29),o1 8 (sg 30)] 0 none) []
    (.region 13 [mv 31 6,mv 32 8,o1 33 (.append 0 79 3 (.pr (.int .i64) .nil) 8 (tm 31) (tm 32)),o1 6 (sg 33)] 1 none))) []
   (.region 14 [o1 34 (bk .add 3 27 1),mv 27 34] 0 none))))))) (8::(rl 25 10 []))
 (.seq (.region 15 [mv 35 6,o1 2 (sg 35)] 0 none) []
 (.ret (0::1::(rl 3 33 [])))))))))⟩
theorem Ol {P:Program} (hmix:P.follows .mixedOrders=true) (hF:cd P 89 Om) (k:Int) (g:FF) (hk:0<=k/\k<=4):aZ P 89 aM [.v (.ro true aM 0 g),.v (vi k)] 0 g:=by
 obtain ⟨h0,h1⟩:=hk
 have:k=0\/k=1\/k=2\/k=3\/k=4:=by omega
 rcases this with rfl | rfl | rfl | rfl | rfl
 ·exact oK (C:=lbN) (fuel:=2) hmix vC hF (tr:=4) rfl rfl rfl (show _=some (0,g) by kernel_rfl)
 all_goals exact (oK (C:=lbN) (fuel:=2) hmix vC hF (tr:=4) rfl rfl rfl (show _=some (0,fun _ j=>au [vi 0] j) by kernel_rfl)).congr fun i j hi=>by omega
def DS (f:FuncId) (xs:List A):Option (Nat × FF) :=
 match xs with
 | [.v (.ro true _ 0 _),.v (.i .i64 k)]=>bif Nat.beq f 89&&(decide (0<=k)&&decide (k<=4)) then some (0,fun _ _=>.any) else none
 | _=>none
def lbO:ao:=⟨fun _ _ {_} _=>none,fun _ _ {_} _=>rfl,fun _ _ _ _ _=>none,fun f r xs=>bif r.beq aM then DS f xs else none,fun _ _ _ _ _=>none,fun _ _ _ _ {_} _=>none,fun _ _ _ _ {_} _=>rfl⟩
theorem Kj {P:Program} (hmix:P.follows .mixedOrders=true) (hF:cd P 89 Om):az P lbO:=by
 refine ⟨(fun _ _ _ h=>by cases h),(fun _ _ _ _ _ _ h=>by cases h),(fun f r xs n g hf hn=>?_),(fun _ _ _ _ _ _ _ h=>by cases h),(fun _ _ _ _ _ _ h=>by cases h)⟩
 have hf:(bif r.beq aM then DS f xs else none)=some (n,g):=hf
 obtain ⟨h1,h2⟩:=ah hf
 have:=Kd.eq_of_beq h1
 subst this
 unfold DS at h2
 split at h2
 ·obtain ⟨h3,h4⟩:=ah h2
  simp only [qaZ,decide_eq_true_eq] at h3
  cases h4
  have e:=qbZ h3.1
  subst e
  refine aZ.weaken (.cons (WkA.v fun ok w v hv=>?_) (.cons (WkA.v (Wk.refl _)) .nil)) (Ol hmix hF _ _ h3.2)
  obtain ⟨a,cap,q1,q2,q3,q4,q5⟩:=hv
  exact ⟨a,cap,q1,q2,q3,q4,.inl rfl⟩
 ·cases h2
def Sm (a b:CV):FF:=fun i _=>match i with
 | 0=>a
 | _=>b
theorem G0 {P:Program} (hmix:P.follows .mixedOrders=true) (hF:cd P 89 Om) (hC:cd P 57 WR) (f1 f2:Bool) (n1 n2:Nat) (g1 g2:FF) (hn:n1+n2<=4) :
  aZ P 57 aM [.v (.ro false (.pr (.sl aM) .nil) 2 (Sm (.ro f1 aM n1 g1) (.ro f2 aM n2 g2)))] (n1+n2) (aB n1 g1 g2):=by
 have h:aZ P 57 aM [.v (.ro false (.pr (.sl aM) .nil) 2 (Sm (.ro f1 aM n1 g1) (.ro f2 aM n2 g2)))] (0+n1+n2) (aB (0+n1) (aB 0 (fun _ _=>.any) g1) g2):=by
  refine oK (C:=lbO) (fuel:=4) hmix (Kj hmix hF) hC (tr:=2) rfl rfl rfl ?_
  rcases n1 with _ | _ | _ | _ | _ | n1
  all_goals rcases n2 with _ | _ | _ | _ | _ | n2
  all_goals first | omega | (show _=_;kernel_rfl)
 rw [rlZ] at h
 refine h.congr fun i j hi hj=>?_
 unfold aB
 cases hh:Nat.blt i n1 with
 | true=>rfl
 | false=>rfl
theorem Wi {P:Program} (hmix:P.follows .mixedOrders=true) (hu:P.underlying 79=some (.slice 3)) (hK:cd P 54 YN) (hF:cd P 89 Om) (hC:cd P 57 WR):sj P where
 clone fl n g hn:=by
  have hb:Nat.ble (0+n) 1073741824=true:=by rw [rlZ,Nat.ble_eq];omega
  exact (Ak (C:=lbN) hmix vC hK rfl rfl hu n g fl (by kernel_rfl) ((show _=bif Nat.ble (0+n) 1073741824 then some (0+n,aB 0 (aG 1 []) g) else none from by kernel_rfl).trans (by rw [hb];rfl)))
 concat fl h f1 n1 g1 f2 n2 g2 h1 h2 hn:=by
  refine aZ.weaken (.cons (WkA.v fun ok w v hv=>?_) .nil) (G0 hmix hF hC f1 f2 n1 n2 g1 g2 hn)
  obtain ⟨a,cap,q1,q2,q3,_,q5⟩:=hv
  refine ⟨a,cap,q1,q2,q3,(fun h=>by cases h),?_⟩
  rcases q5 with q5 | ⟨gb,off,e1,e2,e3⟩
  ·exact .inl q5
  refine .inr ⟨gb,off,e1,e2,fun i j hi hj=>?_⟩
  have hj0:j=0:=by have:j<1:=hj;omega
  subst hj0
  have:=e3 i 0 hi hj
  match i,hi with
  | 0,_=>rw [h1] at this;exact this
  | 1,_=>rw [h2] at this;exact this
end Go.Eng
