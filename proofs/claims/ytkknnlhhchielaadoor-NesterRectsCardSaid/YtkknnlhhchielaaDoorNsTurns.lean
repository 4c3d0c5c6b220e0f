/-
 nester.turns: the iterator shown by hand.
-/
import Derived.Test.YtkknnlhhchielaaDoorEngIt6
import Derived.Test.YtkknnlhhchielaaDoorEngQ
import Derived.Test.YtkknnlhhchielaaDoorEngZ1
import Derived.LoopNIn
set_option linter.all false
namespace Go.Eng
open Go Go.RowKit
def stepL : List Int → Option (List Int)
 | [] => none
 | x :: l => bif x == 1 then (match stepL l with | some l' => some (-1 :: l') | none => none) else some ((x + 1) :: l)
def turnL (n : Nat) : Nat → List Int
 | 0 => List.replicate n (-1)
 | c + 1 => match stepL (turnL n c) with
  | some l => l
  | none => []
def fL (l : List Int) : FF := fun i _ => vi (l.getD i 0)
def roL (l : List Int) : CV := .ro false intR l.length (fL l)
def turnN (n : Nat) : Nat := 3 ^ n
def itT : CV → Option (Bool × Nat × (Nat → CV))
 | .i .i64 k => some (decide (0 ≤ k) && decide (k ≤ 4), turnN k.toNat, fun c => roL (turnL k.toNat c))
 | _ => none
def itFresh (f : FuncId) (as : List A) : Option (Nat × FF) :=
 match as with
 | [.v (.ro _ (.pr (.int .i64) .nil) n g)] => bif Nat.beq f 35 && Nat.ble n 8 then some (n, g) else none
 | [.v (.ro _ (.pr (.sl (.pr (.int .i64) .nil)) .nil) 2 h)] => bif Nat.beq f 38 then (match h 0 0, h 1 0 with
  | .ro _ (.pr (.int .i64) .nil) n1 g1, .ro _ (.pr (.int .i64) .nil) n2 g2 => bif Nat.ble (n1 + n2) 4 then some (n1 + n2, joinF n1 g1 g2) else none
  | _, _ => none) else none
 | _ => none
def itO : Oracle := ⟨fun _ _ {_} _ => none, fun _ _ {_} _ => rfl, fun _ _ _ _ _ => none, fun f r as => bif r.beq intR then itFresh f as else none, fun _ _ _ _ _ => none, fun _ _ _ _ {_} _ => none, fun _ _ _ _ {_} _ => rfl⟩
structure ItLib (P : Program) : Prop where
 clone : ∀ fl n g, n ≤ 8 → FreshDen P 35 intR [.v (.ro fl intR n g)] n g
 concat : ∀ fl h f1 n1 g1 f2 n2 g2, h 0 0 = .ro f1 intR n1 g1 → h 1 0 = .ro f2 intR n2 g2 → n1 + n2 ≤ 4 → FreshDen P 38 intR [.v (.ro fl (.pr (.sl intR) .nil) 2 h)] (n1 + n2) (joinF n1 g1 g2)
theorem itO_sound {P : Program} (h : ItLib P) : Sound P itO := by
 refine ⟨(fun _ _ _ h => by cases h), (fun _ _ _ _ _ _ h => by cases h), (fun f r as n g hf hn => ?_), (fun _ _ _ _ _ _ _ h => by cases h), (fun _ _ _ _ _ _ h => by cases h)⟩
 have hf : (bif r.beq intR then itFresh f as else none) = some (n, g) := hf
 obtain ⟨h1, h2⟩ := bif_some hf
 have := Kd.eq_of_beq h1
 subst this
 unfold itFresh at h2
 split at h2
 ·obtain ⟨h3, h4⟩ := bif_some h2
  rw [Bool.and_eq_true] at h3
  cases h4
  have e := Nat.eq_of_beq_eq_true h3.1
  subst e
  exact h.clone _ _ _ (Nat.le_of_ble_eq_true h3.2)
 ·obtain ⟨h3, h4⟩ := bif_some h2
  have e := Nat.eq_of_beq_eq_true h3
  subst e
  split at h4
  ·rename_i q1 q2
   obtain ⟨h5, h6⟩ := bif_some h4
   cases h6
   exact h.concat _ _ _ _ _ _ _ _ q1 q2 (Nat.le_of_ble_eq_true h5)
  ·cases h4
 ·cases h2
def tuK0 : List Nat := 2 :: rl 4 5 (rl 11 35 [])
def tuR0 : List FOp := [o1 6 (lo 3 1), o1 7 (.makeSlice 0 75 3 intR 8 [vi 0] (tm 6) (tm 6)), o1 3 (sg 7)]
def tuA1 : AC :=
 .seq (.region 1 [mv 8 3, o1 9 (.len 75 false (tm 8)), o1 10 (.move (ic 0))] 0 none) []
  (.block 0 (.loop [] tuK0 (.seq (.region 2 [o1 11 (bt .lss 3 10 9)] 0 none) [] (.seq (.cond (tm 11) .skip (.exit 0 [])) []
   (.seq (.block 1 (.seq (.region 3 [mv 12 10, o1 4 (sg 12)] 0 none) [] (.region 4 [mv 13 3, mv 14 4, o1 15 (.indexAddr 75 3 1 (tm 13) (tm 14)), o0 (.store 3 1 (tm 15) (ic (-1)))] 0 none))) [] (.region 5 [o1 16 (bk .add 3 10 1), mv 10 16] 0 none))))))
def tuK : List Nat := 0 :: 2 :: rl 4 42 []
def tuR6 : List FOp := [mv 17 0, mv 18 3, o1 19 (.callo 0 35 [tm 18] [75] intR), o1 20 (.callv (tm 17) [tm 19] [75] .snap), o1 21 (.unOp .not 4 (tm 20))]
def tuN : AC :=
 .seq (.region 7 [o1 5 (sk 0)] 0 none) []
  (.seq (.block 4 (.loop [] (2 :: 4 :: rl 6 40 []) (.seq (.seq (.region 8 [mv 22 5, o1 23 (lo 3 1), o1 24 (bt .lss 3 22 23), mv 25 24, og 26 (.move (tm 3)) 25 true, og 27 (.move (tm 5)) 25 true, og 28 (.indexAddr 75 3 1 (tm 26) (tm 27)) 25 true, og 29 (lo 3 28) 25 true, og 30 (bk .eql 3 29 1) 25 true, o1 31 (po 25 30)] 0 none) []
   (.cond (tm 31) .skip (.exit 4 []))) [] (.block 5 (.seq (.region 9 [mv 32 3, mv 33 5, o1 34 (.indexAddr 75 3 1 (tm 32) (tm 33)), o0 (.store 3 1 (tm 34) (ic (-1)))] 0 none) [] (.region 10 [mv 35 5, o1 36 (bk .add 3 35 1), o1 5 (sg 36)] 0 none)))))) []
   (.seq (.seq (.region 11 [mv 37 5, o1 38 (lo 3 1), o1 39 (bt .eql 3 37 38)] 0 none) [] (.cond (tm 39) (.ret []) .skip)) []
    (.region 12 [mv 40 3, mv 41 5, o1 42 (.indexAddr 75 3 1 (tm 40) (tm 41)), o1 43 (lo 3 42), o1 44 (bk .add 3 43 1), o1 45 (.indexAddr 75 3 1 (tm 40) (tm 41)), o0 (.store 3 1 (tm 45) (tm 44))] 0 none)))
def tuF : AF := ⟨46, [], .seq (.region 0 tuR0 1 none) [] (.seq tuA1 [] (.block 2 (.loop [] [] (.block 3 (.seq (.seq (.region 6 tuR6 1 none) [] (.cond (tm 21) (.ret []) .skip)) [] tuN)))))⟩
def isU : V → Bool
 | .u => true
 | _ => false
def tuE (y : V) (n : Nat) : List V := y :: .x (.c (.rp (.pr (.int .i64) .nil) (fun _ => vi (Int.ofNat n)))) :: .u :: .x (.own 0 0 n) :: us 42 []
def tuR (n : Nat) (st : St) : Option (Option (List Int)) := match st.norm tuK 1 with
 | some ⟨_ :: _ :: e2 :: .x (.own 0 0 m) :: rest, [.arr (.pr (.int .i64) .nil) m' f]⟩ => bif Nat.beq m n && (Nat.beq m' n && (isU e2 && (rest.all isU && Nat.beq rest.length 42))) then some (some ((List.range n).map fun i => CV.int (f i 0))) else none
 | _ => none
def tuS (n : Nat) : Ex → St → Option (Option (List Int)) := fun e st => match e with
 | .ret => some none
 | .normal => tuR n st
 | _ => none
def tuC0 (n : Nat) : Option (Option (List Int)) := evalC itO 10 (.seq (.region 0 tuR0 1 none) [] tuA1) ⟨.u :: .x (.c (.rp (.pr (.int .i64) .nil) (fun _ => vi (Int.ofNat n)))) :: List.replicate 44 .undef, []⟩ (tuS n)
def tuC (n : Nat) (l : List Int) : Option (Option (List Int)) := evalC itO 10 tuN ⟨tuE .u n, [.arr intR n (fL l), .dead]⟩ (tuS n)
theorem tuC0_all : ((List.range 5).all fun n => tuC0 n == some (some (turnL n 0))) = true := by decide +kernel
theorem tuC0_eq {n : Nat} (hn : n ≤ 4) : tuC0 n = some (some (turnL n 0)) := by
 have := List.all_eq_true.1 tuC0_all n (List.mem_range.2 (by omega))
 rwa [beq_iff_eq] at this
def tuChk : Bool := (List.range 5).all fun n => (List.range (turnN n)).all fun c => Nat.beq (turnL n c).length n && ((tuC n (turnL n c) == some (stepL (turnL n c))) && ((stepL (turnL n c)).isNone == Nat.beq (c + 1) (turnN n)))
theorem tuChk_eq : tuChk = true := by decide +kernel
theorem tu_facts {n c : Nat} (hn : n ≤ 4) (hc : c < turnN n) : (turnL n c).length = n ∧ tuC n (turnL n c) = some (stepL (turnL n c)) ∧ ((stepL (turnL n c)).isNone = Nat.beq (c + 1) (turnN n)) := by
 have h := List.all_eq_true.1 (List.all_eq_true.1 tuChk_eq n (List.mem_range.2 (by omega))) c (List.mem_range.2 hc)
 rw [Bool.and_eq_true, Bool.and_eq_true, beq_iff_eq, beq_iff_eq] at h
 exact ⟨Nat.eq_of_beq_eq_true h.1, h.2.1, h.2.2⟩
end Go.Eng
