/-
 NesterRects returns true for all arguments, and leaves them as they were. No condition.
-/
import Derived.Test.YtkknnlhhchielaaDoorSBaseR
import Derived.Test.YtkknnlhhchielaaDoorNpSums
import Derived.Test.YtkknnlhhchielaaDoorCards
import Derived.Test.YtkknnlhhchielaaDoorTie
import Derived.SevenTiedAt
set_option linter.all false
namespace Go.Proofs.YtkknnlhhchielaaDoor
open Go.ChangeShapes Go.WideShapes Go.ChangeAt Go.RowKit Go.Eng
theorem nesterrects_den (l0 : List CV) (hl0 : l0.length = rowA31.len) (hk0 : ∀ (j : Nat) (c : CV), l0[j]? = some c → (rowA31.nth j).okP c ∧ c.wf) (fl1c0 : Bool) (n1c0 : Nat) (f1c0 : Nat → Nat → CV) (h1c0 : SlIn (.pr (.int .i64) (.pr (.int .i64) (.pr (.int .i64) (.pr (.int .i64) .nil)))) n1c0 f1c0) (a2c0 : Int) (a2c1 : Int) (a2c2 : Int) (a2c3 : Int) (a2c4 : Int) (a2c5 : Int) (a2c6 : Int) (h2c0 : I64 a2c0) (h2c1 : I64 a2c1) (h2c2 : I64 a2c2) (h2c3 : I64 a2c3) (h2c4 : I64 a2c4) (h2c5 : I64 a2c5) (h2c6 : I64 a2c6) :
  Den Tryd.prog 3 [.agg l0, .v (.ro fl1c0 (.pr (.int .i64) (.pr (.int .i64) (.pr (.int .i64) (.pr (.int .i64) .nil)))) n1c0 f1c0), .agg [.i .i64 a2c0, .i .i64 a2c1, .i .i64 a2c2, .i .i64 a2c3, .i .i64 a2c4, .i .i64 a2c5, .i .i64 a2c6]] [.v (.b true)] := by
 refine R13.w407 mix (fuel := 100) ?_
 have h : (R13.O407 100).o [.agg l0, .v (.ro fl1c0 (.pr (.int .i64) (.pr (.int .i64) (.pr (.int .i64) (.pr (.int .i64) .nil)))) n1c0 f1c0), .agg [.i .i64 a2c0, .i .i64 a2c1, .i .i64 a2c2, .i .i64 a2c3, .i .i64 a2c4, .i .i64 a2c5, .i .i64 a2c6]] some = bif fitsL rowA31 l0 then (ob (R13.F407 100 (listF l0) n1c0 f1c0 a2c0 a2c1 a2c2 a2c3 a2c4 a2c5 a2c6) fun t => some [.v (.b t)]) else none := by kernel_rfl
 rw [h, fitsL_of chain31 hl0 hk0, cond_true, R13.rects24 (listF l0) (rowIn_of hl0 hk0) n1c0 f1c0 h1c0 a2c0 a2c1 a2c2 a2c3 a2c4 a2c5 a2c6 h2c0 h2c1 h2c2 h2c3 h2c4 h2c5 h2c6]
 rfl
set_option maxRecDepth 100000 in
theorem nesterrects_lifted (os : Os) (started : os.Started) (H : Type) (enc : TypeId × Value → H) :
  ReturnsInHanded {} Tryd.checked os 3 .any (fun w args => (Rows.nesterRectsSpec.pre enc Tryd.prog Tryd.f3 [] false w args ∧ laidMetH Tryd.prog laidL w) ∧ sizedMet enc Tryd.prog Tryd.f3 (OpenSpec.ofChange Rows.nesterRectsSpec) false w args)
   (Rows.nesterRectsSpec.post enc Tryd.prog Tryd.f3 false true false false) := by
 refine returnsInHanded_of_change_and (C := Tryd.checked) (X := fun w _ => laidMetH Tryd.prog laidL w) (fun _ _ _ hh h => h.of_heap hh) own started (by kernel_rfl) Tryd.func3
  (ChangeSpec.witness_shaped (enc := enc) (C := Tryd.checked) (os := os) (X := fun w _ => laidMetH Tryd.prog laidL w) false (World.doorLaid Tryd.prog 400 os) #[.agg #[.string ByteArray.empty, .int .i64 0, .int .i64 0, .string ByteArray.empty, .string ByteArray.empty, .int .i64 0, .slice none 0 0, .slice none 0 0, .string ByteArray.empty, .int .i64 0, .int .i64 0, .int .i64 0, .int .i64 0, .int .i64 0, .int .i64 0, .int .i64 0, .int .i64 0, .int .i64 0], .slice none 0 0, .agg #[.int .i64 0, .int .i64 0, .int .i64 0, .int .i64 0, .int .i64 0, .int .i64 0, .int .i64 0]] 8 rfl (World.shaped_of_RefB (by kernel_rfl) (by kernel_rfl)) (by kernel_rfl) (by kernel_rfl) (by kernel_rfl) (door_met os _)) ?_
 intro W base args ds gs before hval0 hW _ _ hL _
 have hval : ∀ (j : Nat) t v, Tryd.f3.params[j]? = some t → args[j]? = some v → Value.okWide Tryd.prog W .any base t v := hval0
 have hW' := hW
 obtain ⟨p, q, hA0, hV, rfl, hfz, hnd⟩ := hW
 have hA : DataW.TrodAll enc Tryd.prog W 0 (fun _ => true) true Tryd.f3.params.toList args.toList ds p := hA0
 rw [Tryd.params3] at hA hval
 obtain ⟨v0, v1, v2, d0, d1, d2, p0, p1, p2, rfl, rfl, rfl, h0, h1, h2⟩ := trodAll_three hA
 obtain ⟨rfl, rfl⟩ := trodVars_none hV
 obtain ⟨cs0, rfl, _⟩ := okWide_struct Tryd.underlying31 (hval 0 31 v0 rfl rfl)
 obtain ⟨al1, len1, cap1, rfl⟩ := okWide_slice Tryd.underlying32 (hval 1 32 v1 rfl rfl)
 obtain ⟨cs2, rfl, _⟩ := okWide_struct Tryd.underlying36 (hval 2 36 v2 rfl rfl)
 clear hA0 hval0
 obtain ⟨l0, hl0, hk0, hr0⟩ := open_argN (d := 12) row31 h0
 obtain ⟨c1, hk1, hw1, hr1⟩ := open_arg1 (d := 12) row32 rfl h1
 obtain ⟨fl1c0, n1c0, f1c0, rfl⟩ := (show ∃ fl n f, c1 = .ro fl (.pr (.int .i64) (.pr (.int .i64) (.pr (.int .i64) (.pr (.int .i64) .nil)))) n f from hk1)
 have h1c0 : SlIn (.pr (.int .i64) (.pr (.int .i64) (.pr (.int .i64) (.pr (.int .i64) .nil)))) n1c0 f1c0 := hw1
 obtain ⟨l2, hl2, hk2, hr2⟩ := open_argN (d := 12) row36 h2
 obtain ⟨a2c0, a2c1, a2c2, a2c3, a2c4, a2c5, a2c6, rfl, h2c0, h2c1, h2c2, h2c3, h2c4, h2c5, h2c6⟩ := open36 hl2 hk2
 have hlt0 : ∀ x ∈ p0, x.block < W.heap.size := fun x hx => by simpa using hW'.lt x (by simp [hx])
 have hlt1 : ∀ x ∈ p1, x.block < W.heap.size := fun x hx => by simpa using hW'.lt x (by simp [hx])
 have hlt2 : ∀ x ∈ p2, x.block < W.heap.size := fun x hx => by simpa using hW'.lt x (by simp [hx])
 refine (law_calls (nesterrects_den l0 hl0 hk0 fl1c0 n1c0 f1c0 h1c0 a2c0 a2c1 a2c2 a2c3 a2c4 a2c5 a2c6 h2c0 h2c1 h2c2 h2c3 h2c4 h2c5 h2c6) (glob_of hL) (ARs.cons hr0 (ARs.cons hr1 (ARs.cons hr2 ARs.nil)))).mono fun e W' ⟨he, hb⟩ => ?_
 subst he
 refine ⟨_, rfl, _, _, _, [], _, [], hW', trodAll_mk1 (shut_bool Tryd.underlying4 true),
  trodAll_mk3 (Below.trod laidOut (by kernel_rfl) (of_decide_eq_true (by kernel_rfl)) h0 hb.1 hlt0) (Below.trod laidOut (by kernel_rfl) (of_decide_eq_true (by kernel_rfl)) h1 hb.1 hlt1) (Below.trod laidOut (by kernel_rfl) (of_decide_eq_true (by kernel_rfl)) h2 hb.1 hlt2), rfl, hb.frame _, fun h => by cases h⟩
theorem nesterrects_holds : Rows.NesterRectsSaid :=
 OpenClaim.holds_of_wide 3 Tryd.f3 rfl rfl rfl rfl rfl rfl rfl ⟨rfl, rfl, rfl, rfl, rfl⟩ rfl rfl rfl rfl rfl (by kernel_rfl) Tryd.func3 (by kernel_rfl)
  (of_decide_eq_true (by kernel_rfl)) (by unfold Func.isWrapper; first | (rw [if_pos (by decide +kernel)]; kernel_rfl) | (rw [if_neg (by decide +kernel)]; exact ⟨rfl, rfl⟩))
  (fun os started H enc _ => nesterrects_lifted os started H enc)
theorem nesterrects_card : Rows.NesterRectsCardSaid :=
 Claim7.holds_tied_plain_at .later [] [.data] true (true, "08b5a6438f9df635f06263183c3c94116b358525f28c538c6944f20e1a2ced26") false
  nesterrects_holds (fun _ h => by cases h) (by kernel_rfl) (fun _ h => by cases h) nesterRects_row_tie rfl ⟨rfl, rfl⟩ (by kernel_rfl) rfl
  (fun f fn hf hfn => by
   obtain rfl : f = 3 := Option.some.inj ((show Tryd.prog.funcNamed "shipyard/shipyardlaw24.NesterRects" = some 3 by kernel_rfl).symm.trans hf) |>.symm
   obtain rfl : fn = Tryd.f3 := (Option.some.inj (Tryd.func3.symm.trans hfn)).symm
   exact ⟨by kernel_rfl, fun j t ht => by
    rw [Tryd.params3] at ht
    have hm : t ∈ [31, 32, 36] := by simpa using Array.mem_of_getElem? ht
    have hall : ([31, 32, 36].all fun u => !Tryd.prog.wantsStandIn u) = true := by kernel_rfl
    exact (show Tryd.prog.wantsStandIn t = false by simpa using List.all_eq_true.1 hall t hm)⟩)
  (by kernel_rfl)
#print axioms nesterrects_card
end Go.Proofs.YtkknnlhhchielaaDoor
