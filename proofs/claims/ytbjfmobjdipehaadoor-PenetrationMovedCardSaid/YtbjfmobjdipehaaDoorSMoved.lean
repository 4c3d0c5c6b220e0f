/-
  PenetrationMoved returns true for all arguments, and leaves them as they were. No condition.
-/
import Derived.Test.YtbjfmobjdipehaaDoorSBase
import Derived.Test.YtbjfmobjdipehaaDoorPpCuts
import Derived.Test.YtbjfmobjdipehaaDoorCards
import Derived.Test.YtbjfmobjdipehaaDoorTie
import Derived.SevenTiedAt
set_option linter.all false
namespace Go.Proofs.YtbjfmobjdipehaaDoor
open Go.ChangeShapes Go.WideShapes Go.ChangeAt Go.RowKit Go.Eng
theorem penetrationmoved_den (l0 : List CV) (hl0 : l0.length = rowA56.len) (hk0 : ∀ (j : Nat) (c : CV), l0[j]? = some c → (rowA56.nth j).okP c ∧ c.wf) :
    Den Tryd.prog 8 [.agg l0] [.v (.b true)] := by
  refine R13.w162 mix (fuel := 100) ?_
  have h : (R13.O162 100).o [.agg l0] some = bif fitsL rowA56 l0 then (ob (R13.F162 100 (listF l0)) fun t => some [.v (.b t)]) else none := by kernel_rfl
  rw [h, fitsL_of chain56 hl0 hk0, cond_true, R13.moved46 (listF l0) (rowIn_of hl0 hk0)]
  rfl
set_option maxRecDepth 100000 in
theorem penetrationmoved_lifted (os : Os) (started : os.Started) (H : Type) (enc : TypeId × Value → H) :
    ReturnsInHanded {} Tryd.checked os 8 .any (fun w args => (Rows.penetrationMovedSpec.pre enc Tryd.prog Tryd.f8 [] false w args ∧ laidMetH Tryd.prog laidL w) ∧ sizedMet enc Tryd.prog Tryd.f8 (OpenSpec.ofChange Rows.penetrationMovedSpec) false w args)
      (Rows.penetrationMovedSpec.post enc Tryd.prog Tryd.f8 false true false false) := by
  refine returnsInHanded_of_change_and (C := Tryd.checked) (X := fun w _ => laidMetH Tryd.prog laidL w) (fun _ _ _ hh h => h.of_heap hh) own started (by kernel_rfl) Tryd.func8
    (ChangeSpec.witness_shaped (enc := enc) (C := Tryd.checked) (os := os) (X := fun w _ => laidMetH Tryd.prog laidL w) false (World.doorLaid Tryd.prog 400 os) #[.agg #[.string ByteArray.empty, .int .i64 0, .int .i64 0, .string ByteArray.empty, .string ByteArray.empty, .int .i64 0, .slice none 0 0, .slice none 0 0, .string ByteArray.empty, .int .i64 0, .int .i64 0, .int .i64 0, .int .i64 0, .int .i64 0, .int .i64 0, .int .i64 0, .int .i64 0, .int .i64 0, .slice none 0 0, .int .i64 0, .int .i64 0, .int .i64 0, .int .i64 0]] 8 rfl (World.shaped_of_RefB (by kernel_rfl) (by kernel_rfl)) (by kernel_rfl) (by kernel_rfl) (by kernel_rfl) (door_met os _)) ?_
  intro W base args ds gs before hval0 hW _ _ hL _
  have hval : ∀ (j : Nat) t v, Tryd.f8.params[j]? = some t → args[j]? = some v → Value.okWide Tryd.prog W .any base t v := hval0
  have hW' := hW
  obtain ⟨p, q, hA0, hV, rfl, hfz, hnd⟩ := hW
  have hA : DataW.TrodAll enc Tryd.prog W 0 (fun _ => true) true Tryd.f8.params.toList args.toList ds p := hA0
  rw [Tryd.params8] at hA hval
  obtain ⟨v0, d0, rfl, rfl, h0⟩ := trodAll_one hA
  obtain ⟨rfl, rfl⟩ := trodVars_none hV
  obtain ⟨cs0, rfl, _⟩ := okWide_struct Tryd.underlying56 (hval 0 56 v0 rfl rfl)
  clear hA0 hval0
  obtain ⟨l0, hl0, hk0, hr0⟩ := open_argN (d := 8) row56 h0
  have hlt0 : ∀ x ∈ p, x.block < W.heap.size := fun x hx => by simpa using hW'.lt x (by simp [hx])
  refine (law_calls (penetrationmoved_den l0 hl0 hk0) (glob_of hL) (ARs.cons hr0 ARs.nil)).mono fun e W' ⟨he, hb⟩ => ?_
  subst he
  refine ⟨_, rfl, _, _, _, [], _, [], hW', trodAll_mk1 (shut_bool Tryd.underlying4 true),
    trodAll_mk1 (Below.trod laidOut (by kernel_rfl) (of_decide_eq_true (by kernel_rfl)) h0 hb hlt0), rfl, hb.frame _, fun h => by cases h⟩
theorem penetrationmoved_holds : Rows.PenetrationMovedSaid :=
  OpenClaim.holds_of_wide 8 Tryd.f8 rfl rfl rfl rfl rfl rfl rfl ⟨rfl, rfl, rfl, rfl, rfl⟩ rfl rfl rfl rfl rfl (by kernel_rfl) Tryd.func8 (by kernel_rfl)
    (of_decide_eq_true (by kernel_rfl)) (by unfold Func.isWrapper; first | (rw [if_pos (by decide +kernel)]; kernel_rfl) | (rw [if_neg (by decide +kernel)]; exact ⟨rfl, rfl⟩))
    (fun os started H enc _ => penetrationmoved_lifted os started H enc)
theorem penetrationmoved_card : Rows.PenetrationMovedCardSaid :=
  Claim7.holds_tied_plain_at .later [] [.data] true (true, "ee3ee7484c73263e9fa5b6bb2edf5d6362ab246478d3e2e553ccb69822bc8a49") false
    penetrationmoved_holds (fun _ h => by cases h) (by kernel_rfl) (fun _ h => by cases h) penetrationMoved_row_tie rfl ⟨rfl, rfl⟩ (by kernel_rfl) rfl
    (fun f fn hf hfn => by
      obtain rfl : f = 8 := Option.some.inj ((show Tryd.prog.funcNamed "shipyard/shipyardlaw46.PenetrationMoved" = some 8 by kernel_rfl).symm.trans hf) |>.symm
      obtain rfl : fn = Tryd.f8 := (Option.some.inj (Tryd.func8.symm.trans hfn)).symm
      exact ⟨by kernel_rfl, fun j t ht => by
        rw [Tryd.params8] at ht
        have hm : t ∈ [56] := by simpa using Array.mem_of_getElem? ht
        have hall : ([56].all fun u => !Tryd.prog.wantsStandIn u) = true := by kernel_rfl
        exact (show Tryd.prog.wantsStandIn t = false by simpa using List.all_eq_true.1 hall t hm)⟩)
    (by kernel_rfl)
#print axioms penetrationmoved_card
end Go.Proofs.YtbjfmobjdipehaaDoor
