/-
 NeedOpen returns true for all arguments, and leaves them as they were. No condition.
-/
import Derived.Test.YtajhkinnmdlokaaSBase
import Derived.Test.YtajhkinnmdlokaaNdOpen
set_option linter.all false
namespace Go.Proofs.Ytajhkinnmdlokaa
open Go.ChangeShapes Go.WideShapes Go.ChangeAt Go.RowKit Go.Eng
theorem needopen_den (l0 : List CV) (hl0 : l0.length = rowA41.len) (hk0 : ∀ (j : Nat) (c : CV), l0[j]? = some c → (rowA41.nth j).okP c ∧ c.wf) :
  Den Try.prog 5 [.agg l0] [.v (.b true)] := by
 refine R13.w281 mix (fuel := 4000) ?_
 have h : (R13.O281 4000).o [.agg l0] some = bif fitsL rowA41 l0 then (ob (R13.F281 4000 (listF l0)) fun t => some [.v (.b t)]) else none := by kernel_rfl
 rw [h, fitsL_of chain41 hl0 hk0, cond_true, R13.open51 (listF l0) (rowIn_of hl0 hk0)]
 rfl
set_option maxRecDepth 100000 in
theorem needopen_lifted (os : Os) (started : os.Started) (H : Type) (enc : TypeId × Value → H) :
  ReturnsInHanded {} Try.checked os 5 .any (Rows.needOpenSpec.pre6 enc Try.prog Try.f5 Rows.needOpenRow.domain false) (Rows.needOpenSpec.post enc Try.prog Try.f5 false true false false) := by
 refine returnsInHanded_of_change (C := Try.checked) own started (by kernel_rfl) Try.func5
  (ChangeSpec.witness6 (enc := enc) (C := Try.checked) false ⟨#[], #[.agg #[.string ByteArray.empty, .slice none 0 0, .slice none 0 0, .slice none 0 0, .slice none 0 0, .slice none 0 0, .slice none 0 0, .slice none 0 0, .string ByteArray.empty]], []⟩ 8 (by kernel_rfl) (by kernel_rfl) (by kernel_rfl) (by kernel_rfl)) ?_
 intro W base args ds gs before hval0 hW hcnd _
 have hval : ∀ (j : Nat) t v, Try.f5.params[j]? = some t → args[j]? = some v → Value.okWide Try.prog W .any base t v := hval0
 have hW' := hW
 obtain ⟨p, q, hA0, hV, rfl, hfz, hnd⟩ := hW
 have hA : DataW.TrodAll enc Try.prog W 0 (fun _ => true) true Try.f5.params.toList args.toList ds p := hA0
 rw [Try.params5] at hA hval
 obtain ⟨v0, d0, rfl, rfl, h0⟩ := trodAll_one hA
 obtain ⟨rfl, rfl⟩ := trodVars_none hV
 obtain ⟨cs0, rfl, _⟩ := okWide_struct Try.underlying41 (hval 0 41 v0 rfl rfl)
 clear hA0 hval0
 obtain ⟨l0, hl0, hk0, hr0⟩ := open_argN (d := 12) row41 h0
 have hlt0 : ∀ x ∈ p, x.block < W.heap.size := fun x hx => by simpa using hW'.lt x (by simp [hx])
 refine (law_calls (needopen_den l0 hl0 hk0) (fun g r h hh => by cases hh) (ARs.cons hr0 ARs.nil)).mono fun e W' ⟨he, hb⟩ => ?_
 subst he
 refine ⟨_, rfl, _, _, _, [], _, [], hW', trodAll_mk1 (shut_bool Try.underlying4 true),
  trodAll_mk1 (Below.trod laidOut (by kernel_rfl) (of_decide_eq_true (by kernel_rfl)) h0 hb.1 hlt0), rfl, hb.frame _, fun h => by cases h⟩
theorem needopen_holds : Rows.NeedOpenSaid :=
 OpenClaim.holds_of_wide 5 Try.f5 rfl rfl rfl rfl rfl rfl rfl ⟨rfl, rfl, rfl, rfl, rfl⟩ rfl rfl rfl rfl rfl (by kernel_rfl) Try.func5 (by kernel_rfl)
  (of_decide_eq_true (by kernel_rfl)) (by unfold Func.isWrapper; first | (rw [if_pos (by decide +kernel)]; kernel_rfl) | (rw [if_neg (by decide +kernel)]; exact ⟨rfl, rfl⟩))
  (fun os started H enc _ => needopen_lifted os started H enc)
#print axioms needopen_holds
end Go.Proofs.Ytajhkinnmdlokaa
