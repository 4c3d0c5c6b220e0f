/-
 PolyWraps returns true for all arguments, and leaves them as they were. No condition.
-/
import Derived.Test.YtngjgbhdhaopmaaSBase
import Derived.Test.YtngjgbhdhaopmaaPyBase
set_option linter.all false
namespace Go.Proofs.Ytngjgbhdhaopmaa
open Go.ChangeShapes Go.WideShapes Go.ChangeAt Go.RowKit Go.Eng
theorem polywraps_den (fl0c0 : Bool) (n0c0 : Nat) (f0c0 : Nat → Nat → CV) (h0c0 : SlIn (.pr (.int .i64) (.pr (.int .i64) .nil)) n0c0 f0c0) :
  Den Try.prog 10 [.v (.ro fl0c0 (.pr (.int .i64) (.pr (.int .i64) .nil)) n0c0 f0c0)] [.v (.b true)] := by
 refine R13.w220 mix (fuel := 100) ?_
 have h : (R13.O220 100).o [.v (.ro fl0c0 (.pr (.int .i64) (.pr (.int .i64) .nil)) n0c0 f0c0)] some = (ob (R13.F220 100 n0c0 f0c0) fun t => some [.v (.b t)]) := by kernel_rfl
 rw [h, R13.wraps12 n0c0 f0c0 h0c0]
 rfl
set_option maxRecDepth 100000 in
theorem polywraps_lifted (os : Os) (started : os.Started) (H : Type) (enc : TypeId × Value → H) :
  ReturnsInHanded {} Try.checked os 10 .any (Rows.polyWrapsSpec.pre6 enc Try.prog Try.f10 Rows.polyWrapsRow.domain false) (Rows.polyWrapsSpec.post enc Try.prog Try.f10 false true false false) := by
 refine returnsInHanded_of_change (C := Try.checked) own started (by kernel_rfl) Try.func10
  (ChangeSpec.witness6 (enc := enc) (C := Try.checked) false ⟨#[], #[.slice none 0 0], []⟩ 8 (by kernel_rfl) (by kernel_rfl) (by kernel_rfl) (by kernel_rfl)) ?_
 intro W base args ds gs before hval0 hW hcnd _
 have hval : ∀ (j : Nat) t v, Try.f10.params[j]? = some t → args[j]? = some v → Value.okWide Try.prog W .any base t v := hval0
 have hW' := hW
 obtain ⟨p, q, hA0, hV, rfl, hfz, hnd⟩ := hW
 have hA : DataW.TrodAll enc Try.prog W 0 (fun _ => true) true Try.f10.params.toList args.toList ds p := hA0
 rw [Try.params10] at hA hval
 obtain ⟨v0, d0, rfl, rfl, h0⟩ := trodAll_one hA
 obtain ⟨rfl, rfl⟩ := trodVars_none hV
 obtain ⟨al0, len0, cap0, rfl⟩ := okWide_slice Try.underlying22 (hval 0 22 v0 rfl rfl)
 clear hA0 hval0
 obtain ⟨c0, hk0, hw0, hr0⟩ := open_arg1 (d := 8) row22 rfl h0
 obtain ⟨fl0c0, n0c0, f0c0, rfl⟩ := (show ∃ fl n f, c0 = .ro fl (.pr (.int .i64) (.pr (.int .i64) .nil)) n f from hk0)
 have h0c0 : SlIn (.pr (.int .i64) (.pr (.int .i64) .nil)) n0c0 f0c0 := hw0
 have hlt0 : ∀ x ∈ p, x.block < W.heap.size := fun x hx => by simpa using hW'.lt x (by simp [hx])
 refine (law_calls (polywraps_den fl0c0 n0c0 f0c0 h0c0) (fun g r h hh => by cases hh) (ARs.cons hr0 ARs.nil)).mono fun e W' ⟨he, hb⟩ => ?_
 subst he
 refine ⟨_, rfl, _, _, _, [], _, [], hW', trodAll_mk1 (shut_bool Try.underlying4 true),
  trodAll_mk1 (Below.trod laidOut (by kernel_rfl) (of_decide_eq_true (by kernel_rfl)) h0 hb.1 hlt0), rfl, hb.frame _, fun h => by cases h⟩
theorem polywraps_holds : Rows.PolyWrapsSaid :=
 OpenClaim.holds_of_wide 10 Try.f10 rfl rfl rfl rfl rfl rfl rfl ⟨rfl, rfl, rfl, rfl, rfl⟩ rfl rfl rfl rfl rfl (by kernel_rfl) Try.func10 (by kernel_rfl)
  (of_decide_eq_true (by kernel_rfl)) (by unfold Func.isWrapper; first | (rw [if_pos (by decide +kernel)]; kernel_rfl) | (rw [if_neg (by decide +kernel)]; exact ⟨rfl, rfl⟩))
  (fun os started H enc _ => polywraps_lifted os started H enc)
#print axioms polywraps_holds
end Go.Proofs.Ytngjgbhdhaopmaa
