/-
 DagReduces returns true for all arguments, and leaves them as they were. No condition.
-/
import Derived.Test.YtdhhkbnmfabnaaaSBase
import Derived.Test.YtdhhkbnmfabnaaaDyReduces
set_option linter.all false
namespace Go.Proofs.Ytdhhkbnmfabnaaa
open Go.ChangeShapes Go.WideShapes Go.ChangeAt Go.RowKit Go.Eng
theorem dagreduces_den (a0c0 : Int) (h0c0 : I64 a0c0) (fl1c0 : Bool) (n1c0 : Nat) (f1c0 : Nat → Nat → CV) (h1c0 : SlIn (.pr (.int .i64) (.pr (.int .i64) .nil)) n1c0 f1c0) :
  Den Try.prog 6 [.v (.i .i64 a0c0), .v (.ro fl1c0 (.pr (.int .i64) (.pr (.int .i64) .nil)) n1c0 f1c0)] [.v (.b true)] := by
 refine R13.w299 mix (fuel := 400) ?_
 have h : (R13.O299 400).o [.v (.i .i64 a0c0), .v (.ro fl1c0 (.pr (.int .i64) (.pr (.int .i64) .nil)) n1c0 f1c0)] some = (ob (R13.F299 400 a0c0 n1c0 f1c0) fun t => some [.v (.b t)]) := by kernel_rfl
 rw [h, R13.reduces10 a0c0 h0c0 n1c0 f1c0 h1c0]
 rfl
set_option maxRecDepth 100000 in
theorem dagreduces_lifted (os : Os) (started : os.Started) (H : Type) (enc : TypeId × Value → H) :
  ReturnsInHanded {} Try.checked os 6 .any (Rows.dagReducesSpec.pre6 enc Try.prog Try.f6 Rows.dagReducesRow.domain false) (Rows.dagReducesSpec.post enc Try.prog Try.f6 false true false false) := by
 refine returnsInHanded_of_change (C := Try.checked) own started (by kernel_rfl) Try.func6
  (ChangeSpec.witness6 (enc := enc) (C := Try.checked) false ⟨#[], #[.int .i64 0, .slice none 0 0], []⟩ 8 (by kernel_rfl) (by kernel_rfl) (by kernel_rfl) (by kernel_rfl)) ?_
 intro W base args ds gs before hval0 hW hcnd _
 have hval : ∀ (j : Nat) t v, Try.f6.params[j]? = some t → args[j]? = some v → Value.okWide Try.prog W .any base t v := hval0
 have hW' := hW
 obtain ⟨p, q, hA0, hV, rfl, hfz, hnd⟩ := hW
 have hA : DataW.TrodAll enc Try.prog W 0 (fun _ => true) true Try.f6.params.toList args.toList ds p := hA0
 rw [Try.params6] at hA hval
 obtain ⟨v0, v1, d0, d1, p0, p1, rfl, rfl, rfl, h0, h1⟩ := trodAll_two hA
 obtain ⟨rfl, rfl⟩ := trodVars_none hV
 obtain ⟨a0c0, rfl⟩ := okWide_int Try.underlying3 (hval 0 3 v0 rfl rfl)
 obtain ⟨al1, len1, cap1, rfl⟩ := okWide_slice Try.underlying22 (hval 1 22 v1 rfl rfl)
 clear hA0 hval0
 obtain ⟨h0c0, hr0⟩ := int_open Try.underlying3 (ok := fun g => g < W.heap.size) (W := W) h0
 obtain ⟨c1, hk1, hw1, hr1⟩ := open_arg1 (d := 12) row22 rfl h1
 obtain ⟨fl1c0, n1c0, f1c0, rfl⟩ := (show ∃ fl n f, c1 = .ro fl (.pr (.int .i64) (.pr (.int .i64) .nil)) n f from hk1)
 have h1c0 : SlIn (.pr (.int .i64) (.pr (.int .i64) .nil)) n1c0 f1c0 := hw1
 have hlt0 : ∀ x ∈ p0, x.block < W.heap.size := fun x hx => by simpa using hW'.lt x (by simp [hx])
 have hlt1 : ∀ x ∈ p1, x.block < W.heap.size := fun x hx => by simpa using hW'.lt x (by simp [hx])
 refine (law_calls (dagreduces_den a0c0 h0c0 fl1c0 n1c0 f1c0 h1c0) (fun g r h hh => by cases hh) (ARs.cons hr0 (ARs.cons hr1 ARs.nil))).mono fun e W' ⟨he, hb⟩ => ?_
 subst he
 refine ⟨_, rfl, _, _, _, [], _, [], hW', trodAll_mk1 (shut_bool Try.underlying4 true),
  trodAll_mk2 (Below.trod laidOut (by kernel_rfl) (of_decide_eq_true (by kernel_rfl)) h0 hb.1 hlt0) (Below.trod laidOut (by kernel_rfl) (of_decide_eq_true (by kernel_rfl)) h1 hb.1 hlt1), rfl, hb.frame _, fun h => by cases h⟩
theorem dagreduces_holds : Rows.DagReducesSaid :=
 OpenClaim.holds_of_wide 6 Try.f6 rfl rfl rfl rfl rfl rfl rfl ⟨rfl, rfl, rfl, rfl, rfl⟩ rfl rfl rfl rfl rfl (by kernel_rfl) Try.func6 (by kernel_rfl)
  (of_decide_eq_true (by kernel_rfl)) (by unfold Func.isWrapper; first | (rw [if_pos (by decide +kernel)]; kernel_rfl) | (rw [if_neg (by decide +kernel)]; exact ⟨rfl, rfl⟩))
  (fun os started H enc _ => dagreduces_lifted os started H enc)
#print axioms dagreduces_holds
end Go.Proofs.Ytdhhkbnmfabnaaa
