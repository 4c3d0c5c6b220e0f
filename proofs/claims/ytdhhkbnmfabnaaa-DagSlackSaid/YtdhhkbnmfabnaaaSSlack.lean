/-
 DagSlack returns true for all arguments, and leaves them as they were. No condition.
-/
import Derived.Test.YtdhhkbnmfabnaaaSBase
import Derived.Test.YtdhhkbnmfabnaaaDySlack
set_option linter.all false
namespace Go.Proofs.Ytdhhkbnmfabnaaa
open Go.ChangeShapes Go.WideShapes Go.ChangeAt Go.RowKit Go.Eng
theorem dagslack_den (fl0c0 : Bool) (n0c0 : Nat) (f0c0 : Nat → Nat → CV) (h0c0 : SlIn (.pr (.int .i64) .nil) n0c0 f0c0) (fl1c0 : Bool) (n1c0 : Nat) (f1c0 : Nat → Nat → CV) (h1c0 : SlIn (.pr (.int .i64) (.pr (.int .i64) .nil)) n1c0 f1c0) :
  Den Try.prog 9 [.v (.ro fl0c0 (.pr (.int .i64) .nil) n0c0 f0c0), .v (.ro fl1c0 (.pr (.int .i64) (.pr (.int .i64) .nil)) n1c0 f1c0)] [.v (.b true)] := by
 refine R13.w248 mix (fuel := 400) ?_
 have h : (R13.O248 400).o [.v (.ro fl0c0 (.pr (.int .i64) .nil) n0c0 f0c0), .v (.ro fl1c0 (.pr (.int .i64) (.pr (.int .i64) .nil)) n1c0 f1c0)] some = (ob (R13.F248 400 n0c0 f0c0 n1c0 f1c0) fun t => some [.v (.b t)]) := by kernel_rfl
 rw [h, R13.slack10 n0c0 f0c0 h0c0 n1c0 f1c0 h1c0]
 rfl
set_option maxRecDepth 100000 in
theorem dagslack_lifted (os : Os) (started : os.Started) (H : Type) (enc : TypeId × Value → H) :
  ReturnsInHanded {} Try.checked os 9 .any (Rows.dagSlackSpec.pre6 enc Try.prog Try.f9 Rows.dagSlackRow.domain false) (Rows.dagSlackSpec.post enc Try.prog Try.f9 false true false false) := by
 refine returnsInHanded_of_change (C := Try.checked) own started (by kernel_rfl) Try.func9
  (ChangeSpec.witness6 (enc := enc) (C := Try.checked) false ⟨#[], #[.slice none 0 0, .slice none 0 0], []⟩ 8 (by kernel_rfl) (by kernel_rfl) (by kernel_rfl) (by kernel_rfl)) ?_
 intro W base args ds gs before hval0 hW hcnd _
 have hval : ∀ (j : Nat) t v, Try.f9.params[j]? = some t → args[j]? = some v → Value.okWide Try.prog W .any base t v := hval0
 have hW' := hW
 obtain ⟨p, q, hA0, hV, rfl, hfz, hnd⟩ := hW
 have hA : DataW.TrodAll enc Try.prog W 0 (fun _ => true) true Try.f9.params.toList args.toList ds p := hA0
 rw [Try.params9] at hA hval
 obtain ⟨v0, v1, d0, d1, p0, p1, rfl, rfl, rfl, h0, h1⟩ := trodAll_two hA
 obtain ⟨rfl, rfl⟩ := trodVars_none hV
 obtain ⟨al0, len0, cap0, rfl⟩ := okWide_slice Try.underlying25 (hval 0 25 v0 rfl rfl)
 obtain ⟨al1, len1, cap1, rfl⟩ := okWide_slice Try.underlying22 (hval 1 22 v1 rfl rfl)
 clear hA0 hval0
 obtain ⟨c0, hk0, hw0, hr0⟩ := open_arg1 (d := 8) row25 rfl h0
 obtain ⟨fl0c0, n0c0, f0c0, rfl⟩ := (show ∃ fl n f, c0 = .ro fl (.pr (.int .i64) .nil) n f from hk0)
 have h0c0 : SlIn (.pr (.int .i64) .nil) n0c0 f0c0 := hw0
 obtain ⟨c1, hk1, hw1, hr1⟩ := open_arg1 (d := 8) row22 rfl h1
 obtain ⟨fl1c0, n1c0, f1c0, rfl⟩ := (show ∃ fl n f, c1 = .ro fl (.pr (.int .i64) (.pr (.int .i64) .nil)) n f from hk1)
 have h1c0 : SlIn (.pr (.int .i64) (.pr (.int .i64) .nil)) n1c0 f1c0 := hw1
 have hlt0 : ∀ x ∈ p0, x.block < W.heap.size := fun x hx => by simpa using hW'.lt x (by simp [hx])
 have hlt1 : ∀ x ∈ p1, x.block < W.heap.size := fun x hx => by simpa using hW'.lt x (by simp [hx])
 refine (law_calls (dagslack_den fl0c0 n0c0 f0c0 h0c0 fl1c0 n1c0 f1c0 h1c0) (fun g r h hh => by cases hh) (ARs.cons hr0 (ARs.cons hr1 ARs.nil))).mono fun e W' ⟨he, hb⟩ => ?_
 subst he
 refine ⟨_, rfl, _, _, _, [], _, [], hW', trodAll_mk1 (shut_bool Try.underlying4 true),
  trodAll_mk2 (Below.trod laidOut (by kernel_rfl) (of_decide_eq_true (by kernel_rfl)) h0 hb.1 hlt0) (Below.trod laidOut (by kernel_rfl) (of_decide_eq_true (by kernel_rfl)) h1 hb.1 hlt1), rfl, hb.frame _, fun h => by cases h⟩
theorem dagslack_holds : Rows.DagSlackSaid :=
 OpenClaim.holds_of_wide 9 Try.f9 rfl rfl rfl rfl rfl rfl rfl ⟨rfl, rfl, rfl, rfl, rfl⟩ rfl rfl rfl rfl rfl (by kernel_rfl) Try.func9 (by kernel_rfl)
  (of_decide_eq_true (by kernel_rfl)) (by unfold Func.isWrapper; first | (rw [if_pos (by decide +kernel)]; kernel_rfl) | (rw [if_neg (by decide +kernel)]; exact ⟨rfl, rfl⟩))
  (fun os started H enc _ => dagslack_lifted os started H enc)
#print axioms dagslack_holds
end Go.Proofs.Ytdhhkbnmfabnaaa
