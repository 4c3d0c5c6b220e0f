/-
 NestApart returns true for all arguments, and leaves them as they were. No condition.
-/
import Derived.Test.YtmpnfnngjeojlaaSBase
import Derived.Test.YtmpnfnngjeojlaaPnMove
set_option linter.all false
namespace Go.Proofs.Ytmpnfnngjeojlaa
open Go.ChangeShapes Go.WideShapes Go.ChangeAt Go.RowKit Go.Eng
theorem nestapart_den (l0 : List CV) (hl0 : l0.length = rowA29.len) (hk0 : ∀ (j : Nat) (c : CV), l0[j]? = some c → (rowA29.nth j).okP c ∧ c.wf) (a1c0 : Int) (a1c1 : Int) (h1c0 : I64 a1c0) (h1c1 : I64 a1c1) :
  Den Try.prog 9 [.agg l0, .agg [.i .i64 a1c0, .i .i64 a1c1]] [.v (.b true)] := by
 refine R13.w198 mix (fuel := 100) ?_
 have h : (R13.O198 100).o [.agg l0, .agg [.i .i64 a1c0, .i .i64 a1c1]] some = bif fitsL rowA29 l0 then (ob (R13.F198 100 (listF l0) a1c0 a1c1) fun t => some [.v (.b t)]) else none := by kernel_rfl
 rw [h, fitsL_of chain29 hl0 hk0, cond_true, R13.apart23 (listF l0) (rowIn_of hl0 hk0) a1c0 a1c1 h1c0 h1c1]
 rfl
set_option maxRecDepth 100000 in
theorem nestapart_lifted (os : Os) (started : os.Started) (H : Type) (enc : TypeId × Value → H) :
  ReturnsInHanded {} Try.checked os 9 .any (Rows.nestApartSpec.pre6 enc Try.prog Try.f9 Rows.nestApartRow.domain false) (Rows.nestApartSpec.post enc Try.prog Try.f9 false true false false) := by
 refine returnsInHanded_of_change (C := Try.checked) own started (by kernel_rfl) Try.func9
  (ChangeSpec.witness6 (enc := enc) (C := Try.checked) false ⟨#[], #[.agg #[.string ByteArray.empty, .int .i64 0, .slice none 0 0, .string ByteArray.empty, .string ByteArray.empty, .int .i64 0, .int .i64 0, .int .i64 0, .string ByteArray.empty, .slice none 0 0], .agg #[.int .i64 0, .int .i64 0]], []⟩ 8 (by kernel_rfl) (by kernel_rfl) (by kernel_rfl) (by kernel_rfl)) ?_
 intro W base args ds gs before hval0 hW hcnd _
 have hval : ∀ (j : Nat) t v, Try.f9.params[j]? = some t → args[j]? = some v → Value.okWide Try.prog W .any base t v := hval0
 have hW' := hW
 obtain ⟨p, q, hA0, hV, rfl, hfz, hnd⟩ := hW
 have hA : DataW.TrodAll enc Try.prog W 0 (fun _ => true) true Try.f9.params.toList args.toList ds p := hA0
 rw [Try.params9] at hA hval
 obtain ⟨v0, v1, d0, d1, p0, p1, rfl, rfl, rfl, h0, h1⟩ := trodAll_two hA
 obtain ⟨rfl, rfl⟩ := trodVars_none hV
 obtain ⟨cs0, rfl, _⟩ := okWide_struct Try.underlying29 (hval 0 29 v0 rfl rfl)
 obtain ⟨cs1, rfl, _⟩ := okWide_struct Try.underlying41 (hval 1 41 v1 rfl rfl)
 clear hA0 hval0
 obtain ⟨l0, hl0, hk0, hr0⟩ := open_argN (d := 8) row29 h0
 obtain ⟨l1, hl1, hk1, hr1⟩ := open_argN (d := 8) row41 h1
 obtain ⟨a1c0, a1c1, rfl, h1c0, h1c1⟩ := open41 hl1 hk1
 have hlt0 : ∀ x ∈ p0, x.block < W.heap.size := fun x hx => by simpa using hW'.lt x (by simp [hx])
 have hlt1 : ∀ x ∈ p1, x.block < W.heap.size := fun x hx => by simpa using hW'.lt x (by simp [hx])
 refine (law_calls (nestapart_den l0 hl0 hk0 a1c0 a1c1 h1c0 h1c1) (fun g r h hh => by cases hh) (ARs.cons hr0 (ARs.cons hr1 ARs.nil))).mono fun e W' ⟨he, hb⟩ => ?_
 subst he
 refine ⟨_, rfl, _, _, _, [], _, [], hW', trodAll_mk1 (shut_bool Try.underlying4 true),
  trodAll_mk2 (Below.trod laidOut (by kernel_rfl) (of_decide_eq_true (by kernel_rfl)) h0 hb hlt0) (Below.trod laidOut (by kernel_rfl) (of_decide_eq_true (by kernel_rfl)) h1 hb hlt1), rfl, hb.frame _, fun h => by cases h⟩
theorem nestapart_holds : Rows.NestApartSaid :=
 OpenClaim.holds_of_wide 9 Try.f9 rfl rfl rfl rfl rfl rfl rfl ⟨rfl, rfl, rfl, rfl, rfl⟩ rfl rfl rfl rfl rfl (by kernel_rfl) Try.func9 (by kernel_rfl)
  (of_decide_eq_true (by kernel_rfl)) (by unfold Func.isWrapper; first | (rw [if_pos (by decide +kernel)]; kernel_rfl) | (rw [if_neg (by decide +kernel)]; exact ⟨rfl, rfl⟩))
  (fun os started H enc _ => nestapart_lifted os started H enc)
#print axioms nestapart_holds
end Go.Proofs.Ytmpnfnngjeojlaa
