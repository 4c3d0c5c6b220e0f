/-
 NeedRemains returns true for all arguments, and leaves them as they were. No condition.
-/
import Derived.Test.YtajhkinnmdlokaaSBase
import Derived.Test.YtajhkinnmdlokaaNdRemains
set_option linter.all false
namespace Go.Proofs.Ytajhkinnmdlokaa
open Go.ChangeShapes Go.WideShapes Go.ChangeAt Go.RowKit Go.Eng
theorem needremains_den (l0 : List CV) (hl0 : l0.length = rowA41.len) (hk0 : ∀ (j : Nat) (c : CV), l0[j]? = some c → (rowA41.nth j).okP c ∧ c.wf) (fl1c0 : Bool) (n1c0 : Nat) (f1c0 : Nat → Nat → CV) (h1c0 : SlIn (.pr .str .nil) n1c0 f1c0) :
  Den Try.prog 6 [.agg l0, .v (.ro fl1c0 (.pr .str .nil) n1c0 f1c0)] [.v (.b true)] := by
 refine R13.w282 mix (fuel := 4000) ?_
 have h : (R13.O282 4000).o [.agg l0, .v (.ro fl1c0 (.pr .str .nil) n1c0 f1c0)] some = bif fitsL rowA41 l0 then (ob (R13.F282 4000 (listF l0) n1c0 f1c0) fun t => some [.v (.b t)]) else none := by kernel_rfl
 rw [h, fitsL_of chain41 hl0 hk0, cond_true, R13.remains51 (listF l0) (rowIn_of hl0 hk0) n1c0 f1c0 h1c0]
 rfl
set_option maxRecDepth 100000 in
theorem needremains_lifted (os : Os) (started : os.Started) (H : Type) (enc : TypeId × Value → H) :
  ReturnsInHanded {} Try.checked os 6 .any (Rows.needRemainsSpec.pre6 enc Try.prog Try.f6 Rows.needRemainsRow.domain false) (Rows.needRemainsSpec.post enc Try.prog Try.f6 false true false false) := by
 refine returnsInHanded_of_change (C := Try.checked) own started (by kernel_rfl) Try.func6
  (ChangeSpec.witness6 (enc := enc) (C := Try.checked) false ⟨#[], #[.agg #[.string ByteArray.empty, .slice none 0 0, .slice none 0 0, .slice none 0 0, .slice none 0 0, .slice none 0 0, .slice none 0 0, .slice none 0 0, .string ByteArray.empty], .slice none 0 0], []⟩ 8 (by kernel_rfl) (by kernel_rfl) (by kernel_rfl) (by kernel_rfl)) ?_
 intro W base args ds gs before hval0 hW hcnd _
 have hval : ∀ (j : Nat) t v, Try.f6.params[j]? = some t → args[j]? = some v → Value.okWide Try.prog W .any base t v := hval0
 have hW' := hW
 obtain ⟨p, q, hA0, hV, rfl, hfz, hnd⟩ := hW
 have hA : DataW.TrodAll enc Try.prog W 0 (fun _ => true) true Try.f6.params.toList args.toList ds p := hA0
 rw [Try.params6] at hA hval
 obtain ⟨v0, v1, d0, d1, p0, p1, rfl, rfl, rfl, h0, h1⟩ := trodAll_two hA
 obtain ⟨rfl, rfl⟩ := trodVars_none hV
 obtain ⟨cs0, rfl, _⟩ := okWide_struct Try.underlying41 (hval 0 41 v0 rfl rfl)
 obtain ⟨al1, len1, cap1, rfl⟩ := okWide_slice Try.underlying31 (hval 1 31 v1 rfl rfl)
 clear hA0 hval0
 obtain ⟨l0, hl0, hk0, hr0⟩ := open_argN (d := 12) row41 h0
 obtain ⟨c1, hk1, hw1, hr1⟩ := open_arg1 (d := 12) row31 rfl h1
 obtain ⟨fl1c0, n1c0, f1c0, rfl⟩ := (show ∃ fl n f, c1 = .ro fl (.pr .str .nil) n f from hk1)
 have h1c0 : SlIn (.pr .str .nil) n1c0 f1c0 := hw1
 have hlt0 : ∀ x ∈ p0, x.block < W.heap.size := fun x hx => by simpa using hW'.lt x (by simp [hx])
 have hlt1 : ∀ x ∈ p1, x.block < W.heap.size := fun x hx => by simpa using hW'.lt x (by simp [hx])
 refine (law_calls (needremains_den l0 hl0 hk0 fl1c0 n1c0 f1c0 h1c0) (fun g r h hh => by cases hh) (ARs.cons hr0 (ARs.cons hr1 ARs.nil))).mono fun e W' ⟨he, hb⟩ => ?_
 subst he
 refine ⟨_, rfl, _, _, _, [], _, [], hW', trodAll_mk1 (shut_bool Try.underlying4 true),
  trodAll_mk2 (Below.trod laidOut (by kernel_rfl) (of_decide_eq_true (by kernel_rfl)) h0 hb.1 hlt0) (Below.trod laidOut (by kernel_rfl) (of_decide_eq_true (by kernel_rfl)) h1 hb.1 hlt1), rfl, hb.frame _, fun h => by cases h⟩
theorem needremains_holds : Rows.NeedRemainsSaid :=
 OpenClaim.holds_of_wide 6 Try.f6 rfl rfl rfl rfl rfl rfl rfl ⟨rfl, rfl, rfl, rfl, rfl⟩ rfl rfl rfl rfl rfl (by kernel_rfl) Try.func6 (by kernel_rfl)
  (of_decide_eq_true (by kernel_rfl)) (by unfold Func.isWrapper; first | (rw [if_pos (by decide +kernel)]; kernel_rfl) | (rw [if_neg (by decide +kernel)]; exact ⟨rfl, rfl⟩))
  (fun os started H enc _ => needremains_lifted os started H enc)
#print axioms needremains_holds
end Go.Proofs.Ytajhkinnmdlokaa
