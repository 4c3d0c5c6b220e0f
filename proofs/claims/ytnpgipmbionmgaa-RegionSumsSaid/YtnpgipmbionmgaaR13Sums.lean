/-
  RegionSums returns true for all arguments, and leaves them as they were. No condition.
-/
import Derived.Test.YtnpgipmbionmgaaR13Base
import Derived.Test.YtnpgipmbionmgaaPlSums
set_option linter.all false
namespace Go.Proofs.Ytnpgipmbionmgaa
open Go.ChangeShapes Go.WideShapes Go.ChangeAt Go.RowKit Go.Eng

theorem regionsums_den (fl0x fl0y : Bool) (n0x n0y : Nat) (f0x f0y : Nat → Nat → CV) (hs0 : ShapeIn n0x f0x n0y f0y) :
    Den Try.prog 4 [.agg [.ro fl0x rowP n0x f0x, .ro fl0y rowPs n0y f0y]] [.v (.b true)] := by
  refine R13.w4 mix (fuel := 100) ?_
  have h : (R13.O4 100).o [.agg [.ro fl0x rowP n0x f0x, .ro fl0y rowPs n0y f0y]] some = ob (R13.F4 100 n0x f0x n0y f0y) fun t => some [.v (.b t)] := by kernel_rfl
  rw [h, R13.sums_law n0x f0x n0y f0y hs0]
  rfl

set_option maxRecDepth 100000 in
theorem regionsums_lifted (os : Os) (started : os.Started) (H : Type) (enc : TypeId × Value → H) :
    ReturnsInHanded {} Try.checked os 4 .any (Rows.regionSumsSpec.pre6 enc Try.prog Try.f4 Rows.regionSumsRow.domain false) (Rows.regionSumsSpec.post enc Try.prog Try.f4 false true false false) := by
  refine returnsInHanded_of_change (C := Try.checked) own started (by kernel_rfl) Try.func4
    (ChangeSpec.witness6 (enc := enc) (C := Try.checked) false ⟨#[], #[.agg #[.slice none 0 0, .slice none 0 0]], []⟩ 8 (by kernel_rfl) (by kernel_rfl) (by kernel_rfl) (by kernel_rfl)) ?_
  intro W base args ds gs before hval0 hW hcnd _
  have hval : ∀ (j : Nat) t v, Try.f4.params[j]? = some t → args[j]? = some v → Value.okWide Try.prog W .any base t v := hval0
  have hW' := hW
  obtain ⟨p, q, hA0, hV, rfl, hfz, hnd⟩ := hW
  have hA : DataW.TrodAll enc Try.prog W 0 (fun _ => true) true Try.f4.params.toList args.toList ds p := hA0
  rw [Try.params4] at hA hval
  obtain ⟨v0, d0, rfl, rfl, h0⟩ := trodAll_one hA
  obtain ⟨rfl, rfl⟩ := trodVars_none hV
  obtain ⟨cs0, rfl, _⟩ := okWide_struct Try.underlying25 (hval 0 25 v0 rfl rfl)
  clear hA0 hval0
  obtain ⟨l0, hl0, hk0, hr0⟩ := open_argN (d := 6) row25 h0
  obtain ⟨fl0x, n0x, f0x, fl0y, n0y, f0y, rfl, hs0⟩ := shape_open hl0 hk0
  have hlt0 : ∀ x ∈ p, x.block < W.heap.size := fun x hx => by simpa using hW'.lt x (by simp [hx])
  refine (law_calls (regionsums_den fl0x fl0y n0x n0y f0x f0y hs0) (ARs.cons hr0 ARs.nil)).mono fun e W' ⟨he, hb⟩ => ?_
  subst he
  refine ⟨_, rfl, _, _, _, [], _, [], hW', trodAll_mk1 (shut_bool Try.underlying4 true),
    trodAll_mk1 (Below.trod laidOut (by kernel_rfl) (of_decide_eq_true (by kernel_rfl)) h0 hb hlt0), rfl, hb.frame _, fun h => by cases h⟩

theorem regionsums_holds : Rows.RegionSumsSaid :=
  OpenClaim.holds_of_wide 4 Try.f4 rfl rfl rfl rfl rfl rfl rfl ⟨rfl, rfl, rfl, rfl, rfl⟩ rfl rfl rfl rfl rfl (by kernel_rfl) Try.func4 (by kernel_rfl)
    (of_decide_eq_true (by kernel_rfl)) (by unfold Func.isWrapper; first | (rw [if_pos (by decide +kernel)]; kernel_rfl) | (rw [if_neg (by decide +kernel)]; exact ⟨rfl, rfl⟩))
    (fun os started H enc _ => regionsums_lifted os started H enc)

#print axioms regionsums_holds
end Go.Proofs.Ytnpgipmbionmgaa
