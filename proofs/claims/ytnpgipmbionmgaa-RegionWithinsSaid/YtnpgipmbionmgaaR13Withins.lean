/-
  RegionWithins returns true for every shape and any three numbers, and leaves its arguments as they were. No condition.
-/
import Derived.Test.YtnpgipmbionmgaaR13Base
import Derived.Test.YtnpgipmbionmgaaPlWithin
set_option linter.all false
namespace Go.Proofs.Ytnpgipmbionmgaa
open Go.ChangeShapes Go.WideShapes Go.ChangeAt Go.RowKit Go.Eng

theorem withins_den (fl1 fl2 : Bool) (n1 n2 : Nat) (f1 f2 : Nat → Nat → CV) (a b c : Int) :
    Den Try.prog 8 [.agg [.ro fl1 rowP n1 f1, .ro fl2 rowPs n2 f2], .agg [.i .i64 a, .i .i64 b, .i .i64 c]] [.v (.b true)] := by
  refine R13.w8 mix (fuel := 100) ?_
  have h : (R13.O8 100).o [.agg [.ro fl1 rowP n1 f1, .ro fl2 rowPs n2 f2], .agg [.i .i64 a, .i .i64 b, .i .i64 c]] some = ob (R13.F8 100 n1 f1 n2 f2 a b c) fun t => some [.v (.b t)] := by kernel_rfl
  rw [h, R13.withins_plain]
  rfl

set_option maxRecDepth 100000 in
theorem withins_lifted (os : Os) (started : os.Started) (H : Type) (enc : TypeId × Value → H) :
    ReturnsInHanded {} Try.checked os 8 .any (Rows.regionWithinsSpec.pre6 enc Try.prog Try.f8 Rows.regionWithinsRow.domain false) (Rows.regionWithinsSpec.post enc Try.prog Try.f8 false true false false) := by
  refine returnsInHanded_of_change (C := Try.checked) own started (by kernel_rfl) Try.func8
    (ChangeSpec.witness6 (enc := enc) (C := Try.checked) false ⟨#[], #[.agg #[.slice none 0 0, .slice none 0 0], .agg #[.int .i64 0, .int .i64 0, .int .i64 0]], []⟩ 8 (by kernel_rfl) (by kernel_rfl) (by kernel_rfl) (by kernel_rfl)) ?_
  intro W base args ds gs before hval0 hW hcnd _
  have hval : ∀ (j : Nat) t v, Try.f8.params[j]? = some t → args[j]? = some v → Value.okWide Try.prog W .any base t v := hval0
  have hW' := hW
  obtain ⟨p, q, hA0, hV, rfl, hfz, hnd⟩ := hW
  have hA : DataW.TrodAll enc Try.prog W 0 (fun _ => true) true Try.f8.params.toList args.toList ds p := hA0
  rw [Try.params8] at hA hval
  obtain ⟨v0, v1, d0, d1, p0, p1, rfl, rfl, rfl, h0, h1⟩ := trodAll_two hA
  obtain ⟨rfl, rfl⟩ := trodVars_none hV
  obtain ⟨cs0, rfl, _⟩ := okWide_struct Try.underlying25 (hval 0 25 v0 rfl rfl)
  obtain ⟨cs1, rfl, _⟩ := okWide_array Try.underlying46 (hval 1 46 v1 rfl rfl)
  clear hA0 hval0
  obtain ⟨l0, hl0, hk0, hr0⟩ := open_argN (d := 6) row25 h0
  obtain ⟨l1, hl1, hk1, hr1⟩ := open_argN (d := 6) (r := .pr (.int .i64) (.pr (.int .i64) (.pr (.int .i64) .nil))) (by kernel_rfl) h1
  obtain ⟨fl1, n1, f1, fl2, n2, f2, rfl, hs⟩ := shape_open hl0 hk0
  obtain ⟨zs, rfl, hz, _⟩ := ints_open (n := 3) (fun j hj => by match j, hj with | 0, _ => rfl | 1, _ => rfl | 2, _ => rfl) hl1 hk1
  obtain ⟨a, b, c, rfl⟩ : ∃ a b c, zs = [a, b, c] := by
    match zs, hz with
    | [a, b, c], _ => exact ⟨a, b, c, rfl⟩
  have hlt0 : ∀ x ∈ p0, x.block < W.heap.size := fun x hx => by simpa using hW'.lt x (by simp [hx])
  have hlt1 : ∀ x ∈ p1, x.block < W.heap.size := fun x hx => by simpa using hW'.lt x (by simp [hx])
  refine (law_calls (withins_den fl1 fl2 n1 n2 f1 f2 a b c) (ARs.cons hr0 (ARs.cons hr1 ARs.nil))).mono fun e W' ⟨he, hb⟩ => ?_
  subst he
  refine ⟨_, rfl, _, _, _, [], _, [], hW', trodAll_mk1 (shut_bool Try.underlying4 true),
    trodAll_mk2 (Below.trod laidOut (by kernel_rfl) (of_decide_eq_true (by kernel_rfl)) h0 hb hlt0) (Below.trod laidOut (by kernel_rfl) (of_decide_eq_true (by kernel_rfl)) h1 hb hlt1), rfl, hb.frame _, fun h => by cases h⟩

theorem withins_holds : Rows.RegionWithinsSaid :=
  OpenClaim.holds_of_wide 8 Try.f8 rfl rfl rfl rfl rfl rfl rfl ⟨rfl, rfl, rfl, rfl, rfl⟩ rfl rfl rfl rfl rfl (by kernel_rfl) Try.func8 (by kernel_rfl)
    (of_decide_eq_true (by kernel_rfl)) (by unfold Func.isWrapper; first | (rw [if_pos (by decide +kernel)]; kernel_rfl) | (rw [if_neg (by decide +kernel)]; exact ⟨rfl, rfl⟩))
    (fun os started H enc _ => withins_lifted os started H enc)

#print axioms withins_holds
end Go.Proofs.Ytnpgipmbionmgaa
