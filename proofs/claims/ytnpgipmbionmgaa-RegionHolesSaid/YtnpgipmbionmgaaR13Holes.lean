/-
  RegionHoles returns true for all arguments, and leaves them as they were. No condition.
-/
import Derived.Test.YtnpgipmbionmgaaR13Base
import Derived.Test.YtnpgipmbionmgaaPlHoles
set_option linter.all false
namespace Go.Proofs.Ytnpgipmbionmgaa
open Go.ChangeShapes Go.WideShapes Go.ChangeAt Go.RowKit Go.Eng

theorem regionholes_den (fl0x fl0y : Bool) (n0x n0y : Nat) (f0x f0y : Nat → Nat → CV) (hs0 : ShapeIn n0x f0x n0y f0y) (a1 : Int) (ha1 : I64 a1) (a2 b2 : Int) (ha2 : I64 a2) (hb2 : I64 b2) :
    Den Try.prog 11 [.agg [.ro fl0x rowP n0x f0x, .ro fl0y rowPs n0y f0y], .v (.i .i64 a1), .agg [.i .i64 a2, .i .i64 b2]] [.v (.b true)] := by
  refine R13.w11 mix (fuel := 100) ?_
  have h : (R13.O11 100).o [.agg [.ro fl0x rowP n0x f0x, .ro fl0y rowPs n0y f0y], .v (.i .i64 a1), .agg [.i .i64 a2, .i .i64 b2]] some = ob (R13.F11 100 n0x f0x n0y f0y a1 a2 b2) fun t => some [.v (.b t)] := by kernel_rfl
  rw [h, R13.holes_law n0x f0x n0y f0y hs0 a1 ha1 a2 b2 ha2 hb2]
  rfl

set_option maxRecDepth 100000 in
theorem regionholes_lifted (os : Os) (started : os.Started) (H : Type) (enc : TypeId × Value → H) :
    ReturnsInHanded {} Try.checked os 11 .any (Rows.regionHolesSpec.pre6 enc Try.prog Try.f11 Rows.regionHolesRow.domain false) (Rows.regionHolesSpec.post enc Try.prog Try.f11 false true false false) := by
  refine returnsInHanded_of_change (C := Try.checked) own started (by kernel_rfl) Try.func11
    (ChangeSpec.witness6 (enc := enc) (C := Try.checked) false ⟨#[], #[.agg #[.slice none 0 0, .slice none 0 0], .int .i64 0, .agg #[.int .i64 0, .int .i64 0]], []⟩ 8 (by kernel_rfl) (by kernel_rfl) (by kernel_rfl) (by kernel_rfl)) ?_
  intro W base args ds gs before hval0 hW hcnd _
  have hval : ∀ (j : Nat) t v, Try.f11.params[j]? = some t → args[j]? = some v → Value.okWide Try.prog W .any base t v := hval0
  have hW' := hW
  obtain ⟨p, q, hA0, hV, rfl, hfz, hnd⟩ := hW
  have hA : DataW.TrodAll enc Try.prog W 0 (fun _ => true) true Try.f11.params.toList args.toList ds p := hA0
  rw [Try.params11] at hA hval
  obtain ⟨v0, v1, v2, d0, d1, d2, p0, p1, p2, rfl, rfl, rfl, h0, h1, h2⟩ := trodAll_three hA
  obtain ⟨rfl, rfl⟩ := trodVars_none hV
  obtain ⟨cs0, rfl, _⟩ := okWide_struct Try.underlying25 (hval 0 25 v0 rfl rfl)
  obtain ⟨a1, rfl⟩ := okWide_int Try.underlying3 (hval 1 3 v1 rfl rfl)
  obtain ⟨cs2, rfl, _⟩ := okWide_struct Try.underlying34 (hval 2 34 v2 rfl rfl)
  clear hA0 hval0
  obtain ⟨l0, hl0, hk0, hr0⟩ := open_argN (d := 6) row25 h0
  obtain ⟨fl0x, n0x, f0x, fl0y, n0y, f0y, rfl, hs0⟩ := shape_open hl0 hk0
  obtain ⟨ha1, hr1⟩ := int_open Try.underlying3 (ok := fun g => g < W.heap.size) (W := W) h1
  obtain ⟨l2, hl2, hk2, hr2⟩ := open_argN (d := 6) row34 h2
  obtain ⟨a2, b2, rfl, ha2, hb2⟩ := point_open hl2 hk2
  have hlt0 : ∀ x ∈ p0, x.block < W.heap.size := fun x hx => by simpa using hW'.lt x (by simp [hx])
  have hlt1 : ∀ x ∈ p1, x.block < W.heap.size := fun x hx => by simpa using hW'.lt x (by simp [hx])
  have hlt2 : ∀ x ∈ p2, x.block < W.heap.size := fun x hx => by simpa using hW'.lt x (by simp [hx])
  refine (law_calls (regionholes_den fl0x fl0y n0x n0y f0x f0y hs0 a1 ha1 a2 b2 ha2 hb2) (ARs.cons hr0 (ARs.cons hr1 (ARs.cons hr2 ARs.nil)))).mono fun e W' ⟨he, hb⟩ => ?_
  subst he
  refine ⟨_, rfl, _, _, _, [], _, [], hW', trodAll_mk1 (shut_bool Try.underlying4 true),
    trodAll_mk3 (Below.trod laidOut (by kernel_rfl) (of_decide_eq_true (by kernel_rfl)) h0 hb hlt0) (Below.trod laidOut (by kernel_rfl) (of_decide_eq_true (by kernel_rfl)) h1 hb hlt1) (Below.trod laidOut (by kernel_rfl) (of_decide_eq_true (by kernel_rfl)) h2 hb hlt2), rfl, hb.frame _, fun h => by cases h⟩

theorem regionholes_holds : Rows.RegionHolesSaid :=
  OpenClaim.holds_of_wide 11 Try.f11 rfl rfl rfl rfl rfl rfl rfl ⟨rfl, rfl, rfl, rfl, rfl⟩ rfl rfl rfl rfl rfl (by kernel_rfl) Try.func11 (by kernel_rfl)
    (of_decide_eq_true (by kernel_rfl)) (by unfold Func.isWrapper; first | (rw [if_pos (by decide +kernel)]; kernel_rfl) | (rw [if_neg (by decide +kernel)]; exact ⟨rfl, rfl⟩))
    (fun os started H enc _ => regionholes_lifted os started H enc)

#print axioms regionholes_holds
end Go.Proofs.Ytnpgipmbionmgaa
