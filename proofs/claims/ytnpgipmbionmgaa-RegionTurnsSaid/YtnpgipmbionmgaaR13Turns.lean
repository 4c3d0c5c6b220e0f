/-
  RegionTurns returns true for all arguments, and leaves them as they were. No condition.
-/
import Derived.Test.YtnpgipmbionmgaaR13Base
import Derived.Test.YtnpgipmbionmgaaPlTurned
set_option linter.all false
namespace Go.Proofs.Ytnpgipmbionmgaa
open Go.ChangeShapes Go.WideShapes Go.ChangeAt Go.RowKit Go.Eng
theorem regionturns_den (fl0x fl0y : Bool) (n0x n0y : Nat) (f0x f0y : Nat → Nat → CV) (hs0 : ShapeIn n0x f0x n0y f0y) (s1 : ByteArray) (a1 b1 c1 : Int) (d1 : Bool) (ha1 : I64 a1) (hb1 : I64 b1) (hc1 : I64 c1) (a2 b2 : Int) (ha2 : I64 a2) (hb2 : I64 b2) :
    Den Try.prog 9 [.agg [.ro fl0x rowP n0x f0x, .ro fl0y rowPs n0y f0y], .agg [.s s1, .i .i64 a1, .i .i64 b1, .i .i64 c1, .b d1], .agg [.i .i64 a2, .i .i64 b2]] [.v (.b true)] := by
  refine R13.w9 mix (fuel := 100) ?_
  have h : (R13.O9 100).o [.agg [.ro fl0x rowP n0x f0x, .ro fl0y rowPs n0y f0y], .agg [.s s1, .i .i64 a1, .i .i64 b1, .i .i64 c1, .b d1], .agg [.i .i64 a2, .i .i64 b2]] some = ob (R13.F9 100 n0x f0x n0y f0y s1 a1 b1 c1 d1 a2 b2) fun t => some [.v (.b t)] := by kernel_rfl
  rw [h, R13.turns_law n0x f0x n0y f0y hs0 s1 a1 b1 c1 d1 ha1 hb1 hc1 a2 b2 ha2 hb2]
  rfl
set_option maxRecDepth 100000 in
theorem regionturns_lifted (os : Os) (started : os.Started) (H : Type) (enc : TypeId × Value → H) :
    ReturnsInHanded {} Try.checked os 9 .any (Rows.regionTurnsSpec.pre6 enc Try.prog Try.f9 Rows.regionTurnsRow.domain false) (Rows.regionTurnsSpec.post enc Try.prog Try.f9 false true false false) := by
  refine returnsInHanded_of_change (C := Try.checked) own started (by kernel_rfl) Try.func9
    (ChangeSpec.witness6 (enc := enc) (C := Try.checked) false ⟨#[], #[.agg #[.slice none 0 0, .slice none 0 0], .agg #[.string ByteArray.empty, .int .i64 0, .int .i64 0, .int .i64 0, .bool false], .agg #[.int .i64 0, .int .i64 0]], []⟩ 8 (by kernel_rfl) (by kernel_rfl) (by kernel_rfl) (by kernel_rfl)) ?_
  intro W base args ds gs before hval0 hW hcnd _
  have hval : ∀ (j : Nat) t v, Try.f9.params[j]? = some t → args[j]? = some v → Value.okWide Try.prog W .any base t v := hval0
  have hW' := hW
  obtain ⟨p, q, hA0, hV, rfl, hfz, hnd⟩ := hW
  have hA : DataW.TrodAll enc Try.prog W 0 (fun _ => true) true Try.f9.params.toList args.toList ds p := hA0
  rw [Try.params9] at hA hval
  obtain ⟨v0, v1, v2, d0, d1, d2, p0, p1, p2, rfl, rfl, rfl, h0, h1, h2⟩ := trodAll_three hA
  obtain ⟨rfl, rfl⟩ := trodVars_none hV
  obtain ⟨cs0, rfl, _⟩ := okWide_struct Try.underlying25 (hval 0 25 v0 rfl rfl)
  obtain ⟨cs1, rfl, _⟩ := okWide_struct Try.underlying41 (hval 1 41 v1 rfl rfl)
  obtain ⟨cs2, rfl, _⟩ := okWide_struct Try.underlying34 (hval 2 34 v2 rfl rfl)
  clear hA0 hval0
  obtain ⟨l0, hl0, hk0, hr0⟩ := open_argN (d := 6) row25 h0
  obtain ⟨fl0x, n0x, f0x, fl0y, n0y, f0y, rfl, hs0⟩ := shape_open hl0 hk0
  obtain ⟨l1, hl1, hk1, hr1⟩ := open_argN (d := 6) row41 h1
  obtain ⟨s1, a1, b1, c1, d1, rfl, ha1, hb1, hc1⟩ := spot_open hl1 hk1
  obtain ⟨l2, hl2, hk2, hr2⟩ := open_argN (d := 6) row34 h2
  obtain ⟨a2, b2, rfl, ha2, hb2⟩ := point_open hl2 hk2
  have hlt0 : ∀ x ∈ p0, x.block < W.heap.size := fun x hx => by simpa using hW'.lt x (by simp [hx])
  have hlt1 : ∀ x ∈ p1, x.block < W.heap.size := fun x hx => by simpa using hW'.lt x (by simp [hx])
  have hlt2 : ∀ x ∈ p2, x.block < W.heap.size := fun x hx => by simpa using hW'.lt x (by simp [hx])
  refine (law_calls (regionturns_den fl0x fl0y n0x n0y f0x f0y hs0 s1 a1 b1 c1 d1 ha1 hb1 hc1 a2 b2 ha2 hb2) (ARs.cons hr0 (ARs.cons hr1 (ARs.cons hr2 ARs.nil)))).mono fun e W' ⟨he, hb⟩ => ?_
  subst he
  refine ⟨_, rfl, _, _, _, [], _, [], hW', trodAll_mk1 (shut_bool Try.underlying4 true),
    trodAll_mk3 (Below.trod laidOut (by kernel_rfl) (of_decide_eq_true (by kernel_rfl)) h0 hb hlt0) (Below.trod laidOut (by kernel_rfl) (of_decide_eq_true (by kernel_rfl)) h1 hb hlt1) (Below.trod laidOut (by kernel_rfl) (of_decide_eq_true (by kernel_rfl)) h2 hb hlt2), rfl, hb.frame _, fun h => by cases h⟩
theorem regionturns_holds : Rows.RegionTurnsSaid :=
  OpenClaim.holds_of_wide 9 Try.f9 rfl rfl rfl rfl rfl rfl rfl ⟨rfl, rfl, rfl, rfl, rfl⟩ rfl rfl rfl rfl rfl (by kernel_rfl) Try.func9 (by kernel_rfl)
    (of_decide_eq_true (by kernel_rfl)) (by unfold Func.isWrapper; first | (rw [if_pos (by decide +kernel)]; kernel_rfl) | (rw [if_neg (by decide +kernel)]; exact ⟨rfl, rfl⟩))
    (fun os started H enc _ => regionturns_lifted os started H enc)
#print axioms regionturns_holds
end Go.Proofs.Ytnpgipmbionmgaa
