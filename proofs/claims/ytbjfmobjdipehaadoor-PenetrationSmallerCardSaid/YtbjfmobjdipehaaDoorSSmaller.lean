/-
  PenetrationSmaller returns true for all arguments, and leaves them as they were. No condition.
-/
import Derived.Test.YtbjfmobjdipehaaDoorSBase
import Derived.Test.YtbjfmobjdipehaaDoorPpCuts
import Derived.Test.YtbjfmobjdipehaaDoorCards
import Derived.Test.YtbjfmobjdipehaaDoorTie
import Derived.SevenTiedAt
set_option linter.all false
namespace Go.Proofs.YtbjfmobjdipehaaDoor
open Go.ChangeShapes Go.WideShapes Go.ChangeAt Go.RowKit Go.Eng
theorem penetrationsmaller_den (l0 : List CV) (hl0 : l0.length = rowA31.len) (hk0 : ∀ (j : Nat) (c : CV), l0[j]? = some c → (rowA31.nth j).okP c ∧ c.wf) (s1c0 : ByteArray) (a1c1 : Int) (a1c2 : Int) (a1c3 : Int) (h1c1 : I64 a1c1) (h1c2 : I64 a1c2) (h1c3 : I64 a1c3) (a2c0 : Int) (h2c0 : (Lit.int .u16 a2c0).wf = true) :
    Den Tryd.prog 7 [.agg l0, .agg [.s s1c0, .i .i64 a1c1, .i .i64 a1c2, .i .i64 a1c3], .v (.i .u16 a2c0)] [.v (.b true)] := by
  refine R13.w160 mix (fuel := 100) ?_
  have h : (R13.O160 100).o [.agg l0, .agg [.s s1c0, .i .i64 a1c1, .i .i64 a1c2, .i .i64 a1c3], .v (.i .u16 a2c0)] some = bif fitsL rowA31 l0 then (ob (R13.F160 100 (listF l0) s1c0 a1c1 a1c2 a1c3 a2c0) fun t => some [.v (.b t)]) else none := by kernel_rfl
  rw [h, fitsL_of chain31 hl0 hk0, cond_true, R13.smaller46 (listF l0) (rowIn_of hl0 hk0) s1c0 a1c1 a1c2 a1c3 h1c1 h1c2 h1c3 a2c0 h2c0]
  rfl
set_option maxRecDepth 100000 in
theorem penetrationsmaller_lifted (os : Os) (started : os.Started) (H : Type) (enc : TypeId × Value → H) :
    ReturnsInHanded {} Tryd.checked os 7 .any (fun w args => (Rows.penetrationSmallerSpec.pre enc Tryd.prog Tryd.f7 [] false w args ∧ laidMetH Tryd.prog laidL w) ∧ sizedMet enc Tryd.prog Tryd.f7 (OpenSpec.ofChange Rows.penetrationSmallerSpec) false w args)
      (Rows.penetrationSmallerSpec.post enc Tryd.prog Tryd.f7 false true false false) := by
  refine returnsInHanded_of_change_and (C := Tryd.checked) (X := fun w _ => laidMetH Tryd.prog laidL w) (fun _ _ _ hh h => h.of_heap hh) own started (by kernel_rfl) Tryd.func7
    (ChangeSpec.witness_shaped (enc := enc) (C := Tryd.checked) (os := os) (X := fun w _ => laidMetH Tryd.prog laidL w) false (World.doorLaid Tryd.prog 400 os) #[.agg #[.string ByteArray.empty, .int .i64 0, .int .i64 0, .string ByteArray.empty, .string ByteArray.empty, .int .i64 0, .slice none 0 0, .slice none 0 0, .string ByteArray.empty, .int .i64 0, .int .i64 0, .int .i64 0, .int .i64 0, .int .i64 0, .int .i64 0, .int .i64 0, .int .i64 0, .int .i64 0], .agg #[.string ByteArray.empty, .int .i64 0, .int .i64 0, .int .i64 0], .int .u16 0] 8 rfl (World.shaped_of_RefB (by kernel_rfl) (by kernel_rfl)) (by kernel_rfl) (by kernel_rfl) (by kernel_rfl) (door_met os _)) ?_
  intro W base args ds gs before hval0 hW _ _ hL _
  have hval : ∀ (j : Nat) t v, Tryd.f7.params[j]? = some t → args[j]? = some v → Value.okWide Tryd.prog W .any base t v := hval0
  have hW' := hW
  obtain ⟨p, q, hA0, hV, rfl, hfz, hnd⟩ := hW
  have hA : DataW.TrodAll enc Tryd.prog W 0 (fun _ => true) true Tryd.f7.params.toList args.toList ds p := hA0
  rw [Tryd.params7] at hA hval
  obtain ⟨v0, v1, v2, d0, d1, d2, p0, p1, p2, rfl, rfl, rfl, h0, h1, h2⟩ := trodAll_three hA
  obtain ⟨rfl, rfl⟩ := trodVars_none hV
  obtain ⟨cs0, rfl, _⟩ := okWide_struct Tryd.underlying31 (hval 0 31 v0 rfl rfl)
  obtain ⟨cs1, rfl, _⟩ := okWide_struct Tryd.underlying42 (hval 1 42 v1 rfl rfl)
  obtain ⟨a2c0, rfl⟩ := okWide_int Tryd.underlying53 (hval 2 53 v2 rfl rfl)
  clear hA0 hval0
  obtain ⟨l0, hl0, hk0, hr0⟩ := open_argN (d := 8) row31 h0
  obtain ⟨l1, hl1, hk1, hr1⟩ := open_argN (d := 8) row42 h1
  obtain ⟨s1c0, a1c1, a1c2, a1c3, rfl, h1c1, h1c2, h1c3⟩ := open42 hl1 hk1
  obtain ⟨h2c0, hr2⟩ := int_openK Tryd.underlying53 (ok := fun g => g < W.heap.size) (W := W) h2
  have hlt0 : ∀ x ∈ p0, x.block < W.heap.size := fun x hx => by simpa using hW'.lt x (by simp [hx])
  have hlt1 : ∀ x ∈ p1, x.block < W.heap.size := fun x hx => by simpa using hW'.lt x (by simp [hx])
  have hlt2 : ∀ x ∈ p2, x.block < W.heap.size := fun x hx => by simpa using hW'.lt x (by simp [hx])
  refine (law_calls (penetrationsmaller_den l0 hl0 hk0 s1c0 a1c1 a1c2 a1c3 h1c1 h1c2 h1c3 a2c0 h2c0) (glob_of hL) (ARs.cons hr0 (ARs.cons hr1 (ARs.cons hr2 ARs.nil)))).mono fun e W' ⟨he, hb⟩ => ?_
  subst he
  refine ⟨_, rfl, _, _, _, [], _, [], hW', trodAll_mk1 (shut_bool Tryd.underlying4 true),
    trodAll_mk3 (Below.trod laidOut (by kernel_rfl) (of_decide_eq_true (by kernel_rfl)) h0 hb hlt0) (Below.trod laidOut (by kernel_rfl) (of_decide_eq_true (by kernel_rfl)) h1 hb hlt1) (Below.trod laidOut (by kernel_rfl) (of_decide_eq_true (by kernel_rfl)) h2 hb hlt2), rfl, hb.frame _, fun h => by cases h⟩
theorem penetrationsmaller_holds : Rows.PenetrationSmallerSaid :=
  OpenClaim.holds_of_wide 7 Tryd.f7 rfl rfl rfl rfl rfl rfl rfl ⟨rfl, rfl, rfl, rfl, rfl⟩ rfl rfl rfl rfl rfl (by kernel_rfl) Tryd.func7 (by kernel_rfl)
    (of_decide_eq_true (by kernel_rfl)) (by unfold Func.isWrapper; first | (rw [if_pos (by decide +kernel)]; kernel_rfl) | (rw [if_neg (by decide +kernel)]; exact ⟨rfl, rfl⟩))
    (fun os started H enc _ => penetrationsmaller_lifted os started H enc)
theorem penetrationsmaller_card : Rows.PenetrationSmallerCardSaid :=
  Claim7.holds_tied_plain_at .later [] [.data] true (true, "ee3ee7484c73263e9fa5b6bb2edf5d6362ab246478d3e2e553ccb69822bc8a49") false
    penetrationsmaller_holds (fun _ h => by cases h) (by kernel_rfl) (fun _ h => by cases h) penetrationSmaller_row_tie rfl ⟨rfl, rfl⟩ (by kernel_rfl) rfl
    (fun f fn hf hfn => by
      obtain rfl : f = 7 := Option.some.inj ((show Tryd.prog.funcNamed "shipyard/shipyardlaw46.PenetrationSmaller" = some 7 by kernel_rfl).symm.trans hf) |>.symm
      obtain rfl : fn = Tryd.f7 := (Option.some.inj (Tryd.func7.symm.trans hfn)).symm
      exact ⟨by kernel_rfl, fun j t ht => by
        rw [Tryd.params7] at ht
        have hm : t ∈ [31, 42, 53] := by simpa using Array.mem_of_getElem? ht
        have hall : ([31, 42, 53].all fun u => !Tryd.prog.wantsStandIn u) = true := by kernel_rfl
        exact (show Tryd.prog.wantsStandIn t = false by simpa using List.all_eq_true.1 hall t hm)⟩)
    (by kernel_rfl)
#print axioms penetrationsmaller_card
end Go.Proofs.YtbjfmobjdipehaaDoor
