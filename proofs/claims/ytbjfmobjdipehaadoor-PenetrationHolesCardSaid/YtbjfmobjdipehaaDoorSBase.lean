/-
  What all laws of this seat share: the loaded program's facts, and an argument's reading.
-/
import Derived.Test.YtbjfmobjdipehaaDoorRows
import Derived.Test.YtbjfmobjdipehaaDoorSndT
import Derived.LaidMore
import Derived.OpenShut
import Derived.Stop.Joined
import Derived.ProofKit
import Derived.MakeChecks
import Derived.Test.YtbjfmobjdipehaaDoorEngU
set_option linter.all false
set_option maxRecDepth 100000
namespace Go.Proofs.YtbjfmobjdipehaaDoor
open Go.ChangeShapes Go.WideShapes Go.ChangeAt Go.RowKit Go.Eng
theorem own : ownKnob Tryd.prog.godebug = none := by kernel_rfl
theorem laidOut : laidOutB Tryd.prog = true := by kernel_rfl
theorem mix : Tryd.prog.follows .mixedOrders = true := by kernel_rfl
def rowA31 : Kd := (.pr .str (.pr (.int .i64) (.pr (.int .i64) (.pr .str (.pr .str (.pr (.int .i64) (.pr (.sl (.pr (.int .i64) (.pr (.int .i64) .nil))) (.pr (.sl (.pr (.sl (.pr (.int .i64) (.pr (.int .i64) .nil))) .nil)) (.pr .str (.pr (.int .i64) (.pr (.int .i64) (.pr (.int .i64) (.pr (.int .i64) (.pr (.int .i64) (.pr (.int .i64) (.pr (.int .i64) (.pr (.int .i64) (.pr (.int .i64) .nil))))))))))))))))))
theorem row31 : rowT Tryd.prog 8 31 = some rowA31 := by kernel_rfl
theorem chain31 : rowA31.chain = true := rfl
def rowA32 : Kd := (.pr (.sl (.pr (.int .i64) (.pr (.int .i64) (.pr (.int .i64) .nil)))) .nil)
theorem row32 : rowT Tryd.prog 8 32 = some rowA32 := by kernel_rfl
theorem gG0 : Tryd.prog.globalNamed "shipyard/vec.probe" = some 0 := by kernel_rfl
theorem tG0 : (Tryd.prog.globals[0]?).map (·.type) = some 27 := by kernel_rfl
def laidL : List (String × DataW Unit) := [("shipyard/vec.probe", Rows.laid_shipyard_vec_probe)]
theorem door_met (os : Os) (args : Array Value) : laidMetH Tryd.prog laidL ((World.doorLaid Tryd.prog 400 os).forCall (fun _ _ => 0) ⟨#[], args, []⟩).memory :=
  laidMetH_of_parts3 (fuel := 8) (laidMet_of_run' 8 (by kernel_rfl) (by kernel_rfl)) (by kernel_rfl) (by kernel_rfl)
theorem glob_of {W : World} (h : laidMetH Tryd.prog laidL W) : GlobR (fun g => g < W.heap.size) W := by
  rw [MakeChecks.laidMetH_plain _ _ _ (by kernel_rfl)] at h
  obtain ⟨ps, ⟨g0, t0, cs0, f0, p0, q0, hg0, ht0, hv0, hd0, _, _⟩, _, _⟩ := h
  obtain rfl := Option.some.inj (gG0.symm.trans hg0)
  obtain rfl := Option.some.inj (tG0.symm.trans ht0)
  have hcs := trod_ints (zs := [1, 2, 3]) Tryd.underlying27 (by kernel_rfl) (fun i f hf => by
    match i, hf with
    | 0, hf => cases hf; exact ⟨rfl, Tryd.underlying3, by kernel_rfl⟩
    | 1, hf => cases hf; exact ⟨rfl, Tryd.underlying3, by kernel_rfl⟩
    | 2, hf => cases hf; exact ⟨rfl, Tryd.underlying3, by kernel_rfl⟩
    | i + 3, hf => simp at hf) hd0 rfl
  have hcell : ∀ (j : Nat) (z : Int), ([1, 2, 3] : List Int)[j]? = some z → W.cell? ⟨0, j, none⟩ = some (.int .i64 z) := fun j z hz => by
    rw [World.var?_cell hg0 hv0 j, ← Array.getElem?_toList, hcs, List.getElem?_map, hz]; rfl
  have hlt : 0 < W.heap.size := by
    have h0 := hcell 0 _ rfl
    unfold World.cell? at h0
    split at h0
    · rename_i hq
      exact (Array.getElem?_eq_some_iff.1 hq).1
    · cases h0
  intro g r f hg
  match g, hg with
  | 0, hg =>
    cases hg
    refine ⟨0, 0, rfl, hlt, fun j hj => ?_⟩
    match j, hj with
    | 0, _ => exact ⟨⟨_, rfl⟩, _, by rw [Nat.zero_add]; exact hcell 0 _ rfl, rfl⟩
    | 1, _ => exact ⟨⟨_, rfl⟩, _, by rw [Nat.zero_add]; exact hcell 1 _ rfl, rfl⟩
    | 2, _ => exact ⟨⟨_, rfl⟩, _, by rw [Nat.zero_add]; exact hcell 2 _ rfl, rfl⟩
end Go.Proofs.YtbjfmobjdipehaaDoor
