/-
 What all laws of this seat share: the loaded program's facts, and an argument's reading.
-/
import Derived.Test.YtbjfmobjdipehaaGreatDoorRows
import Derived.Test.YtbjfmobjdipehaaGreatDoorSndT
import Derived.LaidMore
import Derived.OpenShut
import Derived.Stop.Joined
import Derived.ProofKit
import Derived.MakeChecks
import Derived.Test.YtbjfmobjdipehaaGreatDoorEngU
set_option linter.all false
set_option maxRecDepth 100000
namespace Go.Proofs.YtbjfmobjdipehaaGreatDoor
open Go.ChangeShapes Go.WideShapes Go.ChangeAt Go.RowKit Go.Eng
theorem own : ownKnob Tryz.prog.godebug = none := by kernel_rfl
theorem laidOut : laidOutB Tryz.prog = true := by kernel_rfl
theorem mix : Tryz.prog.follows .mixedOrders = true := by kernel_rfl
def rowA28 : Kd := (.pr .str (.pr (.sl (.pr .str (.pr (.int .i64) (.pr .str .nil)))) (.pr (.sl (.pr .str (.pr (.int .i64) (.pr (.int .i64) (.pr .str (.pr .str (.pr (.int .i64) (.pr (.sl (.pr (.int .i64) (.pr (.int .i64) .nil))) (.pr (.sl (.pr (.sl (.pr (.int .i64) (.pr (.int .i64) .nil))) .nil)) (.pr .str (.pr (.int .i64) (.pr (.int .i64) (.pr (.int .i64) (.pr (.int .i64) (.pr (.int .i64) (.pr (.int .i64) (.pr (.int .i64) (.pr (.int .i64) (.pr (.int .i64) .nil))))))))))))))))))) (.pr (.sl (.pr .str (.pr .str (.pr .str (.pr (.int .i64) (.pr (.int .i64) (.pr (.int .i64) .nil))))))) (.pr (.sl (.pr .str (.pr .str (.pr (.sl (.pr .str .nil)) (.pr (.int .i64) (.pr (.sl (.pr .str .nil)) .nil)))))) (.pr (.sl (.pr (.int .i64) (.pr .str (.pr .str .nil)))) .nil))))))
theorem row28 : rowT Tryz.prog 8 28 = some rowA28 := by kernel_rfl
theorem open28 {l : List CV} (hl : l.length = rowA28.len) (hk : ∀ (j : Nat) (c : CV), l[j]? = some c → (rowA28.nth j).okP c ∧ c.wf) : ∃ s0c0 fl0c1 n0c1 f0c1 fl0c2 n0c2 f0c2 fl0c3 n0c3 f0c3 fl0c4 n0c4 f0c4 fl0c5 n0c5 f0c5, l = [.s s0c0, .ro fl0c1 (.pr .str (.pr (.int .i64) (.pr .str .nil))) n0c1 f0c1, .ro fl0c2 (.pr .str (.pr (.int .i64) (.pr (.int .i64) (.pr .str (.pr .str (.pr (.int .i64) (.pr (.sl (.pr (.int .i64) (.pr (.int .i64) .nil))) (.pr (.sl (.pr (.sl (.pr (.int .i64) (.pr (.int .i64) .nil))) .nil)) (.pr .str (.pr (.int .i64) (.pr (.int .i64) (.pr (.int .i64) (.pr (.int .i64) (.pr (.int .i64) (.pr (.int .i64) (.pr (.int .i64) (.pr (.int .i64) (.pr (.int .i64) .nil)))))))))))))))))) n0c2 f0c2, .ro fl0c3 (.pr .str (.pr .str (.pr .str (.pr (.int .i64) (.pr (.int .i64) (.pr (.int .i64) .nil)))))) n0c3 f0c3, .ro fl0c4 (.pr .str (.pr .str (.pr (.sl (.pr .str .nil)) (.pr (.int .i64) (.pr (.sl (.pr .str .nil)) .nil))))) n0c4 f0c4, .ro fl0c5 (.pr (.int .i64) (.pr .str (.pr .str .nil))) n0c5 f0c5] ∧ SlIn (.pr .str (.pr (.int .i64) (.pr .str .nil))) n0c1 f0c1 ∧ SlIn (.pr .str (.pr (.int .i64) (.pr (.int .i64) (.pr .str (.pr .str (.pr (.int .i64) (.pr (.sl (.pr (.int .i64) (.pr (.int .i64) .nil))) (.pr (.sl (.pr (.sl (.pr (.int .i64) (.pr (.int .i64) .nil))) .nil)) (.pr .str (.pr (.int .i64) (.pr (.int .i64) (.pr (.int .i64) (.pr (.int .i64) (.pr (.int .i64) (.pr (.int .i64) (.pr (.int .i64) (.pr (.int .i64) (.pr (.int .i64) .nil)))))))))))))))))) n0c2 f0c2 ∧ SlIn (.pr .str (.pr .str (.pr .str (.pr (.int .i64) (.pr (.int .i64) (.pr (.int .i64) .nil)))))) n0c3 f0c3 ∧ SlIn (.pr .str (.pr .str (.pr (.sl (.pr .str .nil)) (.pr (.int .i64) (.pr (.sl (.pr .str .nil)) .nil))))) n0c4 f0c4 ∧ SlIn (.pr (.int .i64) (.pr .str (.pr .str .nil))) n0c5 f0c5 := by
 match l, hl with
 | [x0, x1, x2, x3, x4, x5], _ =>
  obtain ⟨h0, g0⟩ := hk 0 x0 rfl
  obtain ⟨s0c0, rfl⟩ := (show ∃ n, x0 = .s n from h0)
  obtain ⟨h1, g1⟩ := hk 1 x1 rfl
  obtain ⟨fl0c1, n0c1, f0c1, rfl⟩ := (show ∃ fl n f, x1 = .ro fl (.pr .str (.pr (.int .i64) (.pr .str .nil))) n f from h1)
  obtain ⟨h2, g2⟩ := hk 2 x2 rfl
  obtain ⟨fl0c2, n0c2, f0c2, rfl⟩ := (show ∃ fl n f, x2 = .ro fl (.pr .str (.pr (.int .i64) (.pr (.int .i64) (.pr .str (.pr .str (.pr (.int .i64) (.pr (.sl (.pr (.int .i64) (.pr (.int .i64) .nil))) (.pr (.sl (.pr (.sl (.pr (.int .i64) (.pr (.int .i64) .nil))) .nil)) (.pr .str (.pr (.int .i64) (.pr (.int .i64) (.pr (.int .i64) (.pr (.int .i64) (.pr (.int .i64) (.pr (.int .i64) (.pr (.int .i64) (.pr (.int .i64) (.pr (.int .i64) .nil)))))))))))))))))) n f from h2)
  obtain ⟨h3, g3⟩ := hk 3 x3 rfl
  obtain ⟨fl0c3, n0c3, f0c3, rfl⟩ := (show ∃ fl n f, x3 = .ro fl (.pr .str (.pr .str (.pr .str (.pr (.int .i64) (.pr (.int .i64) (.pr (.int .i64) .nil)))))) n f from h3)
  obtain ⟨h4, g4⟩ := hk 4 x4 rfl
  obtain ⟨fl0c4, n0c4, f0c4, rfl⟩ := (show ∃ fl n f, x4 = .ro fl (.pr .str (.pr .str (.pr (.sl (.pr .str .nil)) (.pr (.int .i64) (.pr (.sl (.pr .str .nil)) .nil))))) n f from h4)
  obtain ⟨h5, g5⟩ := hk 5 x5 rfl
  obtain ⟨fl0c5, n0c5, f0c5, rfl⟩ := (show ∃ fl n f, x5 = .ro fl (.pr (.int .i64) (.pr .str (.pr .str .nil))) n f from h5)
  exact ⟨s0c0, fl0c1, n0c1, f0c1, fl0c2, n0c2, f0c2, fl0c3, n0c3, f0c3, fl0c4, n0c4, f0c4, fl0c5, n0c5, f0c5, rfl, g1, g2, g3, g4, g5⟩
def rowA29 : Kd := (.pr (.sl (.pr (.int .i64) (.pr (.int .i64) (.pr (.int .i64) .nil)))) .nil)
theorem row29 : rowT Tryz.prog 8 29 = some rowA29 := by kernel_rfl
theorem gG0 : Tryz.prog.globalNamed "shipyard/vec.probe" = some 0 := by kernel_rfl
theorem tG0 : (Tryz.prog.globals[0]?).map (·.type) = some 42 := by kernel_rfl
def laidL : List (String × DataW Unit) := [("shipyard/vec.probe", Rows.laid_shipyard_vec_probe)]
theorem door_met (os : Os) (args : Array Value) : laidMetH Tryz.prog laidL ((World.doorLaid Tryz.prog 400 os).forCall (fun _ _ => 0) ⟨#[], args, []⟩).memory :=
 laidMetH_of_parts3 (fuel := 8) (laidMet_of_run' 8 (by kernel_rfl) (by kernel_rfl)) (by kernel_rfl) (by kernel_rfl)
theorem glob_of {W : World} (h : laidMetH Tryz.prog laidL W) : GlobR (fun g => g < W.heap.size) W := by
 rw [MakeChecks.laidMetH_plain _ _ _ (by kernel_rfl)] at h
 obtain ⟨ps, ⟨g0, t0, cs0, f0, p0, q0, hg0, ht0, hv0, hd0, _, _⟩, _, _⟩ := h
 obtain rfl := Option.some.inj (gG0.symm.trans hg0)
 obtain rfl := Option.some.inj (tG0.symm.trans ht0)
 have hcs := trod_ints (zs := [1, 2, 3]) Tryz.underlying42 (by kernel_rfl) (fun i f hf => by
  match i, hf with
  | 0, hf => cases hf; exact ⟨rfl, Tryz.underlying3, by kernel_rfl⟩
  | 1, hf => cases hf; exact ⟨rfl, Tryz.underlying3, by kernel_rfl⟩
  | 2, hf => cases hf; exact ⟨rfl, Tryz.underlying3, by kernel_rfl⟩
  | i + 3, hf => simp at hf) hd0 rfl
 have hcell : ∀ (j : Nat) (z : Int), ([1, 2, 3] : List Int)[j]? = some z → W.cell? ⟨0, j, none⟩ = some (.int .i64 z) := fun j z hz => by
  rw [World.var?_cell hg0 hv0 j, ← Array.getElem?_toList, hcs, List.getElem?_map, hz]; rfl
 have hlt : 0 < W.heap.size := by
  have h0 := hcell 0 _ rfl
  unfold World.cell? at h0
  split at h0
  ·rename_i hq
   exact (Array.getElem?_eq_some_iff.1 hq).1
  ·cases h0
 intro g r f hg
 match g, hg with
 | 0, hg =>
  cases hg
  refine ⟨0, 0, rfl, hlt, fun j hj => ?_⟩
  match j, hj with
  | 0, _ => exact ⟨⟨_, rfl⟩, _, by rw [Nat.zero_add]; exact hcell 0 _ rfl, rfl⟩
  | 1, _ => exact ⟨⟨_, rfl⟩, _, by rw [Nat.zero_add]; exact hcell 1 _ rfl, rfl⟩
  | 2, _ => exact ⟨⟨_, rfl⟩, _, by rw [Nat.zero_add]; exact hcell 2 _ rfl, rfl⟩
end Go.Proofs.YtbjfmobjdipehaaGreatDoor
