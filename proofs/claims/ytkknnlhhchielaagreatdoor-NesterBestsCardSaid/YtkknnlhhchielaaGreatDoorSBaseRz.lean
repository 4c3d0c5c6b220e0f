/-
 What all laws of this seat share: the loaded program's facts,and an argument's reading.
-/
import Derived.Test.YtkknnlhhchielaaGreatDoorRows
import Derived.Test.YtkknnlhhchielaaGreatDoorSndT
import Derived.LaidMore
import Derived.OpenShut
import Derived.Stop.Joined
import Derived.ProofKit
import Derived.MakeChecks
import Derived.Test.YtkknnlhhchielaaGreatDoorEngU
set_option linter.all false
set_option maxRecDepth 100000
namespace Go.Proofs.YtkknnlhhchielaaGreatDoor
open Go.ChangeShapes Go.WideShapes Go.ChangeAt Go.RowKit Go.Eng
theorem own:ownKnob Tryz.prog.godebug=none:=by kernel_rfl
theorem I4:laidOutB Tryz.prog=true:=by kernel_rfl
theorem mix:Tryz.prog.follows .mixedOrders=true:=by kernel_rfl
def Bf:Kd:=(.pr .str (.pr .str (.pr (.int .i64) (.pr (.int .i64) (.pr (.int .i64) (.pr .str (.pr (.sl (.pr .str (.pr (.int .i64) (.pr (.int .i64) (.pr .str (.pr .str (.pr (.int .i64) (.pr (.sl (.pr (.int .i64) (.pr (.int .i64) .nil))) (.pr (.sl (.pr (.sl (.pr (.int .i64) (.pr (.int .i64) .nil))) .nil)) (.pr .str (.pr (.int .i64) (.pr (.int .i64) (.pr (.int .i64) (.pr (.int .i64) (.pr (.int .i64) (.pr (.int .i64) (.pr (.int .i64) (.pr (.int .i64) (.pr (.int .i64) .nil))))))))))))))))))) (.pr (.int .i64) .nil))))))))
theorem XN:Gj Tryz.prog 12 34=some Bf:=by kernel_rfl
theorem Rd:Bf.chain=true:=rfl
theorem gG0 : Tryz.prog.globalNamed "shipyard/nester.budget" = some 0 := by kernel_rfl
theorem tG0:(Tryz.prog.globals[0]?).map (·.type)=some 75:=by kernel_rfl
def Fj : List (String × DataW Unit) := [("shipyard/nester.budget", Rows.laid_shipyard_nester_budget)]
theorem OH (os:Os) (args:Array Value):laidMetH Tryz.prog Fj ((World.doorLaid Tryz.prog 400 os).forCall (fun _ _=>0) ⟨#[],args,[]⟩).memory :=
 laidMetH_of_parts3 (fuel:=8) (laidMet_of_run' 8 (by kernel_rfl) (by kernel_rfl)) (by kernel_rfl) (by kernel_rfl)
theorem Q3 {W:World} (h:laidMetH Tryz.prog Fj W):eN (fun g=>g<W.heap.size) W:=by
 rw [MakeChecks.laidMetH_plain _ _ _ (by kernel_rfl)] at h
 obtain ⟨ps,⟨g0,t0,cs0,f0,p0,q0,hg0,ht0,hv0,hd0,_,_⟩,_,_⟩:=h
 obtain rfl:=rhZ (gG0.symm.trans hg0)
 obtain rfl:=rhZ (tG0.symm.trans ht0)
 have hcs:=F5 (zs:=[1,3,21,343,10473]) Tryz.underlying75 (by kernel_rfl) (by kernel_rfl) Tryz.underlying3 hd0 rfl
 have hcell:∀ (j:Nat) (z:Int),([1,3,21,343,10473]:List Int)[j]?=some z->W.cell? ⟨0,j,none⟩=some (.int .i64 z):=fun j z hz=>by
  rw [World.var?_cell hg0 hv0 j,<- Array.getElem?_toList,hcs,qhZ,hz];rfl
 have hlt:0<W.heap.size:=by
  have h0:=hcell 0 _ rfl
  unfold World.cell? at h0
  split at h0
  ·rename_i hq
   exact (qqZ.1 hq).1
  ·cases h0
 intro g r f hg
 match g,hg with
 | 0,hg =>
  cases hg
  refine ⟨0,0,rfl,hlt,fun j hj=>?_⟩
  match j,hj with
  | 0,_=>exact ⟨⟨_,rfl⟩,_,by rw [rlZ];exact hcell 0 _ rfl,rfl⟩
  | 1,_=>exact ⟨⟨_,rfl⟩,_,by rw [rlZ];exact hcell 1 _ rfl,rfl⟩
  | 2,_=>exact ⟨⟨_,rfl⟩,_,by rw [rlZ];exact hcell 2 _ rfl,rfl⟩
  | 3,_=>exact ⟨⟨_,rfl⟩,_,by rw [rlZ];exact hcell 3 _ rfl,rfl⟩
  | 4,_=>exact ⟨⟨_,rfl⟩,_,by rw [rlZ];exact hcell 4 _ rfl,rfl⟩
end Go.Proofs.YtkknnlhhchielaaGreatDoor
