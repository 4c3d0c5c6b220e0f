/-
 What all laws of this seat share: the loaded program's facts,and an argument's reading.
-/
import Derived.Test.YtkknnlhhchielaaGreatDoorRows
import Derived.Test.YtkknnlhhchielaaGreatDoorSndT
import Derived.LaidMore
import Derived.OpenShut
import Derived.Stop.Joined
import Derived.ProofKit
import Derived.MakeChecks
import Derived.Test.YtkknnlhhchielaaGreatDoorEngU
set_option linter.all false
set_option maxRecDepth 100000
namespace Go.Proofs.YtkknnlhhchielaaGreatDoor
open Go.ChangeShapes Go.WideShapes Go.ChangeAt Go.RowKit Go.Eng
theorem own:ownKnob Tryz.prog.godebug=none:=by kernel_rfl
theorem laidOut:laidOutB Tryz.prog=true:=by kernel_rfl
theorem mix:Tryz.prog.follows .mixedOrders=true:=by kernel_rfl
def rowA23:Kd:=(.pr .str (.pr .str (.pr (.int .i64) (.pr (.int .i64) (.pr (.int .i64) (.pr .str .nil))))))
theorem row23:rowT Tryz.prog 12 23=some rowA23:=by kernel_rfl
theorem open23 {l:List CV} (hl:l.length=rowA23.len) (hk:∀ (j:Nat) (c:CV),l[j]?=some c→(rowA23.nth j).okP c∧c.wf):∃ s0c0 s0c1 a0c2 a0c3 a0c4 s0c5,l = [.s s0c0,.s s0c1,.i .i64 a0c2,.i .i64 a0c3,.i .i64 a0c4,.s s0c5]∧I64 a0c2∧I64 a0c3∧I64 a0c4:=by
 match l,hl with
 | [x0,x1,x2,x3,x4,x5],_ =>
  obtain ⟨h0,g0⟩:=hk 0 x0 rfl
  obtain ⟨s0c0,rfl⟩:=(show ∃ n,x0=.s n from h0)
  obtain ⟨h1,g1⟩:=hk 1 x1 rfl
  obtain ⟨s0c1,rfl⟩:=(show ∃ n,x1=.s n from h1)
  obtain ⟨h2,g2⟩:=hk 2 x2 rfl
  obtain ⟨a0c2,rfl⟩:=(show ∃ n,x2=.i .i64 n from h2)
  obtain ⟨h3,g3⟩:=hk 3 x3 rfl
  obtain ⟨a0c3,rfl⟩:=(show ∃ n,x3=.i .i64 n from h3)
  obtain ⟨h4,g4⟩:=hk 4 x4 rfl
  obtain ⟨a0c4,rfl⟩:=(show ∃ n,x4=.i .i64 n from h4)
  obtain ⟨h5,g5⟩:=hk 5 x5 rfl
  obtain ⟨s0c5,rfl⟩:=(show ∃ n,x5=.s n from h5)
  exact ⟨s0c0,s0c1,a0c2,a0c3,a0c4,s0c5,rfl,i64_wf g2,i64_wf g3,i64_wf g4⟩
def rowA24:Kd:=(.pr (.sl (.pr .str (.pr (.int .i64) (.pr (.int .i64) (.pr .str (.pr .str (.pr (.int .i64) (.pr (.sl (.pr (.int .i64) (.pr (.int .i64) .nil))) (.pr (.sl (.pr (.sl (.pr (.int .i64) (.pr (.int .i64) .nil))) .nil)) (.pr .str (.pr (.int .i64) (.pr (.int .i64) (.pr (.int .i64) (.pr (.int .i64) (.pr (.int .i64) (.pr (.int .i64) (.pr (.int .i64) (.pr (.int .i64) (.pr (.int .i64) .nil))))))))))))))))))) .nil)
theorem row24:rowT Tryz.prog 12 24=some rowA24:=by kernel_rfl
theorem gG0 : Tryz.prog.globalNamed "shipyard/nester.budget" = some 0 := by kernel_rfl
theorem tG0:(Tryz.prog.globals[0]?).map (·.type)=some 75:=by kernel_rfl
def laidL : List (String × DataW Unit) := [("shipyard/nester.budget", Rows.laid_shipyard_nester_budget)]
theorem door_met (os:Os) (args:Array Value):laidMetH Tryz.prog laidL ((World.doorLaid Tryz.prog 400 os).forCall (fun _ _=>0) ⟨#[],args,[]⟩).memory :=
 laidMetH_of_parts3 (fuel:=8) (laidMet_of_run' 8 (by kernel_rfl) (by kernel_rfl)) (by kernel_rfl) (by kernel_rfl)
theorem glob_of {W:World} (h:laidMetH Tryz.prog laidL W):GlobR (fun g=>g<W.heap.size) W:=by
 rw [MakeChecks.laidMetH_plain _ _ _ (by kernel_rfl)] at h
 obtain ⟨ps,⟨g0,t0,cs0,f0,p0,q0,hg0,ht0,hv0,hd0,_,_⟩,_,_⟩:=h
 obtain rfl:=Option.some.inj (gG0.symm.trans hg0)
 obtain rfl:=Option.some.inj (tG0.symm.trans ht0)
 have hcs:=trod_intsA (zs:=[1,3,21,343,10473]) Tryz.underlying75 (by kernel_rfl) (by kernel_rfl) Tryz.underlying3 hd0 rfl
 have hcell:∀ (j:Nat) (z:Int),([1,3,21,343,10473]:List Int)[j]?=some z→W.cell? ⟨0,j,none⟩=some (.int .i64 z):=fun j z hz=>by
  rw [World.var?_cell hg0 hv0 j,← Array.getElem?_toList,hcs,List.getElem?_map,hz];rfl
 have hlt:0<W.heap.size:=by
  have h0:=hcell 0 _ rfl
  unfold World.cell? at h0
  split at h0
  ·rename_i hq
   exact (Array.getElem?_eq_some_iff.1 hq).1
  ·cases h0
 intro g r f hg
 match g,hg with
 | 0,hg =>
  cases hg
  refine ⟨0,0,rfl,hlt,fun j hj=>?_⟩
  match j,hj with
  | 0,_=>exact ⟨⟨_,rfl⟩,_,by rw [Nat.zero_add];exact hcell 0 _ rfl,rfl⟩
  | 1,_=>exact ⟨⟨_,rfl⟩,_,by rw [Nat.zero_add];exact hcell 1 _ rfl,rfl⟩
  | 2,_=>exact ⟨⟨_,rfl⟩,_,by rw [Nat.zero_add];exact hcell 2 _ rfl,rfl⟩
  | 3,_=>exact ⟨⟨_,rfl⟩,_,by rw [Nat.zero_add];exact hcell 3 _ rfl,rfl⟩
  | 4,_=>exact ⟨⟨_,rfl⟩,_,by rw [Nat.zero_add];exact hcell 4 _ rfl,rfl⟩
end Go.Proofs.YtkknnlhhchielaaGreatDoor
