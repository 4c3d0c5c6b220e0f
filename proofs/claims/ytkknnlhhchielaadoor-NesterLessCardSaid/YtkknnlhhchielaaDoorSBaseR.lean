/-
 What all laws of this seat share: the loaded program's facts,and an argument's reading.
-/
import Derived.Test.YtkknnlhhchielaaDoorRows
import Derived.Test.YtkknnlhhchielaaDoorSndT
import Derived.LaidMore
import Derived.OpenShut
import Derived.Stop.Joined
import Derived.ProofKit
import Derived.MakeChecks
import Derived.Test.YtkknnlhhchielaaDoorEngU
set_option linter.all false
set_option maxRecDepth 100000
namespace Go.Proofs.YtkknnlhhchielaaDoor
open Go.ChangeShapes Go.WideShapes Go.ChangeAt Go.RowKit Go.Eng
theorem own:ownKnob Tryd.prog.godebug=none:=by kernel_rfl
theorem laidOut:laidOutB Tryd.prog=true:=by kernel_rfl
theorem mix:Tryd.prog.follows .mixedOrders=true:=by kernel_rfl
def rowA47:Kd:=(.pr .str (.pr .str (.pr (.int .i64) (.pr (.int .i64) (.pr (.int .i64) (.pr .str (.pr (.sl (.pr .str (.pr (.int .i64) (.pr (.int .i64) (.pr .str (.pr .str (.pr (.int .i64) (.pr (.sl (.pr (.int .i64) (.pr (.int .i64) .nil))) (.pr (.sl (.pr (.sl (.pr (.int .i64) (.pr (.int .i64) .nil))) .nil)) (.pr .str (.pr (.int .i64) (.pr (.int .i64) (.pr (.int .i64) (.pr (.int .i64) (.pr (.int .i64) (.pr (.int .i64) (.pr (.int .i64) (.pr (.int .i64) (.pr (.int .i64) .nil))))))))))))))))))) (.pr (.int .i64) .nil))))))))
theorem row47:rowT Tryd.prog 12 47=some rowA47:=by kernel_rfl
theorem chain47:rowA47.chain=true:=rfl
def rowA48:Kd:=(.pr (.int .u8) (.pr (.int .u8) (.pr (.int .u8) .nil)))
theorem row48:rowT Tryd.prog 12 48=some rowA48:=by kernel_rfl
theorem open48 {l:List CV} (hl:l.length=rowA48.len) (hk:∀ (j:Nat) (c:CV),l[j]?=some c→(rowA48.nth j).okP c∧c.wf):∃ a0c0 a0c1 a0c2,l = [.i .u8 a0c0,.i .u8 a0c1,.i .u8 a0c2]∧(Lit.int .u8 a0c0).wf=true∧(Lit.int .u8 a0c1).wf=true∧(Lit.int .u8 a0c2).wf=true:=by
 match l,hl with
 | [x0,x1,x2],_ =>
  obtain ⟨h0,g0⟩:=hk 0 x0 rfl
  obtain ⟨a0c0,rfl⟩:=(show ∃ n,x0=.i .u8 n from h0)
  obtain ⟨h1,g1⟩:=hk 1 x1 rfl
  obtain ⟨a0c1,rfl⟩:=(show ∃ n,x1=.i .u8 n from h1)
  obtain ⟨h2,g2⟩:=hk 2 x2 rfl
  obtain ⟨a0c2,rfl⟩:=(show ∃ n,x2=.i .u8 n from h2)
  exact ⟨a0c0,a0c1,a0c2,rfl,g0,g1,g2⟩
theorem gG0 : Tryd.prog.globalNamed "shipyard/nester.budget" = some 0 := by kernel_rfl
theorem tG0:(Tryd.prog.globals[0]?).map (·.type)=some 71:=by kernel_rfl
def laidL : List (String × DataW Unit) := [("shipyard/nester.budget", Rows.laid_shipyard_nester_budget)]
theorem door_met (os:Os) (args:Array Value):laidMetH Tryd.prog laidL ((World.doorLaid Tryd.prog 400 os).forCall (fun _ _=>0) ⟨#[],args,[]⟩).memory :=
 laidMetH_of_parts3 (fuel:=8) (laidMet_of_run' 8 (by kernel_rfl) (by kernel_rfl)) (by kernel_rfl) (by kernel_rfl)
theorem glob_of {W:World} (h:laidMetH Tryd.prog laidL W):GlobR (fun g=>g<W.heap.size) W:=by
 rw [MakeChecks.laidMetH_plain _ _ _ (by kernel_rfl)] at h
 obtain ⟨ps,⟨g0,t0,cs0,f0,p0,q0,hg0,ht0,hv0,hd0,_,_⟩,_,_⟩:=h
 obtain rfl:=Option.some.inj (gG0.symm.trans hg0)
 obtain rfl:=Option.some.inj (tG0.symm.trans ht0)
 have hcs:=trod_intsA (zs:=[1,3,21,343,10473]) Tryd.underlying71 (by kernel_rfl) (by kernel_rfl) Tryd.underlying3 hd0 rfl
 have hcell:∀ (j:Nat) (z:Int),([1,3,21,343,10473]:List Int)[j]?=some z→W.cell? ⟨0,j,none⟩=some (.int .i64 z):=fun j z hz=>by
  rw [World.var?_cell hg0 hv0 j,← Array.getElem?_toList,hcs,List.getElem?_map,hz];rfl
 have hlt:0<W.heap.size:=by
  have h0:=hcell 0 _ rfl
  unfold World.cell? at h0
  split at h0
  ·rename_i hq
   exact (Array.getElem?_eq_some_iff.1 hq).1
  ·cases h0
 intro g r f hg
 match g,hg with
 | 0,hg =>
  cases hg
  refine ⟨0,0,rfl,hlt,fun j hj=>?_⟩
  match j,hj with
  | 0,_=>exact ⟨⟨_,rfl⟩,_,by rw [Nat.zero_add];exact hcell 0 _ rfl,rfl⟩
  | 1,_=>exact ⟨⟨_,rfl⟩,_,by rw [Nat.zero_add];exact hcell 1 _ rfl,rfl⟩
  | 2,_=>exact ⟨⟨_,rfl⟩,_,by rw [Nat.zero_add];exact hcell 2 _ rfl,rfl⟩
  | 3,_=>exact ⟨⟨_,rfl⟩,_,by rw [Nat.zero_add];exact hcell 3 _ rfl,rfl⟩
  | 4,_=>exact ⟨⟨_,rfl⟩,_,by rw [Nat.zero_add];exact hcell 4 _ rfl,rfl⟩
end Go.Proofs.YtkknnlhhchielaaDoor
