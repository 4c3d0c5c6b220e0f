/-
 NesterBests returns true for all arguments,and leaves them as they were. No condition.
-/
import Derived.Test.YtkknnlhhchielaaGreatDoorSBaseRz
import Derived.Test.YtkknnlhhchielaaGreatDoorNpSums
import Derived.Test.YtkknnlhhchielaaGreatDoorCards
import Derived.Test.YtkknnlhhchielaaGreatDoorTie
import Derived.SevenTiedAt
set_option linter.all false
namespace Go.Proofs.YtkknnlhhchielaaGreatDoor
open Go.ChangeShapes Go.WideShapes Go.ChangeAt Go.RowKit Go.Eng
theorem AB (l0:List CV) (hl0:l0.length=Bf.len) (hk0:∀ (j:Nat) (c:CV),l0[j]?=some c->(Bf.nth j).okP c/\c.wf) (a1c0:Int) (h1c0:I64 a1c0) :
  Den Tryz.prog 4 [.agg l0,.v (.i .i64 a1c0)] [.v (.b true)]:=by
 refine R13.w421 mix (fuel:=100) ?_
 have h:(R13.O421 100).o [.agg l0,.v (.i .i64 a1c0)] some=bif Ae Bf l0 then (ob (R13.F421 100 (au l0) a1c0) fun t=>some [.v (.b t)]) else none:=by kernel_rfl
 rw [h,Fu Rd hl0 hk0,cond_true,R13.bests24 (au l0) (Mg hl0 hk0) a1c0 h1c0]
 rfl
set_option maxRecDepth 100000 in
theorem sJ (os:Os) (started:os.Started) (H:Type) (enc:TypeId × Value->H) :
  ReturnsInHanded {} Tryz.checked os 4 .any (fun w args=>(Rows.nesterBestsSpec.pre enc Tryz.prog Tryz.f4 [] false w args/\laidMetH Tryz.prog Fj w)/\sizedMet enc Tryz.prog Tryz.f4 (OpenSpec.ofChange Rows.nesterBestsSpec) false w args)
   (Rows.nesterBestsSpec.post enc Tryz.prog Tryz.f4 false true false false):=by
 refine returnsInHanded_of_change_and (C:=Tryz.checked) (X:=fun w _=>laidMetH Tryz.prog Fj w) (fun _ _ _ hh h=>h.of_heap hh) own started (by kernel_rfl) Tryz.func4
  (ChangeSpec.witness_shaped (enc:=enc) (C:=Tryz.checked) (os:=os) (X:=fun w _=>laidMetH Tryz.prog Fj w) false (World.doorLaid Tryz.prog 400 os) #[.agg #[.string ByteArray.empty,.string ByteArray.empty,.int .i64 0,.int .i64 0,.int .i64 0,.string ByteArray.empty,.slice none 0 0,.int .i64 0],.int .i64 0] 8 rfl (World.shaped_of_RefB (by kernel_rfl) (by kernel_rfl)) (by kernel_rfl) (by kernel_rfl) (by kernel_rfl) (OH os _)) ?_
 intro W base args ds gs before hval0 hW _ _ hL _
 have hval:∀ (j:Nat) t v,Tryz.f4.params[j]?=some t->args[j]?=some v->Value.okWide Tryz.prog W .any base t v:=hval0
 have hW':=hW
 obtain ⟨p,q,hA0,hV,rfl,hfz,hnd⟩:=hW
 have hA:DataW.TrodAll enc Tryz.prog W 0 (fun _=>true) true Tryz.f4.params.toList args.toList ds p:=hA0
 rw [Tryz.params4] at hA hval
 obtain ⟨v0,v1,d0,d1,p0,p1,rfl,rfl,rfl,h0,h1⟩:=trodAll_two hA
 obtain ⟨rfl,rfl⟩:=trodVars_none hV
 obtain ⟨cs0,rfl,_⟩:=okWide_struct Tryz.underlying34 (hval 0 34 v0 rfl rfl)
 obtain ⟨a1c0,rfl⟩:=okWide_int Tryz.underlying3 (hval 1 3 v1 rfl rfl)
 clear hA0 hval0
 obtain ⟨l0,hl0,hk0,hr0⟩:=J1 (d:=12) XN h0
 obtain ⟨h1c0,hr1⟩:=Of Tryz.underlying3 (ok:=fun g=>g<W.heap.size) (W:=W) h1
 have hlt0:∀ x∈p0,x.block<W.heap.size:=fun x hx=>by simpa using hW'.lt x (by simp [hx])
 have hlt1:∀ x∈p1,x.block<W.heap.size:=fun x hx=>by simpa using hW'.lt x (by simp [hx])
 refine (Kk (AB l0 hl0 hk0 a1c0 h1c0) (Q3 hL) (ARs.cons hr0 (ARs.cons hr1 ARs.nil))).mono fun e W' ⟨he,hb⟩=>?_
 subst he
 refine ⟨_,rfl,_,_,_,[],_,[],hW',trodAll_mk1 (shut_bool Tryz.underlying4 true),
  trodAll_mk2 (Below.trod I4 (by kernel_rfl) (of_decide_eq_true (by kernel_rfl)) h0 hb.1 hlt0) (Below.trod I4 (by kernel_rfl) (of_decide_eq_true (by kernel_rfl)) h1 hb.1 hlt1),rfl,hb.frame _,fun h=>by cases h⟩
theorem nesterbests_holds:Rows.NesterBestsSaid :=
 OpenClaim.holds_of_wide 4 Tryz.f4 rfl rfl rfl rfl rfl rfl rfl ⟨rfl,rfl,rfl,rfl,rfl⟩ rfl rfl rfl rfl rfl (by kernel_rfl) Tryz.func4 (by kernel_rfl)
  (of_decide_eq_true (by kernel_rfl)) (by unfold Func.isWrapper;first | (rw [if_pos (by decide +kernel)];kernel_rfl) | (rw [if_neg (by decide +kernel)];exact ⟨rfl,rfl⟩))
  (fun os started H enc _=>sJ os started H enc)
theorem nesterbests_card:Rows.NesterBestsCardSaid :=
 Claim7.holds_tied_plain_at .later [] [.data] true (true, "29e35ca4310462b319e3e5b097c8cf21937d965d4e6cb07be46d5b895a32ccd7") false
  nesterbests_holds (fun _ h=>by cases h) (by kernel_rfl) (fun _ h=>by cases h) nesterBests_row_tie rfl ⟨rfl,rfl⟩ (by kernel_rfl) rfl
  (fun f fn hf hfn=>by
   obtain rfl : f = 4 := rhZ ((show Tryz.prog.funcNamed "shipyard/shipyardlaw24.NesterBests" = some 4 by kernel_rfl).symm.trans hf) |>.symm
   obtain rfl:fn=Tryz.f4:=(rhZ (Tryz.func4.symm.trans hfn)).symm
   exact ⟨by kernel_rfl,fun j t ht=>by
    rw [Tryz.params4] at ht
    have hm:t∈[34,3]:=by simpa using Array.mem_of_getElem? ht
    have hall:([34,3].all fun u=>!Tryz.prog.wantsStandIn u)=true:=by kernel_rfl
    exact (show Tryz.prog.wantsStandIn t=false by simpa using qiZ.1 hall t hm)⟩)
  (by kernel_rfl)
#print axioms nesterbests_card
end Go.Proofs.YtkknnlhhchielaaGreatDoor
