/-
 NesterFull returns true for all arguments,and leaves them as they were. No condition.
-/
import Derived.Test.YtkknnlhhchielaaGreatDoorSBaseRz
import Derived.Test.YtkknnlhhchielaaGreatDoorNpSums
import Derived.Test.YtkknnlhhchielaaGreatDoorCards
import Derived.Test.YtkknnlhhchielaaGreatDoorTie
import Derived.SevenTiedAt
set_option linter.all false
namespace Go.Proofs.YtkknnlhhchielaaGreatDoor
open Go.ChangeShapes Go.WideShapes Go.ChangeAt Go.RowKit Go.Eng
theorem nesterfull_den (l0:List CV) (hl0:l0.length=rowA34.len) (hk0:∀ (j:Nat) (c:CV),l0[j]?=some c→(rowA34.nth j).okP c∧c.wf) (s1c0:ByteArray) (a1c1:Int) (a1c2:Int) (a1c3:Int) (b1c4:Bool) (h1c1:I64 a1c1) (h1c2:I64 a1c2) (h1c3:I64 a1c3) :
  Den Tryz.prog 5 [.agg l0,.agg [.s s1c0,.i .i64 a1c1,.i .i64 a1c2,.i .i64 a1c3,.b b1c4]] [.v (.b true)]:=by
 refine R13.w415 mix (fuel:=100) ?_
 have h:(R13.O415 100).o [.agg l0,.agg [.s s1c0,.i .i64 a1c1,.i .i64 a1c2,.i .i64 a1c3,.b b1c4]] some=bif fitsL rowA34 l0 then (ob (R13.F415 100 (listF l0) s1c0 a1c1 a1c2 a1c3 b1c4) fun t=>some [.v (.b t)]) else none:=by kernel_rfl
 rw [h,fitsL_of chain34 hl0 hk0,cond_true,R13.full24 (listF l0) (rowIn_of hl0 hk0) s1c0 a1c1 a1c2 a1c3 b1c4 h1c1 h1c2 h1c3]
 rfl
set_option maxRecDepth 100000 in
theorem nesterfull_lifted (os:Os) (started:os.Started) (H:Type) (enc:TypeId × Value→H) :
  ReturnsInHanded {} Tryz.checked os 5 .any (fun w args=>(Rows.nesterFullSpec.pre enc Tryz.prog Tryz.f5 [] false w args∧laidMetH Tryz.prog laidL w)∧sizedMet enc Tryz.prog Tryz.f5 (OpenSpec.ofChange Rows.nesterFullSpec) false w args)
   (Rows.nesterFullSpec.post enc Tryz.prog Tryz.f5 false true false false):=by
 refine returnsInHanded_of_change_and (C:=Tryz.checked) (X:=fun w _=>laidMetH Tryz.prog laidL w) (fun _ _ _ hh h=>h.of_heap hh) own started (by kernel_rfl) Tryz.func5
  (ChangeSpec.witness_shaped (enc:=enc) (C:=Tryz.checked) (os:=os) (X:=fun w _=>laidMetH Tryz.prog laidL w) false (World.doorLaid Tryz.prog 400 os) #[.agg #[.string ByteArray.empty,.string ByteArray.empty,.int .i64 0,.int .i64 0,.int .i64 0,.string ByteArray.empty,.slice none 0 0,.int .i64 0],.agg #[.string ByteArray.empty,.int .i64 0,.int .i64 0,.int .i64 0,.bool false]] 8 rfl (World.shaped_of_RefB (by kernel_rfl) (by kernel_rfl)) (by kernel_rfl) (by kernel_rfl) (by kernel_rfl) (door_met os _)) ?_
 intro W base args ds gs before hval0 hW _ _ hL _
 have hval:∀ (j:Nat) t v,Tryz.f5.params[j]?=some t→args[j]?=some v→Value.okWide Tryz.prog W .any base t v:=hval0
 have hW':=hW
 obtain ⟨p,q,hA0,hV,rfl,hfz,hnd⟩:=hW
 have hA:DataW.TrodAll enc Tryz.prog W 0 (fun _=>true) true Tryz.f5.params.toList args.toList ds p:=hA0
 rw [Tryz.params5] at hA hval
 obtain ⟨v0,v1,d0,d1,p0,p1,rfl,rfl,rfl,h0,h1⟩:=trodAll_two hA
 obtain ⟨rfl,rfl⟩:=trodVars_none hV
 obtain ⟨cs0,rfl,_⟩:=okWide_struct Tryz.underlying34 (hval 0 34 v0 rfl rfl)
 obtain ⟨cs1,rfl,_⟩:=okWide_struct Tryz.underlying44 (hval 1 44 v1 rfl rfl)
 clear hA0 hval0
 obtain ⟨l0,hl0,hk0,hr0⟩:=open_argN (d:=12) row34 h0
 obtain ⟨l1,hl1,hk1,hr1⟩:=open_argN (d:=12) row44 h1
 obtain ⟨s1c0,a1c1,a1c2,a1c3,b1c4,rfl,h1c1,h1c2,h1c3⟩:=open44 hl1 hk1
 have hlt0:∀ x∈p0,x.block<W.heap.size:=fun x hx=>by simpa using hW'.lt x (by simp [hx])
 have hlt1:∀ x∈p1,x.block<W.heap.size:=fun x hx=>by simpa using hW'.lt x (by simp [hx])
 refine (law_calls (nesterfull_den l0 hl0 hk0 s1c0 a1c1 a1c2 a1c3 b1c4 h1c1 h1c2 h1c3) (glob_of hL) (ARs.cons hr0 (ARs.cons hr1 ARs.nil))).mono fun e W' ⟨he,hb⟩=>?_
 subst he
 refine ⟨_,rfl,_,_,_,[],_,[],hW',trodAll_mk1 (shut_bool Tryz.underlying4 true),
  trodAll_mk2 (Below.trod laidOut (by kernel_rfl) (of_decide_eq_true (by kernel_rfl)) h0 hb.1 hlt0) (Below.trod laidOut (by kernel_rfl) (of_decide_eq_true (by kernel_rfl)) h1 hb.1 hlt1),rfl,hb.frame _,fun h=>by cases h⟩
theorem nesterfull_holds:Rows.NesterFullSaid :=
 OpenClaim.holds_of_wide 5 Tryz.f5 rfl rfl rfl rfl rfl rfl rfl ⟨rfl,rfl,rfl,rfl,rfl⟩ rfl rfl rfl rfl rfl (by kernel_rfl) Tryz.func5 (by kernel_rfl)
  (of_decide_eq_true (by kernel_rfl)) (by unfold Func.isWrapper;first | (rw [if_pos (by decide +kernel)];kernel_rfl) | (rw [if_neg (by decide +kernel)];exact ⟨rfl,rfl⟩))
  (fun os started H enc _=>nesterfull_lifted os started H enc)
theorem nesterfull_card:Rows.NesterFullCardSaid :=
 Claim7.holds_tied_plain_at .later [] [.data] true (true, "29e35ca4310462b319e3e5b097c8cf21937d965d4e6cb07be46d5b895a32ccd7") false
  nesterfull_holds (fun _ h=>by cases h) (by kernel_rfl) (fun _ h=>by cases h) nesterFull_row_tie rfl ⟨rfl,rfl⟩ (by kernel_rfl) rfl
  (fun f fn hf hfn=>by
   obtain rfl : f = 5 := Option.some.inj ((show Tryz.prog.funcNamed "shipyard/shipyardlaw24.NesterFull" = some 5 by kernel_rfl).symm.trans hf) |>.symm
   obtain rfl:fn=Tryz.f5:=(Option.some.inj (Tryz.func5.symm.trans hfn)).symm
   exact ⟨by kernel_rfl,fun j t ht=>by
    rw [Tryz.params5] at ht
    have hm:t∈[34,44]:=by simpa using Array.mem_of_getElem? ht
    have hall:([34,44].all fun u=>!Tryz.prog.wantsStandIn u)=true:=by kernel_rfl
    exact (show Tryz.prog.wantsStandIn t=false by simpa using List.all_eq_true.1 hall t hm)⟩)
  (by kernel_rfl)
#print axioms nesterfull_card
end Go.Proofs.YtkknnlhhchielaaGreatDoor
