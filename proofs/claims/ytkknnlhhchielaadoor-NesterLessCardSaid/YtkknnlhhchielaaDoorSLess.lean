/-
 NesterLess returns true for all arguments,and leaves them as they were. No condition.
-/
import Derived.Test.YtkknnlhhchielaaDoorSBaseR
import Derived.Test.YtkknnlhhchielaaDoorNpSums
import Derived.Test.YtkknnlhhchielaaDoorCards
import Derived.Test.YtkknnlhhchielaaDoorTie
import Derived.SevenTiedAt
set_option linter.all false
namespace Go.Proofs.YtkknnlhhchielaaDoor
open Go.ChangeShapes Go.WideShapes Go.ChangeAt Go.RowKit Go.Eng
theorem nesterless_den (l0:List CV) (hl0:l0.length=rowA47.len) (hk0:∀ (j:Nat) (c:CV),l0[j]?=some c→(rowA47.nth j).okP c∧c.wf) (a1c0:Int) (a1c1:Int) (a1c2:Int) (h1c0:(Lit.int .u8 a1c0).wf=true) (h1c1:(Lit.int .u8 a1c1).wf=true) (h1c2:(Lit.int .u8 a1c2).wf=true) :
  Den Tryd.prog 4 [.agg l0,.agg [.i .u8 a1c0,.i .u8 a1c1,.i .u8 a1c2]] [.v (.b true)]:=by
 refine R13.w408 mix (fuel:=100) ?_
 have h:(R13.O408 100).o [.agg l0,.agg [.i .u8 a1c0,.i .u8 a1c1,.i .u8 a1c2]] some=bif fitsL rowA47 l0 then (ob (R13.F408 100 (listF l0) a1c0 a1c1 a1c2) fun t=>some [.v (.b t)]) else none:=by kernel_rfl
 rw [h,fitsL_of chain47 hl0 hk0,cond_true,R13.less24 (listF l0) (rowIn_of hl0 hk0) a1c0 a1c1 a1c2 h1c0 h1c1 h1c2]
 rfl
set_option maxRecDepth 100000 in
theorem nesterless_lifted (os:Os) (started:os.Started) (H:Type) (enc:TypeId × Value→H) :
  ReturnsInHanded {} Tryd.checked os 4 .any (fun w args=>(Rows.nesterLessSpec.pre enc Tryd.prog Tryd.f4 [] false w args∧laidMetH Tryd.prog laidL w)∧sizedMet enc Tryd.prog Tryd.f4 (OpenSpec.ofChange Rows.nesterLessSpec) false w args)
   (Rows.nesterLessSpec.post enc Tryd.prog Tryd.f4 false true false false):=by
 refine returnsInHanded_of_change_and (C:=Tryd.checked) (X:=fun w _=>laidMetH Tryd.prog laidL w) (fun _ _ _ hh h=>h.of_heap hh) own started (by kernel_rfl) Tryd.func4
  (ChangeSpec.witness_shaped (enc:=enc) (C:=Tryd.checked) (os:=os) (X:=fun w _=>laidMetH Tryd.prog laidL w) false (World.doorLaid Tryd.prog 400 os) #[.agg #[.string ByteArray.empty,.string ByteArray.empty,.int .i64 0,.int .i64 0,.int .i64 0,.string ByteArray.empty,.slice none 0 0,.int .i64 0],.agg #[.int .u8 0,.int .u8 0,.int .u8 0]] 8 rfl (World.shaped_of_RefB (by kernel_rfl) (by kernel_rfl)) (by kernel_rfl) (by kernel_rfl) (by kernel_rfl) (door_met os _)) ?_
 intro W base args ds gs before hval0 hW _ _ hL _
 have hval:∀ (j:Nat) t v,Tryd.f4.params[j]?=some t→args[j]?=some v→Value.okWide Tryd.prog W .any base t v:=hval0
 have hW':=hW
 obtain ⟨p,q,hA0,hV,rfl,hfz,hnd⟩:=hW
 have hA:DataW.TrodAll enc Tryd.prog W 0 (fun _=>true) true Tryd.f4.params.toList args.toList ds p:=hA0
 rw [Tryd.params4] at hA hval
 obtain ⟨v0,v1,d0,d1,p0,p1,rfl,rfl,rfl,h0,h1⟩:=trodAll_two hA
 obtain ⟨rfl,rfl⟩:=trodVars_none hV
 obtain ⟨cs0,rfl,_⟩:=okWide_struct Tryd.underlying47 (hval 0 47 v0 rfl rfl)
 obtain ⟨cs1,rfl,_⟩:=okWide_array Tryd.underlying48 (hval 1 48 v1 rfl rfl)
 clear hA0 hval0
 obtain ⟨l0,hl0,hk0,hr0⟩:=open_argN (d:=12) row47 h0
 obtain ⟨l1,hl1,hk1,hr1⟩:=open_argN (d:=12) row48 h1
 obtain ⟨a1c0,a1c1,a1c2,rfl,h1c0,h1c1,h1c2⟩:=open48 hl1 hk1
 have hlt0:∀ x∈p0,x.block<W.heap.size:=fun x hx=>by simpa using hW'.lt x (by simp [hx])
 have hlt1:∀ x∈p1,x.block<W.heap.size:=fun x hx=>by simpa using hW'.lt x (by simp [hx])
 refine (law_calls (nesterless_den l0 hl0 hk0 a1c0 a1c1 a1c2 h1c0 h1c1 h1c2) (glob_of hL) (ARs.cons hr0 (ARs.cons hr1 ARs.nil))).mono fun e W' ⟨he,hb⟩=>?_
 subst he
 refine ⟨_,rfl,_,_,_,[],_,[],hW',trodAll_mk1 (shut_bool Tryd.underlying4 true),
  trodAll_mk2 (Below.trod laidOut (by kernel_rfl) (of_decide_eq_true (by kernel_rfl)) h0 hb.1 hlt0) (Below.trod laidOut (by kernel_rfl) (of_decide_eq_true (by kernel_rfl)) h1 hb.1 hlt1),rfl,hb.frame _,fun h=>by cases h⟩
theorem nesterless_holds:Rows.NesterLessSaid :=
 OpenClaim.holds_of_wide 4 Tryd.f4 rfl rfl rfl rfl rfl rfl rfl ⟨rfl,rfl,rfl,rfl,rfl⟩ rfl rfl rfl rfl rfl (by kernel_rfl) Tryd.func4 (by kernel_rfl)
  (of_decide_eq_true (by kernel_rfl)) (by unfold Func.isWrapper;first | (rw [if_pos (by decide +kernel)];kernel_rfl) | (rw [if_neg (by decide +kernel)];exact ⟨rfl,rfl⟩))
  (fun os started H enc _=>nesterless_lifted os started H enc)
theorem nesterless_card:Rows.NesterLessCardSaid :=
 Claim7.holds_tied_plain_at .later [] [.data] true (true, "08b5a6438f9df635f06263183c3c94116b358525f28c538c6944f20e1a2ced26") false
  nesterless_holds (fun _ h=>by cases h) (by kernel_rfl) (fun _ h=>by cases h) nesterLess_row_tie rfl ⟨rfl,rfl⟩ (by kernel_rfl) rfl
  (fun f fn hf hfn=>by
   obtain rfl : f = 4 := Option.some.inj ((show Tryd.prog.funcNamed "shipyard/shipyardlaw24.NesterLess" = some 4 by kernel_rfl).symm.trans hf) |>.symm
   obtain rfl:fn=Tryd.f4:=(Option.some.inj (Tryd.func4.symm.trans hfn)).symm
   exact ⟨by kernel_rfl,fun j t ht=>by
    rw [Tryd.params4] at ht
    have hm:t∈[47,48]:=by simpa using Array.mem_of_getElem? ht
    have hall:([47,48].all fun u=>!Tryd.prog.wantsStandIn u)=true:=by kernel_rfl
    exact (show Tryd.prog.wantsStandIn t=false by simpa using List.all_eq_true.1 hall t hm)⟩)
  (by kernel_rfl)
#print axioms nesterless_card
end Go.Proofs.YtkknnlhhchielaaDoor
