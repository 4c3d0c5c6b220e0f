/-
 NesterChecked returns true for all arguments,and leaves them as they were. No condition.
-/
import Derived.Test.YtkknnlhhchielaaGreatDoorSBaseRz
import Derived.Test.YtkknnlhhchielaaGreatDoorNpSums
import Derived.Test.YtkknnlhhchielaaGreatDoorCards
import Derived.Test.YtkknnlhhchielaaGreatDoorTie
import Derived.SevenTiedAt
set_option linter.all false
namespace Go.Proofs.YtkknnlhhchielaaGreatDoor
open Go.ChangeShapes Go.WideShapes Go.ChangeAt Go.RowKit Go.Eng
theorem tN (l0:List CV) (hl0:l0.length=Bh.len) (hk0:∀ (j:Nat) (c:CV),l0[j]?=some c->(Bh.nth j).okP c/\c.wf) (fl1c0:Bool) (n1c0:Nat) (f1c0:Nat->Nat->CV) (h1c0:FM (.pr .str (.pr (.int .i64) (.pr (.int .i64) (.pr (.int .i64) (.pr .bool .nil))))) n1c0 f1c0) :
  Den Tryz.prog 6 [.agg l0,.v (.ro fl1c0 (.pr .str (.pr (.int .i64) (.pr (.int .i64) (.pr (.int .i64) (.pr .bool .nil))))) n1c0 f1c0)] [.v (.b true)]:=by
 refine R13.w416 mix (fuel:=100) ?_
 have h:(R13.O416 100).o [.agg l0,.v (.ro fl1c0 (.pr .str (.pr (.int .i64) (.pr (.int .i64) (.pr (.int .i64) (.pr .bool .nil))))) n1c0 f1c0)] some=bif Am Bh l0 then (ob (R13.F416 100 (aw l0) n1c0 f1c0) fun t=>some [.v (.b t)]) else none:=by kernel_rfl
 rw [h,Fq QY hl0 hk0,cond_true,R13.checked24 (aw l0) (LP hl0 hk0) n1c0 f1c0 h1c0]
 rfl
set_option maxRecDepth 100000 in
theorem oO (os:Os) (started:os.Started) (H:Type) (enc:TypeId × Value->H) :
  ReturnsInHanded {} Tryz.checked os 6 .any (fun w args=>(Rows.nesterCheckedSpec.pre enc Tryz.prog Tryz.f6 [] false w args/\laidMetH Tryz.prog Fh w)/\sizedMet enc Tryz.prog Tryz.f6 (OpenSpec.ofChange Rows.nesterCheckedSpec) false w args)
   (Rows.nesterCheckedSpec.post enc Tryz.prog Tryz.f6 false true false false):=by
 refine returnsInHanded_of_change_and (C:=Tryz.checked) (X:=fun w _=>laidMetH Tryz.prog Fh w) (fun _ _ _ hh h=>h.of_heap hh) own started (by kernel_rfl) Tryz.func6
  (ChangeSpec.witness_shaped (enc:=enc) (C:=Tryz.checked) (os:=os) (X:=fun w _=>laidMetH Tryz.prog Fh w) false (World.doorLaid Tryz.prog 400 os) #[.agg #[.string ByteArray.empty,.string ByteArray.empty,.int .i64 0,.int .i64 0,.int .i64 0,.string ByteArray.empty,.slice none 0 0,.int .i64 0],.slice none 0 0] 8 rfl (World.shaped_of_RefB (by kernel_rfl) (by kernel_rfl)) (by kernel_rfl) (by kernel_rfl) (by kernel_rfl) (Oy os _)) ?_
 intro W base args ds gs before hval0 hW _ _ hL _
 have hval:∀ (j:Nat) t v,Tryz.f6.params[j]?=some t->args[j]?=some v->Value.okWide Tryz.prog W .any base t v:=hval0
 have hW':=hW
 obtain ⟨p,q,hA0,hV,rfl,hfz,hnd⟩:=hW
 have hA:DataW.TrodAll enc Tryz.prog W 0 (fun _=>true) true Tryz.f6.params.toList args.toList ds p:=hA0
 rw [Tryz.params6] at hA hval
 obtain ⟨v0,v1,d0,d1,p0,p1,rfl,rfl,rfl,h0,h1⟩:=trodAll_two hA
 obtain ⟨rfl,rfl⟩:=trodVars_none hV
 obtain ⟨cs0,rfl,_⟩:=okWide_struct Tryz.underlying34 (hval 0 34 v0 rfl rfl)
 obtain ⟨al1,len1,cap1,rfl⟩:=okWide_slice Tryz.underlying28 (hval 1 28 v1 rfl rfl)
 clear hA0 hval0
 obtain ⟨l0,hl0,hk0,hr0⟩:=Jz (d:=12) XZ h0
 obtain ⟨c1,hk1,hw1,hr1⟩:=JA (d:=12) X0 rfl h1
 obtain ⟨fl1c0,n1c0,f1c0,rfl⟩:=(show ∃ fl n f,c1=.ro fl (.pr .str (.pr (.int .i64) (.pr (.int .i64) (.pr (.int .i64) (.pr .bool .nil))))) n f from hk1)
 have h1c0:FM (.pr .str (.pr (.int .i64) (.pr (.int .i64) (.pr (.int .i64) (.pr .bool .nil))))) n1c0 f1c0:=hw1
 have hlt0:∀ x∈p0,x.block<W.heap.size:=fun x hx=>by simpa using hW'.lt x (by simp [hx])
 have hlt1:∀ x∈p1,x.block<W.heap.size:=fun x hx=>by simpa using hW'.lt x (by simp [hx])
 refine (JT (tN l0 hl0 hk0 fl1c0 n1c0 f1c0 h1c0) (QO hL) (ARs.cons hr0 (ARs.cons hr1 ARs.nil))).mono fun e W' ⟨he,hb⟩=>?_
 subst he
 refine ⟨_,rfl,_,_,_,[],_,[],hW',trodAll_mk1 (shut_bool Tryz.underlying4 true),
  trodAll_mk2 (Below.trod IB (by kernel_rfl) (of_decide_eq_true (by kernel_rfl)) h0 hb.1 hlt0) (Below.trod IB (by kernel_rfl) (of_decide_eq_true (by kernel_rfl)) h1 hb.1 hlt1),rfl,hb.frame _,fun h=>by cases h⟩
theorem nesterchecked_holds:Rows.NesterCheckedSaid :=
 OpenClaim.holds_of_wide 6 Tryz.f6 rfl rfl rfl rfl rfl rfl rfl ⟨rfl,rfl,rfl,rfl,rfl⟩ rfl rfl rfl rfl rfl (by kernel_rfl) Tryz.func6 (by kernel_rfl)
  (of_decide_eq_true (by kernel_rfl)) (by unfold Func.isWrapper;first | (rw [if_pos (by decide +kernel)];kernel_rfl) | (rw [if_neg (by decide +kernel)];exact ⟨rfl,rfl⟩))
  (fun os started H enc _=>oO os started H enc)
theorem nesterchecked_card:Rows.NesterCheckedCardSaid :=
 Claim7.holds_tied_plain_at .later [] [.data] true (true, "29e35ca4310462b319e3e5b097c8cf21937d965d4e6cb07be46d5b895a32ccd7") false
  nesterchecked_holds (fun _ h=>by cases h) (by kernel_rfl) (fun _ h=>by cases h) nesterChecked_row_tie rfl ⟨rfl,rfl⟩ (by kernel_rfl) rfl
  (fun f fn hf hfn=>by
   obtain rfl : f = 6 := rjZ ((show Tryz.prog.funcNamed "shipyard/shipyardlaw24.NesterChecked" = some 6 by kernel_rfl).symm.trans hf) |>.symm
   obtain rfl:fn=Tryz.f6:=(rjZ (Tryz.func6.symm.trans hfn)).symm
   exact ⟨by kernel_rfl,fun j t ht=>by
    rw [Tryz.params6] at ht
    have hm:t∈[34,28]:=by simpa using Array.mem_of_getElem? ht
    have hall:([34,28].all fun u=>!Tryz.prog.wantsStandIn u)=true:=by kernel_rfl
    exact (show Tryz.prog.wantsStandIn t=false by simpa using qiZ.1 hall t hm)⟩)
  (by kernel_rfl)
#print axioms nesterchecked_card
end Go.Proofs.YtkknnlhhchielaaGreatDoor
