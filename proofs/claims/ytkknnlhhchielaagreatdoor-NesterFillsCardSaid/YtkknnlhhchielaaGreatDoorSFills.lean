/-
 NesterFills returns true for all arguments,and leaves them as they were. No condition.
-/
import Derived.Test.YtkknnlhhchielaaGreatDoorSBaseRz
import Derived.Test.YtkknnlhhchielaaGreatDoorNpSums
import Derived.Test.YtkknnlhhchielaaGreatDoorCards
import Derived.Test.YtkknnlhhchielaaGreatDoorTie
import Derived.SevenTiedAt
set_option linter.all false
namespace Go.Proofs.YtkknnlhhchielaaGreatDoor
open Go.ChangeShapes Go.WideShapes Go.ChangeAt Go.RowKit Go.Eng
theorem nesterfills_den (s0c0:ByteArray) (s0c1:ByteArray) (a0c2:Int) (a0c3:Int) (a0c4:Int) (s0c5:ByteArray) (h0c2:I64 a0c2) (h0c3:I64 a0c3) (h0c4:I64 a0c4) (fl1c0:Bool) (n1c0:Nat) (f1c0:Nat→Nat→CV) (h1c0:SlIn (.pr .str (.pr (.int .i64) (.pr (.int .i64) (.pr .str (.pr .str (.pr (.int .i64) (.pr (.sl (.pr (.int .i64) (.pr (.int .i64) .nil))) (.pr (.sl (.pr (.sl (.pr (.int .i64) (.pr (.int .i64) .nil))) .nil)) (.pr .str (.pr (.int .i64) (.pr (.int .i64) (.pr (.int .i64) (.pr (.int .i64) (.pr (.int .i64) (.pr (.int .i64) (.pr (.int .i64) (.pr (.int .i64) (.pr (.int .i64) .nil)))))))))))))))))) n1c0 f1c0) (a2c0:Int) (h2c0:I64 a2c0) :
  Den Tryz.prog 3 [.agg [.s s0c0,.s s0c1,.i .i64 a0c2,.i .i64 a0c3,.i .i64 a0c4,.s s0c5],.v (.ro fl1c0 (.pr .str (.pr (.int .i64) (.pr (.int .i64) (.pr .str (.pr .str (.pr (.int .i64) (.pr (.sl (.pr (.int .i64) (.pr (.int .i64) .nil))) (.pr (.sl (.pr (.sl (.pr (.int .i64) (.pr (.int .i64) .nil))) .nil)) (.pr .str (.pr (.int .i64) (.pr (.int .i64) (.pr (.int .i64) (.pr (.int .i64) (.pr (.int .i64) (.pr (.int .i64) (.pr (.int .i64) (.pr (.int .i64) (.pr (.int .i64) .nil)))))))))))))))))) n1c0 f1c0),.v (.i .i64 a2c0)] [.v (.b true)]:=by
 refine R13.w413 mix (fuel:=100) ?_
 have h:(R13.O413 100).o [.agg [.s s0c0,.s s0c1,.i .i64 a0c2,.i .i64 a0c3,.i .i64 a0c4,.s s0c5],.v (.ro fl1c0 (.pr .str (.pr (.int .i64) (.pr (.int .i64) (.pr .str (.pr .str (.pr (.int .i64) (.pr (.sl (.pr (.int .i64) (.pr (.int .i64) .nil))) (.pr (.sl (.pr (.sl (.pr (.int .i64) (.pr (.int .i64) .nil))) .nil)) (.pr .str (.pr (.int .i64) (.pr (.int .i64) (.pr (.int .i64) (.pr (.int .i64) (.pr (.int .i64) (.pr (.int .i64) (.pr (.int .i64) (.pr (.int .i64) (.pr (.int .i64) .nil)))))))))))))))))) n1c0 f1c0),.v (.i .i64 a2c0)] some=(ob (R13.F413 100 s0c0 s0c1 a0c2 a0c3 a0c4 s0c5 n1c0 f1c0 a2c0) fun t=>some [.v (.b t)]):=by kernel_rfl
 rw [h,R13.fills24 s0c0 s0c1 a0c2 a0c3 a0c4 s0c5 h0c2 h0c3 h0c4 n1c0 f1c0 h1c0 a2c0 h2c0]
 rfl
set_option maxRecDepth 100000 in
theorem nesterfills_lifted (os:Os) (started:os.Started) (H:Type) (enc:TypeId × Value→H) :
  ReturnsInHanded {} Tryz.checked os 3 .any (fun w args=>(Rows.nesterFillsSpec.pre enc Tryz.prog Tryz.f3 [] false w args∧laidMetH Tryz.prog laidL w)∧sizedMet enc Tryz.prog Tryz.f3 (OpenSpec.ofChange Rows.nesterFillsSpec) false w args)
   (Rows.nesterFillsSpec.post enc Tryz.prog Tryz.f3 false true false false):=by
 refine returnsInHanded_of_change_and (C:=Tryz.checked) (X:=fun w _=>laidMetH Tryz.prog laidL w) (fun _ _ _ hh h=>h.of_heap hh) own started (by kernel_rfl) Tryz.func3
  (ChangeSpec.witness_shaped (enc:=enc) (C:=Tryz.checked) (os:=os) (X:=fun w _=>laidMetH Tryz.prog laidL w) false (World.doorLaid Tryz.prog 400 os) #[.agg #[.string ByteArray.empty,.string ByteArray.empty,.int .i64 0,.int .i64 0,.int .i64 0,.string ByteArray.empty],.slice none 0 0,.int .i64 0] 8 rfl (World.shaped_of_RefB (by kernel_rfl) (by kernel_rfl)) (by kernel_rfl) (by kernel_rfl) (by kernel_rfl) (door_met os _)) ?_
 intro W base args ds gs before hval0 hW _ _ hL _
 have hval:∀ (j:Nat) t v,Tryz.f3.params[j]?=some t→args[j]?=some v→Value.okWide Tryz.prog W .any base t v:=hval0
 have hW':=hW
 obtain ⟨p,q,hA0,hV,rfl,hfz,hnd⟩:=hW
 have hA:DataW.TrodAll enc Tryz.prog W 0 (fun _=>true) true Tryz.f3.params.toList args.toList ds p:=hA0
 rw [Tryz.params3] at hA hval
 obtain ⟨v0,v1,v2,d0,d1,d2,p0,p1,p2,rfl,rfl,rfl,h0,h1,h2⟩:=trodAll_three hA
 obtain ⟨rfl,rfl⟩:=trodVars_none hV
 obtain ⟨cs0,rfl,_⟩:=okWide_struct Tryz.underlying23 (hval 0 23 v0 rfl rfl)
 obtain ⟨al1,len1,cap1,rfl⟩:=okWide_slice Tryz.underlying24 (hval 1 24 v1 rfl rfl)
 obtain ⟨a2c0,rfl⟩:=okWide_int Tryz.underlying3 (hval 2 3 v2 rfl rfl)
 clear hA0 hval0
 obtain ⟨l0,hl0,hk0,hr0⟩:=open_argN (d:=12) row23 h0
 obtain ⟨s0c0,s0c1,a0c2,a0c3,a0c4,s0c5,rfl,h0c2,h0c3,h0c4⟩:=open23 hl0 hk0
 obtain ⟨c1,hk1,hw1,hr1⟩:=open_arg1 (d:=12) row24 rfl h1
 obtain ⟨fl1c0,n1c0,f1c0,rfl⟩:=(show ∃ fl n f,c1=.ro fl (.pr .str (.pr (.int .i64) (.pr (.int .i64) (.pr .str (.pr .str (.pr (.int .i64) (.pr (.sl (.pr (.int .i64) (.pr (.int .i64) .nil))) (.pr (.sl (.pr (.sl (.pr (.int .i64) (.pr (.int .i64) .nil))) .nil)) (.pr .str (.pr (.int .i64) (.pr (.int .i64) (.pr (.int .i64) (.pr (.int .i64) (.pr (.int .i64) (.pr (.int .i64) (.pr (.int .i64) (.pr (.int .i64) (.pr (.int .i64) .nil)))))))))))))))))) n f from hk1)
 have h1c0:SlIn (.pr .str (.pr (.int .i64) (.pr (.int .i64) (.pr .str (.pr .str (.pr (.int .i64) (.pr (.sl (.pr (.int .i64) (.pr (.int .i64) .nil))) (.pr (.sl (.pr (.sl (.pr (.int .i64) (.pr (.int .i64) .nil))) .nil)) (.pr .str (.pr (.int .i64) (.pr (.int .i64) (.pr (.int .i64) (.pr (.int .i64) (.pr (.int .i64) (.pr (.int .i64) (.pr (.int .i64) (.pr (.int .i64) (.pr (.int .i64) .nil)))))))))))))))))) n1c0 f1c0:=hw1
 obtain ⟨h2c0,hr2⟩:=int_open Tryz.underlying3 (ok:=fun g=>g<W.heap.size) (W:=W) h2
 have hlt0:∀ x∈p0,x.block<W.heap.size:=fun x hx=>by simpa using hW'.lt x (by simp [hx])
 have hlt1:∀ x∈p1,x.block<W.heap.size:=fun x hx=>by simpa using hW'.lt x (by simp [hx])
 have hlt2:∀ x∈p2,x.block<W.heap.size:=fun x hx=>by simpa using hW'.lt x (by simp [hx])
 refine (law_calls (nesterfills_den s0c0 s0c1 a0c2 a0c3 a0c4 s0c5 h0c2 h0c3 h0c4 fl1c0 n1c0 f1c0 h1c0 a2c0 h2c0) (glob_of hL) (ARs.cons hr0 (ARs.cons hr1 (ARs.cons hr2 ARs.nil)))).mono fun e W' ⟨he,hb⟩=>?_
 subst he
 refine ⟨_,rfl,_,_,_,[],_,[],hW',trodAll_mk1 (shut_bool Tryz.underlying4 true),
  trodAll_mk3 (Below.trod laidOut (by kernel_rfl) (of_decide_eq_true (by kernel_rfl)) h0 hb.1 hlt0) (Below.trod laidOut (by kernel_rfl) (of_decide_eq_true (by kernel_rfl)) h1 hb.1 hlt1) (Below.trod laidOut (by kernel_rfl) (of_decide_eq_true (by kernel_rfl)) h2 hb.1 hlt2),rfl,hb.frame _,fun h=>by cases h⟩
theorem nesterfills_holds:Rows.NesterFillsSaid :=
 OpenClaim.holds_of_wide 3 Tryz.f3 rfl rfl rfl rfl rfl rfl rfl ⟨rfl,rfl,rfl,rfl,rfl⟩ rfl rfl rfl rfl rfl (by kernel_rfl) Tryz.func3 (by kernel_rfl)
  (of_decide_eq_true (by kernel_rfl)) (by unfold Func.isWrapper;first | (rw [if_pos (by decide +kernel)];kernel_rfl) | (rw [if_neg (by decide +kernel)];exact ⟨rfl,rfl⟩))
  (fun os started H enc _=>nesterfills_lifted os started H enc)
theorem nesterfills_card:Rows.NesterFillsCardSaid :=
 Claim7.holds_tied_plain_at .later [] [.data] true (true, "29e35ca4310462b319e3e5b097c8cf21937d965d4e6cb07be46d5b895a32ccd7") false
  nesterfills_holds (fun _ h=>by cases h) (by kernel_rfl) (fun _ h=>by cases h) nesterFills_row_tie rfl ⟨rfl,rfl⟩ (by kernel_rfl) rfl
  (fun f fn hf hfn=>by
   obtain rfl : f = 3 := Option.some.inj ((show Tryz.prog.funcNamed "shipyard/shipyardlaw24.NesterFills" = some 3 by kernel_rfl).symm.trans hf) |>.symm
   obtain rfl:fn=Tryz.f3:=(Option.some.inj (Tryz.func3.symm.trans hfn)).symm
   exact ⟨by kernel_rfl,fun j t ht=>by
    rw [Tryz.params3] at ht
    have hm:t∈[23,24,3]:=by simpa using Array.mem_of_getElem? ht
    have hall:([23,24,3].all fun u=>!Tryz.prog.wantsStandIn u)=true:=by kernel_rfl
    exact (show Tryz.prog.wantsStandIn t=false by simpa using List.all_eq_true.1 hall t hm)⟩)
  (by kernel_rfl)
#print axioms nesterfills_card
end Go.Proofs.YtkknnlhhchielaaGreatDoor
