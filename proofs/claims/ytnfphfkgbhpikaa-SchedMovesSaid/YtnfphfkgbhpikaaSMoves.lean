/-
 SchedMoves returns true for all arguments,and leaves them as they were. No condition.
-/
import Derived.Test.YtnfphfkgbhpikaaSBase
import Derived.Test.YtnfphfkgbhpikaaNwOrders
set_option linter.all false
namespace Go.Proofs.Ytnfphfkgbhpikaa
open Go.ChangeShapes Go.WideShapes Go.ChangeAt Go.RowKit Go.Eng
theorem schedmoves_den (s0c0:ByteArray) (fl0c1:Bool) (n0c1:Nat) (f0c1:Nat→Nat→CV) (fl0c2:Bool) (n0c2:Nat) (f0c2:Nat→Nat→CV) (fl0c3:Bool) (n0c3:Nat) (f0c3:Nat→Nat→CV) (fl0c4:Bool) (n0c4:Nat) (f0c4:Nat→Nat→CV) (fl0c5:Bool) (n0c5:Nat) (f0c5:Nat→Nat→CV) (h0c1:SlIn (.pr .str (.pr (.int .i64) (.pr .str .nil))) n0c1 f0c1) (h0c2:SlIn (.pr .str (.pr (.int .i64) (.pr (.int .i64) (.pr .str (.pr .str (.pr (.int .i64) (.pr (.sl (.pr (.int .i64) (.pr (.int .i64) .nil))) (.pr (.sl (.pr (.sl (.pr (.int .i64) (.pr (.int .i64) .nil))) .nil)) (.pr .str (.pr (.int .i64) (.pr (.int .i64) (.pr (.int .i64) (.pr (.int .i64) (.pr (.int .i64) (.pr (.int .i64) (.pr (.int .i64) (.pr (.int .i64) (.pr (.int .i64) .nil)))))))))))))))))) n0c2 f0c2) (h0c3:SlIn (.pr .str (.pr .str (.pr .str (.pr (.int .i64) (.pr (.int .i64) (.pr (.int .i64) .nil)))))) n0c3 f0c3) (h0c4:SlIn (.pr .str (.pr .str (.pr (.sl (.pr .str .nil)) (.pr (.int .i64) (.pr (.sl (.pr .str .nil)) .nil))))) n0c4 f0c4) (h0c5:SlIn (.pr (.int .i64) (.pr .str (.pr .str .nil))) n0c5 f0c5) (fl1c0:Bool) (n1c0:Nat) (f1c0:Nat→Nat→CV) (a1c1:Int) (fl1c2:Bool) (n1c2:Nat) (f1c2:Nat→Nat→CV) (h1c0:SlIn (.pr .str (.pr (.int .i64) (.pr (.sl (.pr .str .nil)) .nil))) n1c0 f1c0) (h1c1:I64 a1c1) (h1c2:SlIn (.pr .str (.pr .str (.pr (.int .i64) (.pr (.int .i64) .nil)))) n1c2 f1c2) (a2c0:Int) (h2c0:I64 a2c0) :
  Den Try.prog 7 [.agg [.s s0c0,.ro fl0c1 (.pr .str (.pr (.int .i64) (.pr .str .nil))) n0c1 f0c1,.ro fl0c2 (.pr .str (.pr (.int .i64) (.pr (.int .i64) (.pr .str (.pr .str (.pr (.int .i64) (.pr (.sl (.pr (.int .i64) (.pr (.int .i64) .nil))) (.pr (.sl (.pr (.sl (.pr (.int .i64) (.pr (.int .i64) .nil))) .nil)) (.pr .str (.pr (.int .i64) (.pr (.int .i64) (.pr (.int .i64) (.pr (.int .i64) (.pr (.int .i64) (.pr (.int .i64) (.pr (.int .i64) (.pr (.int .i64) (.pr (.int .i64) .nil)))))))))))))))))) n0c2 f0c2,.ro fl0c3 (.pr .str (.pr .str (.pr .str (.pr (.int .i64) (.pr (.int .i64) (.pr (.int .i64) .nil)))))) n0c3 f0c3,.ro fl0c4 (.pr .str (.pr .str (.pr (.sl (.pr .str .nil)) (.pr (.int .i64) (.pr (.sl (.pr .str .nil)) .nil))))) n0c4 f0c4,.ro fl0c5 (.pr (.int .i64) (.pr .str (.pr .str .nil))) n0c5 f0c5],.agg [.ro fl1c0 (.pr .str (.pr (.int .i64) (.pr (.sl (.pr .str .nil)) .nil))) n1c0 f1c0,.i .i64 a1c1,.ro fl1c2 (.pr .str (.pr .str (.pr (.int .i64) (.pr (.int .i64) .nil)))) n1c2 f1c2],.v (.i .i64 a2c0)] [.v (.b true)]:=by
 refine R13.w383 mix (fuel:=4000) ?_
 have h:(R13.O383 4000).o [.agg [.s s0c0,.ro fl0c1 (.pr .str (.pr (.int .i64) (.pr .str .nil))) n0c1 f0c1,.ro fl0c2 (.pr .str (.pr (.int .i64) (.pr (.int .i64) (.pr .str (.pr .str (.pr (.int .i64) (.pr (.sl (.pr (.int .i64) (.pr (.int .i64) .nil))) (.pr (.sl (.pr (.sl (.pr (.int .i64) (.pr (.int .i64) .nil))) .nil)) (.pr .str (.pr (.int .i64) (.pr (.int .i64) (.pr (.int .i64) (.pr (.int .i64) (.pr (.int .i64) (.pr (.int .i64) (.pr (.int .i64) (.pr (.int .i64) (.pr (.int .i64) .nil)))))))))))))))))) n0c2 f0c2,.ro fl0c3 (.pr .str (.pr .str (.pr .str (.pr (.int .i64) (.pr (.int .i64) (.pr (.int .i64) .nil)))))) n0c3 f0c3,.ro fl0c4 (.pr .str (.pr .str (.pr (.sl (.pr .str .nil)) (.pr (.int .i64) (.pr (.sl (.pr .str .nil)) .nil))))) n0c4 f0c4,.ro fl0c5 (.pr (.int .i64) (.pr .str (.pr .str .nil))) n0c5 f0c5],.agg [.ro fl1c0 (.pr .str (.pr (.int .i64) (.pr (.sl (.pr .str .nil)) .nil))) n1c0 f1c0,.i .i64 a1c1,.ro fl1c2 (.pr .str (.pr .str (.pr (.int .i64) (.pr (.int .i64) .nil)))) n1c2 f1c2],.v (.i .i64 a2c0)] some=(ob (R13.F383 4000 s0c0 n0c1 f0c1 n0c2 f0c2 n0c3 f0c3 n0c4 f0c4 n0c5 f0c5 n1c0 f1c0 a1c1 n1c2 f1c2 a2c0) fun t=>some [.v (.b t)]):=by kernel_rfl
 rw [h,R13.moves52 s0c0 n0c1 f0c1 n0c2 f0c2 n0c3 f0c3 n0c4 f0c4 n0c5 f0c5 h0c1 h0c2 h0c3 h0c4 h0c5 n1c0 f1c0 a1c1 n1c2 f1c2 h1c0 h1c1 h1c2 a2c0 h2c0]
 rfl
set_option maxRecDepth 100000 in
theorem schedmoves_lifted (os:Os) (started:os.Started) (H:Type) (enc:TypeId × Value→H) :
  ReturnsInHanded {} Try.checked os 7 .any (Rows.schedMovesSpec.pre6 enc Try.prog Try.f7 Rows.schedMovesRow.domain false) (Rows.schedMovesSpec.post enc Try.prog Try.f7 false true false false):=by
 refine returnsInHanded_of_change (C:=Try.checked) own started (by kernel_rfl) Try.func7
  (ChangeSpec.witness6 (enc:=enc) (C:=Try.checked) false ⟨#[],#[.agg #[.string ByteArray.empty,.slice none 0 0,.slice none 0 0,.slice none 0 0,.slice none 0 0,.slice none 0 0],.agg #[.slice none 0 0,.int .i64 0,.slice none 0 0],.int .i64 0],[]⟩ 8 (by kernel_rfl) (by kernel_rfl) (by kernel_rfl) (by kernel_rfl)) ?_
 intro W base args ds gs before hval0 hW hcnd _
 have hval:∀ (j:Nat) t v,Try.f7.params[j]?=some t→args[j]?=some v→Value.okWide Try.prog W .any base t v:=hval0
 have hW':=hW
 obtain ⟨p,q,hA0,hV,rfl,hfz,hnd⟩:=hW
 have hA:DataW.TrodAll enc Try.prog W 0 (fun _=>true) true Try.f7.params.toList args.toList ds p:=hA0
 rw [Try.params7] at hA hval
 obtain ⟨v0,v1,v2,d0,d1,d2,p0,p1,p2,rfl,rfl,rfl,h0,h1,h2⟩:=trodAll_three hA
 obtain ⟨rfl,rfl⟩:=trodVars_none hV
 obtain ⟨cs0,rfl,_⟩:=okWide_struct Try.underlying28 (hval 0 28 v0 rfl rfl)
 obtain ⟨cs1,rfl,_⟩:=okWide_struct Try.underlying32 (hval 1 32 v1 rfl rfl)
 obtain ⟨a2c0,rfl⟩:=okWide_int Try.underlying3 (hval 2 3 v2 rfl rfl)
 clear hA0 hval0
 obtain ⟨l0,hl0,hk0,hr0⟩:=open_argN (d:=12) row28 h0
 obtain ⟨s0c0,fl0c1,n0c1,f0c1,fl0c2,n0c2,f0c2,fl0c3,n0c3,f0c3,fl0c4,n0c4,f0c4,fl0c5,n0c5,f0c5,rfl,h0c1,h0c2,h0c3,h0c4,h0c5⟩:=open28 hl0 hk0
 obtain ⟨l1,hl1,hk1,hr1⟩:=open_argN (d:=12) row32 h1
 obtain ⟨fl1c0,n1c0,f1c0,a1c1,fl1c2,n1c2,f1c2,rfl,h1c0,h1c1,h1c2⟩:=open32 hl1 hk1
 obtain ⟨h2c0,hr2⟩:=int_open Try.underlying3 (ok:=fun g=>g<W.heap.size) (W:=W) h2
 have hlt0:∀ x∈p0,x.block<W.heap.size:=fun x hx=>by simpa using hW'.lt x (by simp [hx])
 have hlt1:∀ x∈p1,x.block<W.heap.size:=fun x hx=>by simpa using hW'.lt x (by simp [hx])
 have hlt2:∀ x∈p2,x.block<W.heap.size:=fun x hx=>by simpa using hW'.lt x (by simp [hx])
 refine (law_calls (schedmoves_den s0c0 fl0c1 n0c1 f0c1 fl0c2 n0c2 f0c2 fl0c3 n0c3 f0c3 fl0c4 n0c4 f0c4 fl0c5 n0c5 f0c5 h0c1 h0c2 h0c3 h0c4 h0c5 fl1c0 n1c0 f1c0 a1c1 fl1c2 n1c2 f1c2 h1c0 h1c1 h1c2 a2c0 h2c0) (fun g r h hh=>by cases hh) (ARs.cons hr0 (ARs.cons hr1 (ARs.cons hr2 ARs.nil)))).mono fun e W' ⟨he,hb⟩=>?_
 subst he
 refine ⟨_,rfl,_,_,_,[],_,[],hW',trodAll_mk1 (shut_bool Try.underlying4 true),
  trodAll_mk3 (Below.trod laidOut (by kernel_rfl) (of_decide_eq_true (by kernel_rfl)) h0 hb.1 hlt0) (Below.trod laidOut (by kernel_rfl) (of_decide_eq_true (by kernel_rfl)) h1 hb.1 hlt1) (Below.trod laidOut (by kernel_rfl) (of_decide_eq_true (by kernel_rfl)) h2 hb.1 hlt2),rfl,hb.frame _,fun h=>by cases h⟩
theorem schedmoves_holds:Rows.SchedMovesSaid :=
 OpenClaim.holds_of_wide 7 Try.f7 rfl rfl rfl rfl rfl rfl rfl ⟨rfl,rfl,rfl,rfl,rfl⟩ rfl rfl rfl rfl rfl (by kernel_rfl) Try.func7 (by kernel_rfl)
  (of_decide_eq_true (by kernel_rfl)) (by unfold Func.isWrapper;first | (rw [if_pos (by decide +kernel)];kernel_rfl) | (rw [if_neg (by decide +kernel)];exact ⟨rfl,rfl⟩))
  (fun os started H enc _=>schedmoves_lifted os started H enc)
#print axioms schedmoves_holds
end Go.Proofs.Ytnfphfkgbhpikaa
