/-
 Functions that turn the rows of a slice in place and return the first ones of them.
-/
import Derived.Test.YtkknnlhhchielaaGreatDoorEngV
set_option linter.all false
namespace Go.Eng
open Go Go.RowKit
variable {df : DF}
theorem oK {P:Program} {C:ao} (hmix:P.follows .mixedOrders=true) (hC:az P C) {f:FuncId} {F:AF} (hF:cd P f F) {tr:Nat} (hres:F.res = [.tmp tr]) {fuel:Nat} {r:Kd} {n:Nat} {g:Nat->Nat->CV} {args:List A}
  (hfl:r.flat=true) (htg:r.tagged=false) (h:aS C fuel F.body ⟨args.map A.toV ++ List.replicate (F.n-args.length) .undef,[]⟩ (Fy tr r)=some (n,g)):aZ P f r args n g:=by
 refine aZ.of hF.ok fun w okA vs hok hgl hargs=>?_
 obtain ⟨fn,c,hfn,hbody,hn,hres2,hfits⟩:=hF.fn
 refine calls_of_wp hfn hbody ?_
 rw [hres] at hres2
 have hm:MR ⟨w,fun _=>False⟩ okA (fun _=>none) okA ([]:List Blk) w:=⟨⟨rfl,rfl,rfl,rkZ _,fun _ _ _=>rfl,fun _ h=>h.elim,rkZ _⟩,fun g hg=>⟨hok g hg,.inl hg⟩,fun g hg=>hg,(fun b g hg=>by cases hg),(fun b b' g hg=>by cases hg),(fun b o hb=>by simp at hb),(fun b g r n f hb=>by simp at hb)⟩
 have he:ER ([],[]) (fun _=>none) okA ([]:List Blk) w (args.map A.toV ++ List.replicate (F.n-args.length) .undef) { tmps:=vs ++ Array.replicate (fn.ntmps-vs.size) undef,defers:=[] }:=by
  refine ⟨by simp [hargs.1,hn],fun t v ht=>?_,⟨rfl,fun _ h=>by cases h⟩,hgl⟩
  by_cases hlt:t<args.length
  ·rw [qnZ (by simpa using hlt),qhZ] at ht
   cases hq:args[t]? with
   | none=>rw [hq] at ht;cases ht
   | some x =>
    rw [hq] at ht;cases ht
    obtain ⟨u,hu,hr⟩:=hargs.2 t x hq
    refine ⟨u,?_,hr.toV_sound⟩
    rw [qlZ (by rw [hargs.1];exact hlt)];exact hu
  ·rw [qsZ (by simp;omega),List.getElem?_replicate] at ht
   split at ht
   ·rename_i hl
    cases ht
    refine ⟨undef,?_,rfl⟩
    rw [qtZ (by rw [hargs.1];omega),Array.getElem?_replicate]
    simp only [rcZ] at hl
    rw [if_pos (by rw [hargs.1,hn];exact hl)]
   ·cases ht
 refine e9 (st:=⟨_,[]⟩) (r:=(n,g)) (k:=Fy tr r) hmix hC fuel F.body c hfits hm he (fun e μ ok st a w' hm he hk=>?_) h
 obtain ⟨hne,v,h1,h2,h3⟩:=Fx hm he hres2 hfl htg hk
 cases e with
 | exit id=>exact absurd rfl (hne id)
 | normal=>exact ⟨he.defers.1,v,h1,v,rfl,h2,h3⟩
 | ret=>exact ⟨he.defers.1,v,h1,v,rfl,h2,h3⟩
theorem aZ.weaken {P:Program} {f:FuncId} {r:Kd} {args args' : List A} {n:Nat} {g:Nat->Nat->CV} (h:WkL args args') (hd:aZ P f r args' n g):aZ P f r args n g :=
 ⟨hd.1,fun w okA vs h1 h2 h3=>hd.2 w okA vs h1 h2 (h.ars h3)⟩
end Go.Eng
