/-
 slices.Sort at numbers.
-/
import Derived.Test.YtkknnlhhchielaaGreatDoorEngV
import Derived.Test.YtkknnlhhchielaaGreatDoorEngX0
import Derived.Shelf.Sort.Plain
import Derived.OpenShut
set_option linter.all false
namespace Go.Eng
open Go Go.RowKit Go.Proofs Go.Shelf
theorem JS {P:Program} {ρ:Ren} (L:Lays.n189 P ρ) {f:FuncId} (hf:ρ.f 189=f) (hok:dq P f=true) (n:Nat) (g:FF) (hn:0<n) (hs:n<=1073741824):sZ P f (.pr (.int .i64) .nil) n g [] (dF n g):=by
 subst hf
 refine ⟨hok,fun h0=>absurd h0 (by omega),fun _ w okA gb cap cur e vs hoks hgl hgb hv hw h1 h2 h3 h4=>?_⟩
 have hvs:vs=#[]:=by
  have:vs.size=0:=hv.1
  exact Array.eq_empty_of_size_eq_zero this
 subst hvs
 have hlt0:gb<w.heap.size:=(qqZ.1 hw).1
 have h3:cur.size=cap*1:=h3
 have hcur:∀ i,i<n->cur[i]?=some (.int .i64 ((jh n g).getD i 0))/\g i 0=.i .i64 ((jh n g).getD i 0):=by
  intro i hi
  obtain ⟨hk,u,hu,hr⟩:=h4 i 0 hi (by simp [Kd.len])
  obtain ⟨k,hk⟩:∃ k,g i 0=.i .i64 k:=hk
  have e:(jh n g).getD i 0=k:=by
   unfold jh
   rw [qdZ,qhZ,raZ hi]
   simp [hk,CV.int]
  rw [hk] at hr
  have hr:u=.int .i64 k:=hr
  rw [e,<- hr,<- hu,<- hk]
  exact ⟨by simp [Kd.len],rfl⟩
 have hlen:(jh n g).length=n:=by simp [jh]
 have hH:Go.Sort.Holds (Value.int .i64) w gb 0 (jh n g).toArray:=by
  intro t ht
  have ht:t<n:=by simpa [hlen] using ht
  have hcell:w.cell? ⟨gb,0+t,none⟩=cur[t]?:=by
   unfold World.cell?;simp only [hw,rlZ];rfl
  refine ⟨?_,?_⟩
  ·rw [hcell,(hcur t ht).1]
   congr 2
   rw [getElem!_pos _ _ (by simpa [hlen] using ht)]
   rw [qdZ,qgZ (by rw [hlen];exact ht)]
   simp
  ·unfold World.frozen?;simp only [hw];simp
 have hfin:=Any.slices_Sort_int L gb 0 cap (jh n g) w hH hlt0 (by rw [hlen];omega)
 rw [hlen] at hfin
 refine hfin.mono fun e' w' hh=>?_
 obtain ⟨he,n',os,rfl⟩:=hh
 obtain ⟨S,hS⟩:∃ S,S=jI (jh n g):=⟨_,rfl⟩
 have hSl:S.length=n:=by rw [hS,(dI _).length_eq,hlen]
 refine ⟨_,Go.Sort.grow (Go.Sort.ahead w n') os,Go.Sort.putCells (Value.int .i64) 0 S.toArray cur,he,⟨⟨rfl,rfl,rfl,?_,fun k hk=>?_⟩,Nat.le_add_right _ _⟩,?_,rfl,⟨rfl,rkZ _⟩,rfl,by simp [Go.Sort.putCells],fun i j hi hj=>?_⟩
 ·show _<=(w.heap ++ os).size
  simp
 ·show (w.heap ++ os)[k]?=_
  exact qlZ hk
 ·apply Array.ext_getElem?
  intro k
  show ((w.heap.modify gb (Go.Sort.onCells (Go.Sort.putCells (Value.int .i64) 0 ((jh n g).mergeSort fun x y=>decide (x<=y)).toArray))) ++ os)[k]?=_
  by_cases hk:k=gb
  ·subst hk
   rw [setRow_heap _ k cur _ e (0,0) (show (w.heap ++ os)[k]?=_ by rw [qlZ hlt0];exact hw)]
   rw [qlZ (by simpa using hlt0),Array.getElem?_modify,if_pos rfl,hw,hS,<- Et]
   rfl
  ·rw [setRow_other _ gb k _ hk]
   show _=(w.heap ++ os)[k]?
   rw [Array.getElem?_append,Array.getElem?_append,Array.size_modify]
   split
   ·rw [Array.getElem?_modify,if_neg (fun h=>hk h.symm)]
   ·rfl
 ·have hj:j=0:=by simp [Kd.len] at hj;omega
  subst hj
  have hcs:i<cur.size:=by omega
  have hu:(Go.Sort.putCells (Value.int .i64) 0 S.toArray cur)[i*1+0]?=some (.int .i64 (S.getD i 0)):=by
   unfold Go.Sort.putCells
   rw [Nat.mul_one,Nat.add_zero,Array.getElem?_mapIdx,Array.getElem?_eq_getElem hcs]
   simp only [Option.map_some,Nat.zero_le,true_and,rlZ,Nat.sub_zero]
   rw [if_pos (by simpa [hSl] using hi)]
   rw [qdZ,qgZ (by rw [hSl];exact hi)]
   rw [getElem!_pos _ _ (by simpa [hSl] using hi)]
   simp
  have hG:dF n g i 0=vi (S.getD i 0):=by unfold dF;rw [hS]
  rw [hG]
  exact ⟨⟨_,rfl⟩,_,hu,rfl⟩
theorem F8 {P:Program} {ρ:Ren} (L:Lays.n189 P ρ) {f:FuncId} (hf:ρ.f 189=f) (hok:dq P f=true) {r:Kd} {n:Nat} {g:FF} {rest:List A} {g' : FF} (h:(bif r.beq (.pr (.int .i64) .nil)&&rest.isEmpty then Dp n g else none)=some g'):sZ P f r n g rest g':=by
 obtain ⟨h1,h2⟩:=ah h
 rw [qaZ] at h1
 have e1:=Kd.eq_of_beq h1.1
 have e2:rest = []:=by simpa using h1.2
 subst e1 e2
 unfold Dp at h2
 obtain ⟨h3,h4⟩:=ah h2
 rw [qaZ] at h3
 cases h4
 exact JS L hf hok n g (by have:=h3.1;rwa [Nat.blt_eq] at this) (qpZ h3.2)
theorem G1 {P : Program} {f : FuncId} {fn : Func} {c : Code} (hfn : P.funcs[f]? = some fn) (hname : (fn.name != "runtime.NumGoroutine") = true) (hbody : fn.body = some c) : dq P f = true := by
 unfold dq
 rw [hfn]
 simp only [hbody,hname,Option.isSome_some,Bool.and_self]
open Go.ChangeShapes Go.WideShapes in
theorem F5 {H:Type} {enc:TypeId × Value->H} {P:Program} {W:World} {sp:Nat->Bool} {held:Bool} {fuel:Nat} {t e:TypeId} {n:Nat} {cs:List Value} {d:DataW H} {p:List MemPlace} {zs:List Int}
  (hu:P.underlying t=some (.array n e)) (hc:P.cellsOf t=n) (he:P.cellsOf e=1) (hi:P.underlying e=some (.int .i64))
  (h:DataW.trod enc P W 0 sp held fuel t cs=some (d,p)) (hd:d=.agg (zs.map fun z=>.lit (.int .i64 z))):cs=zs.map (.int .i64):=by
 obtain ⟨xs,m,_,hx,hlen,hxl,hf⟩:=DataW.trod_array hu h
 have hx1:d=.agg (xs.map (·.1)):=congrArg Prod.fst hx
 rw [hd] at hx1
 have hx2:(zs.map fun z=>DataW.lit (H:=H) (.int .i64 z))=xs.map (·.1):=by injection hx1
 have hzl:zs.length=xs.length:=by have:=congrArg List.length hx2;simpa using this
 apply List.ext_getElem?
 intro i
 by_cases hin:i<n
 ·have h4:=hf i hin
  rw [he,Nat.mul_one] at h4
  have hil:i<xs.length:=by omega
  rw [qgZ hil] at h4
  obtain ⟨k,h5,h6,_⟩:=DataW.trod_int hi h4
  have h7:(zs.map fun z=>DataW.lit (H:=H) (.int .i64 z))[i]?=(xs.map (·.1))[i]?:=by rw [hx2]
  rw [qhZ,qhZ,qgZ hil,qgZ (by omega)] at h7
  simp only [Option.map_some,rbZ] at h7
  rw [h6] at h7
  have h8:zs[i]=k:=by
   injection h7 with h7
   injection h7
  have h9:cs[i]?=some (.int .i64 k):=by
   have:((cs.drop i).take 1)[0]?=some (.int .i64 k):=by rw [h5];rfl
   rw [rnZ (by omega),List.getElem?_drop] at this
   simpa using this
  rw [h9,qhZ,qgZ (by omega),h8]
  rfl
 ·rw [rmZ (by omega),rmZ (by simp;omega)]
end Go.Eng
