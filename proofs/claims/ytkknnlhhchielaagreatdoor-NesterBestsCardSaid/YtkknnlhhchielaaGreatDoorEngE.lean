/-
 Operations,one by one: what the machine does is what the abstract evaluator says. Part 1: rows of cells,values,equalities.
-/
import Derived.Test.YtkknnlhhchielaaGreatDoorEngD
import Derived.WalkLawsBesides
set_option linter.all false
namespace Go.Eng
open Go Go.RowKit
theorem ah {α:Type} {c:Bool} {x:Option α} {r:α} (h:(bif c then x else none)=some r):c=true/\x=some r:=by
 cases c<;>simp_all
section
variable {μ : Nat -> Option Nat} {ok : Nat -> Prop} {w : World} {H : List Blk}
def CsR (μ:Nat->Option Nat) (ok:Nat->Prop) (w:World) (H:List Blk) (l:List V0) (cs:List Value):Prop :=
 cs.length=l.length/\∀ (t:Nat) (c:V0),l[t]?=some c->∃ u,cs[t]?=some u/\V0R μ ok w H c u
theorem CsR.one {l:List V0} {cs:List Value} (h:CsR μ ok w H l cs):∀ v∈cs,v.oneCell' = true:=by
 intro v hv
 obtain ⟨t,ht⟩:=List.mem_iff_getElem?.1 hv
 have hlt:t<l.length:=by rw [<- h.1];exact (qfZ.1 ht).1
 obtain ⟨u,hu,hr⟩:=h.2 t l[t] (by simp [hlt])
 rw [ht] at hu;cases hu
 exact hr.one
theorem KA {v:Value} (h:v.oneCell' = true):v.cells=#[v]:=by
 cases v<;>first | rfl | simp [Value.oneCell'] at h
theorem l6 {y:V} {l:List V0} {v:Value} (h:cellsOf y=some l) (hv:VR μ ok w H y v):CsR μ ok w H l v.cells.toList:=by
 cases y with
 | u=>cases h
 | undef=>cases h
 | tup l=>cases h
 | x y =>
  cases h
  rw [KA (V0R.one hv)]
  refine ⟨rfl,fun t c ht=>?_⟩
  cases t with
  | zero=>simp at ht;subst ht;exact ⟨v,rfl,hv⟩
  | succ t=>simp at ht
 | agg l' =>
  cases h
  obtain ⟨cs,rfl,hs,hc⟩:=hv
  exact ⟨by simpa [Value.cells] using hs,fun t c ht=>by simpa [Value.cells] using hc t c ht⟩
theorem eS {α:Type} (row l:List α) (off k:Nat) (h:off+l.length<=row.length) :
  (splice row off l)[k]?=if off<=k/\k<off+l.length then l[k-off]? else row[k]?:=by
 have ht:(row.take off).length=off:=by simp;omega
 unfold splice
 by_cases h1:k<off
 ·rw [if_neg (by omega),List.append_assoc,qnZ (by omega),rnZ h1]
 ·rw [List.append_assoc,qsZ (by omega),ht]
  by_cases h2:k<off+l.length
  ·rw [if_pos (by omega),qnZ (by omega)]
  ·rw [if_neg (by omega),qsZ (by omega),List.getElem?_drop]
   congr 1;omega
theorem dB {α:Type} (row l:List α) (off:Nat) (h:off+l.length<=row.length):(splice row off l).length=row.length:=by
 simp [splice];omega
theorem CsR.splice {l:List V0} {cs:List Value} (h:CsR μ ok w H l cs) {off:Nat} {l' : List V0} {cs' : List Value} (h' : CsR μ ok w H l' cs') (hle:off+l'.length<=l.length) :
  CsR μ ok w H (splice l off l') (splice cs off cs'):=by
 have hle' : off+cs'.length<=cs.length:=by rw [h.1,h'.1];exact hle
 refine ⟨by rw [dB _ _ _ hle,dB _ _ _ hle',h.1],fun t c ht=>?_⟩
 rw [eS _ _ _ _ hle] at ht
 rw [eS _ _ _ _ hle',h'.1]
 split
 ·rename_i hc;rw [if_pos hc] at ht;exact h'.2 _ c ht
 ·rename_i hc;rw [if_neg hc] at ht;exact h.2 _ c ht
theorem Fp (off:Nat):∀ (L:List Value) (j0:Nat) (cells:Array Value),off+j0+L.length<=cells.size ->
  ((L.zipIdx j0).foldl (fun cs (p:Value × Nat)=>cs.setIfInBounds (off+p.2) p.1) cells).toList=Go.Eng.splice cells.toList (off+j0) L
 | [],j0,cells,h=>by
  show cells.toList=_
  unfold Go.Eng.splice
  simp
 | v::L,j0,cells,h=>by
  simp only [List.length_cons] at h
  rw [List.zipIdx_cons,List.foldl_cons]
  have ih:=Fp off L (j0+1) (cells.setIfInBounds (off+j0) v) (by simp;omega)
  rw [ih]
  apply List.ext_getElem?
  intro k
  rw [eS _ _ _ _ (by simp;omega),eS _ _ _ _ (by simp;omega)]
  simp only [Array.toList_setIfInBounds,List.length_cons]
  by_cases h1:off+(j0+1)<=k/\k<off+(j0+1)+L.length
  ·rw [if_pos h1,if_pos (by omega)]
   rw [show k-(off+j0)=(k-(off+(j0+1)))+1 by omega,List.getElem?_cons_succ]
  ·rw [if_neg h1]
   by_cases h2:k=off+j0
   ·subst h2
    rw [if_pos (by omega),qkZ (by simp;omega)];simp
   ·rw [if_neg (by omega),qoZ (Ne.symm h2)]
theorem sM {place:Nat->Option (Nat × Nat)}:∀ {ps:List (Nat × V)} {zs:List V0} {l:List V0} {cells:Array Value} {vs:List (Nat × Value)},
  e8 place zs ps=some l->CsR μ ok w H zs cells.toList->ps.length=vs.length ->
  (∀ (t:Nat) (p:Nat × V),ps[t]?=some p->∃ u,vs[t]?=some (p.1,u)/\VR μ ok w H p.2 u) ->
  ∃ cells',Instr.fill place cells vs=some cells'/\CsR μ ok w H l cells'.toList/\cells'.size=cells.size
 | [],zs,l,cells,vs,h,hz,hl,_=>by
  have:vs = []:=List.eq_nil_of_length_eq_zero (by simpa using hl.symm)
  subst this
  simp only [e8,rbZ] at h;subst h
  exact ⟨cells,rfl,hz,rfl⟩
 | (i,v)::ps,zs,l,cells,vs,h,hz,hl,hp=>by
  obtain ⟨u,hu,hr⟩:=hp 0 (i,v) rfl
  cases vs with
  | nil=>simp at hu
  | cons q vs =>
   simp only [List.getElem?_cons_zero,rbZ] at hu
   subst hu
   simp only [e8] at h
   simp only [Instr.fill]
   cases hpl:place i with
   | none=>rw [hpl] at h;cases h
   | some os =>
    obtain ⟨off,size⟩:=os
    rw [hpl] at h
    dsimp only at h ⊢
    cases hc:cellsOf v with
    | none=>rw [hc] at h;cases h
    | some l' =>
     rw [hc] at h
     obtain ⟨h1,h2⟩:=ah h
     rw [qaZ] at h1
     have h11:=qbZ h1.1
     have h12:=qpZ h1.2
     have hcs:=l6 hc hr
     have hsz:u.cells.size=l'.length:=by simpa using hcs.1
     have hzl:cells.size=zs.length:=by simpa using hz.1
     rw [if_neg (by simp [hsz,hzl];omega)]
     have hf:=Fp off u.cells.toList 0 cells (by simp;omega)
     have hfold:(u.cells.zipIdx.foldl (fun cs (c,j)=>cs.setIfInBounds (off+j) c) cells).toList=Go.Eng.splice cells.toList off u.cells.toList:=by
      rw [<- Array.foldl_toList,Array.toList_zipIdx]
      simpa using hf
     have hz' : CsR μ ok w H (Go.Eng.splice zs off l') (u.cells.zipIdx.foldl (fun cs (c,j)=>cs.setIfInBounds (off+j) c) cells).toList:=by
      rw [hfold];exact hz.splice hcs h12
     obtain ⟨cells',h3,h4,h5⟩:=sM h2 hz' (by simpa using hl) (fun t p ht=>hp (t+1) p (by simpa using ht))
     refine ⟨cells',h3,h4,h5.trans ?_⟩
     have:=congrArg List.length hfold
     rw [dB _ _ _ (by simp [hsz];omega)] at this
     simpa using this
theorem Dl {c:V0} {v:Value} (h:F2 c v=true):V0R μ ok w H c v:=by
 unfold F2 at h
 split at h
 ·simp only [qaZ,beq_iff_eq] at h
  rw [eX h.1,h.2];rfl
 ·simp only [beq_iff_eq] at h;rw [h];rfl
 ·rename_i a b
  have:a=b:=by
   have h2:a.toList=b.toList:=by simpa using h
   rw [ByteArray.toList_eq,ByteArray.toList_eq] at h2
   exact ByteArray.ext (Array.toList_inj.1 h2)
  rw [this];rfl
 ·exact ⟨none,0,rfl,rkZ _,Nat.zero_le _,fun _=>rfl,.inl rfl⟩
 ·exact h
 ·cases h
theorem eG:∀ {l:List V0} {vs:List Value},dY l vs=true->CsR μ ok w H l vs
 | [],[],_=>⟨rfl,fun t c ht=>by simp at ht⟩
 | c::l,v::vs,h=>by
  simp only [dY,qaZ] at h
  have ih:=eG h.2
  refine ⟨by simp [ih.1],fun t x ht=>?_⟩
  cases t with
  | zero=>simp at ht;subst ht;exact ⟨v,rfl,Dl h.1⟩
  | succ t=>simpa using ih.2 t x (by simpa using ht)
 | [],_::_,h=>by simp [dY] at h
 | _::_,[],h=>by simp [dY] at h
end
end Go.Eng
