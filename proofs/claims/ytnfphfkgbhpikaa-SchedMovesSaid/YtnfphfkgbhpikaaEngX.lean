/-
 slices.SortFunc at rows of two numbers,sorted by the first one,then by the second one.
-/
import Derived.Test.YtnfphfkgbhpikaaEngV
import Derived.Test.YtnfphfkgbhpikaaEngX0
import Derived.Shelf.SlSortCmp.NoneTotal
set_option linter.all false
namespace Go.Eng
open Go Go.RowKit Go.Proofs Go.Shelf
theorem sort_unique {n:Nat} {d d' : Array PB} {cf:PB→PB→Int} (hlt:∀ x y,cf x y<0↔ltP x.1 y.1=true) (hn:d.size=n) (hp:Go.Sort.PermIn 0 n d d') (hs:Go.Sort.SortedIn (ltOf cf) 0 n d') :
  d'.toList.map (·.1)=sortP (d.toList.map (·.1)):=by
 obtain ⟨h1,_,h3⟩:=hp
 rw [show d'.extract 0 n=d' by rw [← hn,← h1];simp,show d.extract 0 n=d by rw [← hn];simp] at h3
 refine List.Perm.eq_of_pairwise (le:=fun x y=>leP x y=true) (fun a b _ _=>leP_antisymm) ?_ (sortP_sorted _) ((h3.map _).trans (sortP_perm _).symm)
 rw [List.pairwise_map,List.pairwise_iff_getElem]
 intro i j hi hj hij
 have hj' : j<d'.size:=by simpa using hj
 have hi' : i<d'.size:=by simpa using hi
 have h:=hs i j (Nat.zero_le _) hij (by omega)
 rw [getElem!_pos d' j hj',getElem!_pos d' i hi'] at h
 rw [Array.getElem_toList,Array.getElem_toList]
 have h2:ltP d'[j].1 d'[i].1=false:=by
  cases hq:ltP d'[j].1 d'[i].1 with
  | false=>rfl
  | true=>simp [ltOf] at h;have:=(hlt _ _).2 hq;omega
 simp [leP,h2]
theorem grow_of {W w' : World} (h:Below W.heap.size W w'):∃ q os',w' = Go.Sort.grow (W.drewN q) os':=by
 refine ⟨w'.drawn-W.drawn,w'.heap.extract W.heap.size w'.heap.size,?_⟩
 obtain ⟨⟨h1,h2,h3,h4,h5⟩,h6⟩:=h
 cases w' with
 | mk heap tape drawn os output =>
  cases W with
  | mk heap0 tape0 drawn0 os0 output0 =>
   simp only at *
   subst h1;subst h2;subst h3
   have e1:heap=heap0 ++ heap.extract heap0.size heap.size:=by
    apply Array.ext_getElem?
    intro k
    by_cases hk:k<heap0.size
    ·rw [Array.getElem?_append_left hk];exact h5 k hk
    ·rw [Array.getElem?_append_right (by omega),Array.getElem?_extract]
     split
     ·rw [show heap0.size+(k-heap0.size)=k by omega]
     ·exact Array.getElem?_eq_none (by omega)
   have e2:drawn=drawn0+(drawn-drawn0):=by omega
   unfold Go.Sort.grow World.drewN
   simp only
   congr 1
def encP (p:PB):List Value:=[.int .i64 p.1.1,.int .i64 p.1.2]
def mkPB (p:Int × Int):PB:=if h:inB p=true then ⟨p,h⟩ else default
theorem mkPB_val {p:Int × Int} (h:inB p=true):(mkPB p).1=p:=by unfold mkPB;rw [dif_pos h]
theorem swoP {cf:PB→PB→Int} (hlt:∀ x y,cf x y<0↔ltP x.1 y.1=true):Go.Sort.SWO (ltOf cf):=by
 have e:∀ x y,ltOf cf x y=ltP x.1 y.1:=fun x y=>by
  cases h:ltP x.1 y.1 with
  | true=>simp [ltOf];exact (hlt x y).2 h
  | false=>simp [ltOf];have:=hlt x y;rw [h] at this;simp at this;omega
 refine ⟨fun x=>?_,fun x y z h1 h2=>?_,fun x y z h1 h2=>?_⟩
 ·rw [e];cases h:ltP x.1 x.1 with
  | false=>rfl
  | true=>rw [ltP_iff] at h;omega
 ·rw [e,ltP_iff] at *;omega
 ·rw [e] at *
  cases h:ltP x.1 z.1 with
  | false=>rfl
  | true =>
   exfalso
   have a1:¬ ltP x.1 y.1=true:=by rw [h1];exact Bool.false_ne_true
   have a2:¬ ltP y.1 z.1=true:=by rw [h2];exact Bool.false_ne_true
   rw [ltP_iff] at a1 a2 h;omega
theorem prsP_get {n:Nat} {g:FF} (h:sortable n g=true) {i:Nat} (hi:i<n):inB (prP g i)=true:=by
 unfold sortable at h
 rw [Bool.and_eq_true] at h
 exact List.all_eq_true.1 h.2 _ (List.mem_map.2 ⟨i,List.mem_range.2 hi,rfl⟩)
def dOf (n:Nat) (g:FF):Array PB:=Array.ofFn (n:=n) fun i=>mkPB (prP g i)
theorem dOf_size (n:Nat) (g:FF):(dOf n g).size=n:=by simp [dOf]
theorem dOf_get {n:Nat} {g:FF} {i:Nat} (hi:i<n):(dOf n g)[i]! = mkPB (prP g i):=by
 rw [getElem!_pos _ _ (by rw [dOf_size];exact hi)];simp [dOf]
theorem dOf_list {n:Nat} {g:FF} (h:sortable n g=true):(dOf n g).toList.map (·.1)=prsP n g:=by
 apply List.ext_getElem
 ·simp [dOf,prsP]
 ·intro i h1 h2
  have hi:i<n:=by simpa [prsP] using h2
  simp only [List.getElem_map,Array.getElem_toList,dOf,Array.getElem_ofFn,prsP,List.getElem_range]
  exact mkPB_val (prsP_get h hi)
theorem flat_get (d:Array PB) {i j:Nat} (hi:i<d.size) (hj:j<2):(Go.Sort.flatK encP 2 d)[i*2+j]! = (encP d[i]!)[j]!:=by
 rw [Go.Sort.get_flatK _ _ _ _ (by omega),show (i*2+j) / 2=i by omega,show (i*2+j) % 2=j by omega]
theorem sort_mut {P:Program} {ρ:Ren} (L:SlLaysF0.n6 P ρ) (aE:∀ w,(isAgg (ρ.t 24)).run P w=.ok true w) (zE:∀ w,(Go.sizeOf (ρ.t 24)).run P w=.ok 2 w)
  {f fcl:FuncId} (hf:ρ.f 6=f) (hok:callOk P f=true) (eg:∀ args w,(callFunc fcl args).run P w=.ok (.enter fcl args) w)
  {cf:PB→PB→Int} (hlt:∀ x y,cf x y<0↔ltP x.1 y.1=true)
  (hcl:∀ x y:PB,Den P fcl [.agg [vi x.1.1,vi x.1.2],.agg [vi y.1.1,vi y.1.2]] [.v (vi (cf x y))])
  (n:Nat) (g:FF) (caps:Nat→CV) (hs:sortable n g=true):MutDen P f kP n g [.v (.fn fcl 0 caps)] (sortF n g):=by
 have hvs:∀ {w:World} {okA:Nat→Prop} {vs:Array Value},ARs okA w [.v (.fn fcl 0 caps)] vs→vs=#[.func (.func fcl) #[] #[]]:=by
  intro w okA vs hv
  obtain ⟨h1,h2⟩:=hv
  obtain ⟨u,hu,hr⟩:=h2 0 _ rfl
  obtain ⟨cs,rfl,hcs,_⟩:=hr
  have hcs:cs=#[]:=by simpa using hcs
  subst hcs
  apply Array.ext_getElem?
  intro k
  match k with
  | 0=>rw [hu];rfl
  | k+1 =>
   have h1:vs.size=1:=h1
   rw [Array.getElem?_eq_none (by omega),Array.getElem?_eq_none (by show 1≤k+1;omega)]
 subst hf
 refine ⟨hok,fun hn w okA a cap vs hcap hoks hgl hv=>?_,fun hn w okA gb cap cur e vs hoks hgl hgb hv hw h1 h2 h3 h4=>?_⟩
 ·rw [hvs hv]
  exact (AnyF.slices_SortFunc_none L a cap _ w).mono fun e' w' ⟨he,hw⟩=>⟨_,he,by rw [hw];exact Below.refl _ _⟩
 ·rw [hvs hv]
  have h3:cur.size=cap*2:=h3
  have hd:=dOf_size n g
  have hcur:∀ i j,i<n→j<2→cur[i*2+j]?=some ((encP (dOf n g)[i]!)[j]!):=by
   intro i j hi hj
   rw [dOf_get hi,encP,mkPB_val (prsP_get hs hi)]
   obtain ⟨hk,u,hu,hr⟩:=h4 i j hi hj
   have hu:cur[i*2+j]?=some u:=hu
   rw [hu]
   match j,hj with
   | 0,_ =>
    obtain ⟨k,hk⟩:∃ k,g i 0=.i .i64 k:=hk
    rw [hk] at hr
    have hr:u=.int .i64 k:=hr
    rw [hr];simp [prP,hk,toI]
   | 1,_ =>
    obtain ⟨k,hk⟩:∃ k,g i 1=.i .i64 k:=hk
    rw [hk] at hr
    have hr:u=.int .i64 k:=hr
    rw [hr];simp [prP,hk,toI]
  have hlt0:gb<w.heap.size:=(Array.getElem?_eq_some_iff.1 hw).1
  have hH:Go.Sort.HoldsK encP 2 w gb 0 (dOf n g):=by
   intro t ht
   rw [Go.Sort.size_flatK,hd] at ht
   have hcell:w.cell? ⟨gb,0+t,none⟩=cur[t]?:=by
    unfold World.cell?;simp only [hw,Nat.zero_add];rfl
   refine ⟨?_,?_⟩
   ·rw [hcell,show t=t / 2*2+t % 2 by omega,hcur _ _ (by omega) (by omega),flat_get _ (by omega) (by omega)]
    rfl
   ·unfold World.frozen?;simp only [hw];simp
  have hcmp:CmpLays P fcl #[] encP 2 cf gb 0 (dOf n g).size w:=by
   intro m os dk hdk x y
   have hbl:∀ k,okA k→(sortWorldK encP 2 w gb 0 m dk os).heap[k]?=w.heap[k]?:=by
    intro k hk
    have hne:k≠gb:=fun h=>hgb (h ▸ hk)
    have hks:=hoks k hk
    show ((w.heap.modify gb _) ++ os)[k]?=_
    rw [Array.getElem?_append_left (by simpa using hks),Array.getElem?_modify,if_neg (fun h=>hne h.symm)]
   have hsz:w.heap.size≤(sortWorldK encP 2 w gb 0 m dk os).heap.size:=by
    show _≤((w.heap.modify gb _) ++ os).size
    simp
   refine ((hcl x y).2 _ okA _ (fun k hk=>Nat.lt_of_lt_of_le (hoks k hk) hsz) (hgl.mono fun k hk=>⟨hk,hbl k hk⟩) ⟨rfl,fun t z ht=>?_⟩).mono fun e' w' hh=>?_
   ·match t with
    | 0 =>
     cases ht
     refine ⟨.agg (encP x).toArray,rfl,(encP x).toArray,rfl,rfl,fun t c ht=>?_⟩
     match t with
     | 0=>cases ht;exact ⟨_,rfl,rfl⟩
     | 1=>cases ht;exact ⟨_,rfl,rfl⟩
     | t+2=>cases ht
    | 1 =>
     cases ht
     refine ⟨.agg (encP y).toArray,rfl,(encP y).toArray,rfl,rfl,fun t c ht=>?_⟩
     match t with
     | 0=>cases ht;exact ⟨_,rfl,rfl⟩
     | 1=>cases ht;exact ⟨_,rfl,rfl⟩
     | t+2=>cases ht
    | t+2=>cases ht
   ·obtain ⟨v,ok',he,hb,_,_,hr⟩:=hh
    have hr:v=.int .i64 (cf x y):=hr
    exact ⟨by rw [he,hr],grow_of hb⟩
  have hn2:n<4611686018427387904:=by
   unfold sortable at hs
   rw [Bool.and_eq_true] at hs
   have:=Nat.le_of_ble_eq_true hs.1
   omega
  have hfin:=AnyQ.slices_SortFunc L 2 aE zE encP (fun _=>rfl) (fun x v hv=>by simp [encP] at hv;rcases hv with rfl | rfl<;>rfl) cf (swoP hlt) fcl #[] gb 0 cap (dOf n g) w eg hcmp hH hlt0 (by rw [hd];exact hn2)
  rw [hd] at hfin
  refine hfin.mono fun e' w' hh=>?_
  obtain ⟨he,d',n',os,hp,hs',rfl⟩:=hh
  have hd' : d'.size=n:=hp.1.trans hd
  have hsort:=sort_unique hlt hd hp hs'
  rw [dOf_list hs] at hsort
  refine ⟨_,Go.Sort.grow (Go.Sort.ahead w n') os,Go.Sort.putCells id 0 (Go.Sort.flatK encP 2 d') cur,he,⟨⟨rfl,rfl,rfl,?_,fun k hk=>?_⟩,Nat.le_add_right _ _⟩,?_,rfl,⟨rfl,Nat.le_refl _⟩,rfl,by simp [Go.Sort.putCells],fun i j hi hj=>?_⟩
  ·show _≤(w.heap ++ os).size
   simp
  ·show (w.heap ++ os)[k]?=_
   exact Array.getElem?_append_left hk
  ·apply Array.ext_getElem?
   intro k
   show ((w.heap.modify gb (Go.Sort.onCells (Go.Sort.putCells id 0 (Go.Sort.flatK encP 2 d')))) ++ os)[k]?=_
   by_cases hk:k=gb
   ·subst hk
    rw [setRow_heap _ k cur _ e (0,0) (show (w.heap ++ os)[k]?=_ by rw [Array.getElem?_append_left hlt0];exact hw)]
    rw [Array.getElem?_append_left (by simpa using hlt0),Array.getElem?_modify,if_pos rfl,hw]
    rfl
   ·rw [setRow_other _ gb k _ hk]
    show _=(w.heap ++ os)[k]?
    rw [Array.getElem?_append,Array.getElem?_append,Array.size_modify]
    split
    ·rw [Array.getElem?_modify,if_neg (fun h=>hk h.symm)]
    ·rfl
  ·have hj:j<2:=hj
   have hcs:i*2+j<cur.size:=by omega
   have hu:(Go.Sort.putCells id 0 (Go.Sort.flatK encP 2 d') cur)[i*2+j]?=some ((encP d'[i]!)[j]!):=by
    unfold Go.Sort.putCells
    rw [Array.getElem?_mapIdx,Array.getElem?_eq_getElem hcs]
    simp only [Option.map_some,Nat.zero_le,true_and,Nat.zero_add,Nat.sub_zero,id]
    rw [if_pos (by rw [Go.Sort.size_flatK];omega),flat_get _ (by omega) hj]
   have hg:(sortP (prsP n g))[i]?=some d'[i]!.1:=by
    rw [← hsort,List.getElem?_map,Array.getElem?_toList,Array.getElem?_eq_getElem (by omega),getElem!_pos d' i (by omega)]
    rfl
   have hG:∀ j,sortF n g i j=bif Nat.beq j 0 then vi d'[i]!.1.1 else vi d'[i]!.1.2:=fun j=>by
    unfold sortF pairsF;rw [hg]
   rw [hG]
   match j,hj with
   | 0,_=>exact ⟨⟨_,rfl⟩,_,hu,rfl⟩
   | 1,_=>exact ⟨⟨_,rfl⟩,_,hu,rfl⟩
theorem sortT_mut {P:Program} {ρ:Ren} (L:SlLaysF0.n6 P ρ) (aE:∀ w,(isAgg (ρ.t 24)).run P w=.ok true w) (zE:∀ w,(Go.sizeOf (ρ.t 24)).run P w=.ok 2 w)
  {f fcl:FuncId} (hf:ρ.f 6=f) (hok:callOk P f=true) (eg:∀ args w,(callFunc fcl args).run P w=.ok (.enter fcl args) w)
  {cf:PB→PB→Int} (hlt:∀ x y,cf x y<0↔ltP x.1 y.1=true)
  (hcl:∀ x y:PB,Den P fcl [.agg [vi x.1.1,vi x.1.2],.agg [vi y.1.1,vi y.1.2]] [.v (vi (cf x y))])
  {r:Kd} {n:Nat} {g:FF} {rest:List A} {g' : FF} (h:(bif r.beq kP&&isClo fcl rest then sortT n g else none)=some g'):MutDen P f r n g rest g':=by
 obtain ⟨h1,hA⟩:=bif_some h
 rw [Bool.and_eq_true] at h1
 obtain ⟨h1,h2⟩:=h1
 have h1:=Kd.eq_of_beq h1
 subst h1
 have hT:(bif sortable n g then some (sortF n g) else none)=some g':=hA
 obtain ⟨hs,hT2⟩:=bif_some hT
 cases hT2
 unfold isClo at h2
 split at h2
 ·rename_i f' caps
  have h2:=Nat.eq_of_beq_eq_true h2
  subst h2
  exact sort_mut L aE zE hf hok eg hlt hcl n g caps hs
 ·cases h2
theorem callOk_of {P : Program} {f : FuncId} {fn : Func} {c : Code} (hfn : P.funcs[f]? = some fn) (hname : (fn.name != "runtime.NumGoroutine") = true) (hbody : fn.body = some c) : callOk P f = true := by
 unfold callOk
 rw [hfn]
 simp only [hbody,hname,Option.isSome_some,Bool.and_self]
end Go.Eng
