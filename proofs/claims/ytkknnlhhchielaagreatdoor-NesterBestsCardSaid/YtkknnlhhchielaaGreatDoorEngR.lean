/-
 Functions that turn the rows of a slice in place.
-/
import Derived.Test.YtkknnlhhchielaaGreatDoorEngQ
set_option linter.all false
namespace Go.Eng
open Go Go.RowKit
variable {df : DF}
theorem Kd.mark_len:∀ r:Kd,r.mark.len=r.len
 | .pr a r=>by simp [Kd.mark,Kd.len,Kd.mark_len r]
 | .nil=>rfl
 | .int _=>rfl
 | .bool=>rfl
 | .str=>rfl
 | .oth=>rfl
 | .sl _=>rfl
theorem Kd.mark_tagged:∀ r:Kd,r.mark.tagged=true
 | .pr a r=>by simp [Kd.mark,Kd.tagged,Kd.mark_tagged r]
 | .nil=>rfl
 | .int _=>rfl
 | .bool=>rfl
 | .str=>rfl
 | .oth=>rfl
 | .sl _=>rfl
theorem Kd.mark_nth:∀ (r:Kd) (j:Nat),j<r.len->r.mark.nth j=r.nth j
 | .pr a r,0,_=>rfl
 | .pr a r,j+1,h=>by
  simp only [Kd.len] at h
  simp only [Kd.mark,Kd.nth]
  exact Kd.mark_nth r j (by omega)
 | .nil,_,h=>by simp [Kd.len] at h
 | .int _,_,h=>by simp [Kd.len] at h
 | .bool,_,h=>by simp [Kd.len] at h
 | .str,_,h=>by simp [Kd.len] at h
 | .oth,_,h=>by simp [Kd.len] at h
 | .sl _,_,h=>by simp [Kd.len] at h
def DW (r:Kd) (e:Ex) (st:St):Option (Nat × (Nat->Nat->CV)) :=
 match e with
 | .exit _=>none
 | _=>match st.heap with
  | .arr r' n' g'::_=>bif r'.beq r then some (n',g') else none
  | _=>none
def FA (C:ao) (fuel:Nat) (F:AF) (r:Kd) (n:Nat) (g:Nat->Nat->CV) (rest:List A):Option (Nat × (Nat->Nat->CV)) :=
 aS C fuel F.body ⟨.x (.own 0 0 n)::(rest.map A.toV ++ List.replicate (F.n-(rest.length+1)) .undef),[.arr r.mark n g]⟩ (DW r.mark)
theorem Fz {P:Program} {C:ao} (hmix:P.follows .mixedOrders=true) (hC:az P C) {f:FuncId} {F:AF} (hF:cd P f F) (hres:F.res = []) {fuel:Nat} {r:Kd} {n n' : Nat} {g g' : Nat->Nat->CV} {rest:List A}
  (hr:0<r.len) (hfl:r.flat=true) (hn:0<n) (h:FA C fuel F r n g rest=some (n',g')) (hn' : n<=n') (w:World) (okA:Nat->Prop) (gb cap:Nat) (cur:Array Value) (e:TypeId) (vs:Array Value) (hok:∀ g,okA g->g<w.heap.size) (hgl:eN okA w) (hgb:¬ okA gb)
  (hargs:ARs okA w rest vs) (hw:w.heap[gb]?=some (.cells cur e (0,0))) (hnc:n<=cap) (hcm:cap<=maxLen) (hsz:cur.size=cap*r.len)
  (hcells:∀ i j,i<n->j<r.len->(r.nth j).okP (g i j)/\∃ u,cur[i*r.len+j]?=some u/\CR okA w (g i j) u) :
  Calls P f (#[.slice (some ⟨gb,0,none⟩) n cap] ++ vs) w fun e' w'=>∃ v w1 cur',e' = .returned v/\Below w.heap.size w w1 /\
   w'.heap=(w1.setRow gb cur').heap/\w'.os=w1.os/\(w'.tape=w1.tape/\w1.drawn<=w'.drawn)/\w'.output=w1.output/\cur'.size=cur.size /\
   ∀ i j,i<n->j<r.len->(r.nth j).okP (g' i j)/\∃ u,cur'[i*r.len+j]?=some u/\CR okA w (g' i j) u:=by
 obtain ⟨fn,c,hfn,hbody,hnn,hres2,hfits⟩:=hF.fn
 refine calls_of_wp hfn hbody ?_
 unfold FA at h
 have hgs:gb<w.heap.size:=(qqZ.1 hw).1
 have hcells' : ∀ i j,i<n->j<r.mark.len->(r.mark.nth j).okP (g i j)/\∃ u,cur[i*r.mark.len+j]?=some u/\CR okA w (g i j) u:=by
  intro i j hi hj
  rw [Kd.mark_len] at hj ⊢
  rw [Kd.mark_nth r j hj]
  exact hcells i j hi hj
 have hm:MR ⟨w,fun k=>k=gb⟩ okA (fun b=>if b=0 then some gb else none) okA ([.arr r.mark n g]:List Blk) w:=by
  refine ⟨⟨rfl,rfl,rfl,rkZ _,fun _ _ _=>rfl,fun k _ cur e hc=>⟨cur,hc,rfl⟩,rkZ _⟩,fun g hg=>⟨hok g hg,.inl hg⟩,fun g hg=>hg,fun b g hg=>?_,fun b b' g hg hg'=>?_,fun b o hb=>?_,fun b g r n f hb _ hg=>?_⟩
  ·split at hg
   ·cases hg
    exact ⟨.inr rfl,hgs,hgb⟩
   ·cases hg
  ·split at hg
   ·split at hg'
    ·omega
    ·cases hg'
   ·cases hg
  ·cases b with
   | zero =>
    simp at hb;subst hb
    exact ⟨by rw [Kd.mark_len];exact hr,.inr ⟨gb,cur,e,rfl,hw,by rw [Kd.mark_len,hsz];exact quZ _ hnc,hcells'⟩⟩
   | succ b=>simp at hb
  ·split at hg
   ·cases hg;rfl
   ·cases hg
 have he:ER ([],[]) (fun b=>if b=0 then some gb else none) okA ([.arr r.mark n g]:List Blk) w (.x (.own 0 0 n)::(rest.map A.toV ++ List.replicate (F.n-(rest.length+1)) .undef))
   { tmps:=(#[.slice (some ⟨gb,0,none⟩) n cap] ++ vs) ++ Array.replicate (fn.ntmps-(#[Value.slice (some ⟨gb,0,none⟩) n cap] ++ vs).size) undef,defers:=[] }:=by
  refine ⟨by simp [hargs.1,hnn];omega,fun t v ht=>?_,⟨rfl,fun _ h=>by cases h⟩,hgl⟩
  cases t with
  | zero =>
   simp at ht;subst ht
   refine ⟨.slice (some ⟨gb,0,none⟩) n cap,by rw [Array.append_assoc,qlZ (by simp)];rfl,rfl,?_⟩
   refine ⟨by omega,some ⟨gb,0,none⟩,cap,rfl,hnc,hcm,.inr ⟨gb,cur,e,rfl,?_,hw,?_⟩⟩
   ·rw [Nat.zero_mul]
   ·rw [Kd.mark_len,rlZ];exact hsz
  | succ t =>
   simp only [List.getElem?_cons_succ] at ht
   by_cases hlt:t<rest.length
   ·rw [qnZ (by simpa using hlt),qhZ] at ht
    cases hq:rest[t]? with
    | none=>rw [hq] at ht;cases ht
    | some x =>
     rw [hq] at ht;cases ht
     obtain ⟨u,hu,hr⟩:=hargs.2 t x hq
     refine ⟨u,?_,hr.toV_sound⟩
     rw [qlZ (by simp [hargs.1];omega),qtZ (by simp)];simpa using hu
   ·rw [qsZ (by simp;omega),List.getElem?_replicate] at ht
    split at ht
    ·rename_i hl
     cases ht
     refine ⟨undef,?_,rfl⟩
     simp only [rcZ] at hl
     rw [qtZ (by simp [hargs.1];omega),Array.getElem?_replicate]
     rw [if_pos (by simp [hargs.1,hnn];omega)]
    ·cases ht
 refine e9 (st:=⟨_,_⟩) (r:=(n',g')) (k:=DW r.mark) hmix hC fuel F.body c hfits hm he (fun e1 μ ok st a w' hm he hk=>?_) h
 have main:(match st.heap with
  | .arr r' n' g'::_=>bif r'.beq r.mark then some (n',g') else none
  | _=>none)=some (n',g')->∃ v,(results fn a.tmps).run P w' = .ok v w'/\∃ v' w1 cur',Ending.returned v=.returned v'/\Below w.heap.size w w1 /\
   w'.heap=(w1.setRow gb cur').heap/\w'.os=w1.os/\(w'.tape=w1.tape/\w1.drawn<=w'.drawn)/\w'.output=w1.output/\cur'.size=cur.size /\
   ∀ i j,i<n->j<r.len->(r.nth j).okP (g' i j)/\∃ u,cur'[i*r.len+j]?=some u/\CR okA w (g' i j) u:=by
  intro hk
  have hh0:∃ rr nn gg,st.heap[0]?=some (.arr rr nn gg)/\rr=r.mark/\nn=n'/\gg=g':=by
   split at hk
   ·rename_i r1 n1 g1 tl hst
    obtain ⟨hb,hk⟩:=ah hk
    cases hk
    exact ⟨r1,_,_,by rw [hst];rfl,Kd.eq_of_beq hb,rfl,rfl⟩
   ·cases hk
  obtain ⟨_,_,_,hst0,rfl,rfl,rfl⟩:=hh0
  obtain ⟨_,hblk⟩:=hm.blk 0 _ hst0
  obtain ⟨g1,cur1,e1',hg1,hw1,hsz1,hrows⟩:=hblk.resolve_left (fun hh=>by omega)
  have:=hm.tag 0 g1 _ _ _ hst0 (Kd.mark_tagged r) hg1
  have hgg:g1=gb:=this
  subst hgg
  obtain ⟨cur2,hw2,hsz2⟩:=hm.below.lent g1 rfl cur e hw
  rw [hw1] at hw2;cases hw2
  have hrr:F.res = []:=hres
  have hrun:(results fn a.tmps).run P w' = .ok (.tuple #[]) w':=by
   have hl:fn.results.toList = []:=by
    rw [hres] at hres2
    cases hq:fn.results.toList with
    | nil=>rfl
    | cons x y=>rw [hq] at hres2;cases hres2
   have hl2:fn.results=#[]:=by
    apply Array.toList_inj.1;exact hl
   unfold results
   rw [hl2]
   simp
  refine ⟨_,hrun,_,w'.setRow g1 cur,cur1,rfl,⟨⟨hm.below.os,hm.below.tape,hm.below.output,by simpa using hm.below.size,fun k hk=>?_⟩,hm.below.drawn⟩,?_,rfl,⟨rfl,rkZ _⟩,rfl,hsz2,fun i j hi hj=>?_⟩
  ·by_cases hkk:k=g1
   ·subst hkk
    rw [setRow_heap w' k cur1 cur _ _ hw1,hw]
   ·rw [setRow_other w' g1 k cur hkk]
    exact hm.below.block k hk hkk
  ·apply Array.ext_getElem?
   intro k
   by_cases hkk:k=g1
   ·subst hkk
    rw [setRow_heap _ k cur cur1 _ _ (setRow_heap w' k cur1 cur _ _ hw1),hw1]
   ·rw [setRow_other _ g1 k cur1 hkk,setRow_other w' g1 k cur hkk]
  ·obtain ⟨hk1,u,hu,hcr⟩:=hrows i j (by omega) (by rw [Kd.mark_len];exact hj)
   rw [Kd.mark_len] at hu
   rw [Kd.mark_nth r j hj] at hk1
   exact ⟨hk1,u,hu,CR.scalar (Kd.flat_scalar r j _ hfl hj hk1) hcr⟩
 cases e1 with
 | exit id=>cases hk
 | normal =>
  obtain ⟨v,hv,hR⟩:=main hk
  exact ⟨he.defers.1,v,hv,hR⟩
 | ret =>
  obtain ⟨v,hv,hR⟩:=main hk
  exact ⟨he.defers.1,v,hv,hR⟩
theorem CJ {P:Program} {C:ao} (hmix:P.follows .mixedOrders=true) (hC:az P C) {f:FuncId} {F:AF} (hF:cd P f F) (hres:F.res = []) {fuel:Nat} {r:Kd} {n:Nat} {g g'' : Nat->Nat->CV} {rest:List A}
  (hr:0<r.len) (hfl:r.flat=true) (h0:n=0->aD C fuel F (.v (.ro false r 0 g)::rest)=some [])
  (h:0<n->(∀ i j,i<n->j<r.len->(r.nth j).okP (g i j))->∃ n' g',FA C fuel F r n g rest=some (n',g')/\n<=n'/\∀ i j,i<n->j<r.len->g' i j=g'' i j):sZ P f r n g rest g'':=by
 refine ⟨hF.ok,fun hn w okA a cap vs hcap hok hgl hvs=>?_,fun hn w okA gb cap cur e vs hok hgl hgb hvs hw h1 h2 h3 h4=>?_⟩
 ·have hd:=jL hmix hC hF (h0 hn)
  have hargs:ARs okA w (.v (.ro false r 0 g)::rest) (#[.slice a 0 cap] ++ vs):=by
   refine ⟨by simp [hvs.1];omega,fun t x ht=>?_⟩
   cases t with
   | zero =>
    simp only [List.getElem?_cons_zero,rbZ] at ht;subst ht
    refine ⟨.slice a 0 cap,by rw [qlZ (by simp)];rfl,?_⟩
    show CR okA w (.ro false r 0 g) (.slice a 0 cap)
    exact ⟨a,cap,rfl,Nat.zero_le _,hcap,(fun hh=>by cases hh),.inl rfl⟩
   | succ t =>
    obtain ⟨u,hu,hcr⟩:=hvs.2 t x (by simpa using ht)
    refine ⟨u,?_,hcr⟩
    rw [qtZ (by simp)];simpa using hu
  have hc:=hd.2 w okA _ hok hgl hargs
  refine hc.mono fun e w' he=>?_
  obtain ⟨v,ok',h1,h2,_⟩:=he
  exact ⟨v,h1,h2⟩
 ·obtain ⟨n',g',hT,hn',hg⟩:=h hn (fun i j hi hj=>(h4 i j hi hj).1)
  refine (Fz hmix hC hF hres hr hfl hn hT hn' w okA gb cap cur e vs hok hgl hgb hvs hw h1 h2 h3 h4).mono fun e' w' he=>?_
  obtain ⟨v,w1,cur',hh⟩:=he
  refine ⟨v,w1,cur',hh.1,hh.2.1,hh.2.2.1,hh.2.2.2.1,hh.2.2.2.2.1,hh.2.2.2.2.2.1,hh.2.2.2.2.2.2.1,fun i j hi hj=>?_⟩
  rw [<- hg i j hi hj]
  exact hh.2.2.2.2.2.2.2 i j hi hj
end Go.Eng
