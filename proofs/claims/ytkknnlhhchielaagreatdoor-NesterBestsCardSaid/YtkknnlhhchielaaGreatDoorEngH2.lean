/-
 Blocks that are let go,and what still refers to them.
-/
import Derived.Test.YtkknnlhhchielaaGreatDoorEngH
set_option linter.all false
namespace Go.Eng
open Go Go.RowKit
variable {df : DF}
section
variable {ρ : Type} {P : Program} {C : ao} {hb : Nat} {w0 : cD} {okA : Nat -> Prop} {μ : Nat -> Option Nat} {ok : Nat -> Prop} {st : St} {a : Act} {w : World}
theorem Fk:∀ (l:List Nat) (H:List Blk) (b:Nat),(eK H l)[b]?=H[b]?\/(eK H l)[b]?=some .dead
 | [],H,b=>.inl rfl
 | x::l,H,b=>by
  unfold eK
  rcases Fk l (H.set x .dead) b with h | h
  ·rw [h]
   by_cases hx:x=b
   ·subst hx
    rw [List.getElem?_set]
    simp only [if_true]
    by_cases hl:x<H.length
    ·rw [if_pos hl];exact .inr rfl
    ·rw [if_neg hl,rmZ (by omega)];exact .inl rfl
   ·rw [qoZ hx];exact .inl rfl
  ·exact .inr h
theorem li {μ1:Nat->Option Nat} {ok1:Nat->Prop} (hm:MR w0 okA μ ok st.heap w) (he:ER df μ ok st.heap w st.env a) (l:List Nat) (hm1:MR w0 okA μ1 ok1 (eK st.heap l) w)
  (E1:Ext μ ok w st.heap μ1 ok1 w (eK st.heap l)) (hkill:∀ b∈l,b<st.heap.length->∀ g,μ b=some g->ok1 g) (hH:∀ b,b∉l->(eK st.heap l)[b]?=st.heap[b]?) :
  MR w0 okA μ1 ok1 (st.thaw l).heap w/\ER df μ1 ok1 (st.thaw l).heap w (st.thaw l).env a:=by
 cases l with
 | nil=>exact ⟨hm1,he.ext E1⟩
 | cons b0 l0 =>
  have hte:(st.thaw (b0::l0)).env=st.env.map (V.thaw st.heap (b0::l0)):=rfl
  have hth:(st.thaw (b0::l0)).heap=(eK st.heap (b0::l0)).map (Blk.thaw st.heap (b0::l0)):=rfl
  rw [hte,hth]
  revert hm1 E1 hkill hH
  generalize b0::l0=l
  intro hm1 E1 hkill hH
  have E2:Ext μ1 ok1 w (eK st.heap l) μ1 ok1 w ((eK st.heap l).map (Blk.thaw st.heap l)):=by
   refine ⟨fun g hg=>⟨hg,rfl⟩,fun b hb=>by rw [qhZ,hb];rfl,fun b cs hb=>.inr ⟨⟨_,by rw [qhZ,hb];rfl⟩,rfl⟩,fun b r n f hb=>.inr ⟨⟨f,by rw [qhZ,hb];rfl⟩,rfl,fun g cur e _ hw=>⟨cur,e,hw,rfl⟩⟩,fun b sb n f hb=>.inr ⟨⟨n,f,by rw [qhZ,hb];rfl⟩,rfl⟩,fun b κ n ln f hb=>.inr ⟨⟨f,by rw [qhZ,hb];rfl⟩,rfl,fun i=>by rw [rcZ]⟩⟩
  have cell:∀ (y:V0) (u:Value),V0R μ ok w st.heap y u->V0R μ1 ok1 w ((eK st.heap l).map (Blk.thaw st.heap l)) (y.thaw st.heap l) u:=by
   intro y u hy
   have hold:=E2.v0 (E1.v0 hy)
   unfold V0.thaw
   split
   ·exact hold
   ·rename_i b r hrefs
    cases hc:l.contains b&&r.all fun x=>l.contains x with
    | false=>exact hold
    | true =>
     rw [qaZ] at hc
     dsimp only [cond_true]
     split
     ·rename_i c hs
      refine lk hm.blk (fun g hg=>(E1.ok g hg).1) depth (fun b' hb' hlt' g hg=>?_) hs hy
      rw [hrefs] at hb'
      refine hkill b' ?_ hlt' g hg
      rcases List.mem_cons.1 hb' with rfl | hb'
      ·simpa using hc.1
      ·have:=qiZ.1 hc.2 b' hb'
       simpa using this
     ·exact hold
  refine ⟨⟨hm1.below,hm1.okd,hm1.keep,hm1.fresh,hm1.inj,fun b o ho=>?_,fun b g r n f hx ht hmu=>by
   rw [qhZ] at hx
   cases hq:(eK st.heap l)[b]? with
   | none=>rw [hq] at hx;cases hx
   | some o =>
    rw [hq] at hx
    cases o with
    | arr r2 n2 f2=>cases hx;exact hm1.tag b g _ _ _ hq ht hmu
    | rsv=>cases hx
    | dead=>cases hx
    | set sb c d=>cases hx
    | mat κ c d f=>cases hx
    | box c=>cases hx⟩,?_⟩
  ·rw [qhZ] at ho
   cases hq:(eK st.heap l)[b]? with
   | none=>rw [hq] at ho;cases ho
   | some o1 =>
    rw [hq] at ho
    simp only [Option.map_some,rbZ] at ho
    subst ho
    cases o1 with
    | rsv=>exact hm1.blk b _ hq
    | dead=>trivial
    | arr r n f=>exact hm1.blk b _ hq
    | set sb n f=>exact hm1.blk b _ hq
    | mat κ n ln f=>simpa only [Blk.thaw,lH,rcZ] using hm1.blk b _ hq
    | box cells =>
     have hbl:(eK st.heap l)[b]?=st.heap[b]?:=by
      rcases Fk l st.heap b with h | h
      ·exact h
      ·rw [h] at hq;cases hq
     rw [hbl] at hq
     obtain ⟨g,cur,e,h1,h2,h3,h4⟩:=hm.blk b _ hq
     obtain ⟨g1,cur1,e1,h1',h2',_,_⟩:=hm1.blk b _ (hbl.trans hq)
     have hg:g1=g:=by
      rcases E1.box b cells hq with hd | ⟨_,hmu⟩
      ·rw [hbl,hq] at hd;cases hd
      ·rw [hmu,h1] at h1';cases h1';rfl
     subst hg
     refine ⟨g1,cur,e,h1',h2,by simp [h3],fun j c hj=>?_⟩
     rw [qhZ] at hj
     cases hc:cells[j]? with
     | none=>rw [hc] at hj;cases hj
     | some y =>
      rw [hc] at hj
      simp only [Option.map_some,rbZ] at hj
      subst hj
      obtain ⟨u,hu,hr⟩:=h4 j y hc
      exact ⟨u,hu,cell y u hr⟩
  ·refine ⟨by rw [he.size];simp,fun t v ht=>?_,he.defers,he.glob.mono E1.ok⟩
   rw [qhZ] at ht
   cases hq:st.env[t]? with
   | none=>rw [hq] at ht;cases ht
   | some v0 =>
    rw [hq] at ht
    simp only [Option.map_some,rbZ] at ht
    subst ht
    obtain ⟨u,hu,hr⟩:=he.env t v0 hq
    refine ⟨u,hu,?_⟩
    cases v0 with
    | u=>trivial
    | undef=>exact hr
    | tup x=>exact (E2.v (E1.v (y:=.tup x) hr))
    | x y=>exact cell y u hr
    | agg ys =>
     obtain ⟨cs,hp,hs,hcs⟩:=hr
     refine ⟨cs,hp,by simp [hs],fun t' c ht'=>?_⟩
     rw [qhZ] at ht'
     cases hc:ys[t']? with
     | none=>rw [hc] at ht';cases ht'
     | some y =>
      rw [hc] at ht'
      simp only [Option.map_some,rbZ] at ht'
      subst ht'
      obtain ⟨u',hu',hr'⟩:=hcs t' y hc
      exact ⟨u',hu',cell y u' hr'⟩
end
end Go.Eng
