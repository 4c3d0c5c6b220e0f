/-
 Operations,part 6: those that make or write memory.
-/
import Derived.Test.YtkknnlhhchielaaGreatDoorEngG
set_option linter.all false
namespace Go.Eng
open Go Go.RowKit
variable {df : DF}
section
variable {ρ : Type} {P : Program} {C : ao} {hb : Nat} {w0 : cD} {okA : Nat -> Prop} {μ : Nat -> Option Nat} {ok : Nat -> Prop} {st : St} {a : Act} {w : World}
 {o:Oper} {k:V->St->Option ρ} {r:ρ} {next:Act->World->Prop} {Q:Exit->Act->World->Prop}
theorem CsR.ext {μ' : Nat->Option Nat} {ok' : Nat->Prop} {w' : World} {H H' : List Blk} (E:Ext μ ok w H μ' ok' w' H') {l:List V0} {cs:List Value} (h:CsR μ ok w H l cs):CsR μ' ok' w' H' l cs :=
 ⟨h.1,fun t c ht=>let ⟨u,hu,hr⟩:=h.2 t c ht;⟨u,hu,E.v0 hr⟩⟩
theorem mn (hm:MR w0 okA μ ok st.heap w) (he:ER df μ ok st.heap w st.env a) {b:Nat} (hres:st.heap[b]?=some .rsv) (ob:Blk) (cs:Array Value) (e:TypeId) {w' : World}
  (hw' : w'.heap=(w.alloc (.cells cs e)).heap/\Below w0.w.heap.size w w')
  (htag:∀ r n f,ob=.arr r n f->r.tagged=true->w0.own w.heap.size)
  (hblk:∀ μ',Ext μ ok w st.heap μ' ok w' (st.heap.set b ob)->μ' b=some w.heap.size->w'.heap[w.heap.size]?=some (.cells cs e (0,0))->lH μ' ok w' (st.heap.set b ob) b ob) :
  ∃ μ',MR w0 okA μ' ok (st.setB b ob).heap w'/\ER df μ' ok (st.setB b ob).heap w' (st.setB b ob).env a/\μ' b=some w.heap.size/\(st.setB b ob).heap[b]?=some ob /\
   w'.heap[w.heap.size]?=some (.cells cs e (0,0))/\Ext μ ok w st.heap μ' ok w' (st.setB b ob).heap:=by
 have hnew:w'.heap[w.heap.size]?=some (.cells cs e (0,0)):=by rw [hw'.1];exact heap_alloc_new w _
 have hold:∀ k,k<w.heap.size->w'.heap[k]?=w.heap[k]?:=fun k hk=>by rw [hw'.1];exact Below.heap_alloc w _ k hk
 have hsz:w'.heap.size=w.heap.size+1:=by rw [hw'.1];simp
 obtain ⟨h1,E⟩:=hm.install (g:=w.heap.size) ob hres (hm.below.trans hw'.2) (by omega) (fun k hk=>hold k (hm.okd k hk).1) (fun b' k hk=>hold k (hm.fresh b' k hk).2.1)
  ⟨.inl hm.below.size,by omega,fun h=>by have:=(hm.okd _ h).1;omega⟩ (fun b' h=>by have:=(hm.fresh b' _ h).2.1;omega) htag (fun E=>hblk _ E (je _ _ _) hnew)
 refine ⟨_,h1,he.ext E,je _ _ _,?_,hnew,E⟩
 exact qkZ (qfZ.1 hres).1
theorem lS (hm:MR w0 okA μ ok st.heap w) (ob:Obj):Below w0.w.heap.size w (w.alloc ob):=(Below.refl _ _).alloc hm.below.size ob
theorem FG (hm:MR w0 okA μ ok st.heap w) (he:ER df μ ok st.heap w st.env a) (hk:dD df w0 okA a k r fun u w=>next (a.put o.dst u) w)
  {q:Nat} {l:List V0} {cs:Array Value} {e:TypeId} (hcs:CsR μ ok w st.heap l cs.toList) (hrun:(execOp a.eval o).run P w=.ok (.value (.pointer (some ⟨w.heap.size,0,none⟩))) (w.alloc (.cells cs e)))
  (h:jO hb st q (.box l) (fun st=>k (.x (.ptr (hb+q) 0)) st)=some r):o.wp P a w next Q:=by
 unfold jO at h
 split at h
 ·rename_i hres
  obtain ⟨μ',h1,h2,h3,h4,h5,E⟩:=mn hm he hres (.box l) cs e ⟨rfl,lS hm _⟩ (fun _ _ _ hh=>by cases hh) (fun μ' E hμ hw=>⟨w.heap.size,cs,e,hμ,hw,by simpa using hcs.1,fun j c hj=>by
   obtain ⟨u,hu,hr⟩:=hcs.2 j c hj
   exact ⟨u,by simpa using hu,E.v0 hr⟩⟩)
  have hv:V0R μ' ok (w.alloc (.cells cs e)) (st.setB (hb+q) (.box l)).heap (.ptr (hb+q) 0) (.pointer (some ⟨w.heap.size,0,none⟩)):=⟨rfl,by rw [h4];exact ⟨_,h3,rfl⟩⟩
  exact dK hrun (hk μ' ok (.x (.ptr (hb+q) 0)) _ _ _ h1 h2 hv h)
 ·cases h
theorem V4 (hm:MR w0 okA μ ok st.heap w) (he:ER df μ ok st.heap w st.env a) (hk:dD df w0 okA a k r fun u w=>next (a.put o.dst u) w)
  {q:Nat} {t:TypeId} {x:Operand} (ho:o.op=.box t x) (h:aj C hb st (.box q t x) k=some r):o.wp P a w next Q:=by
 have hx:=aF he x
 simp only [aj] at h
 split at h
 ·rename_i l hl
  refine FG hm he hk (l6 hl hx) (e:=t) ?_ h
  simp [execOp,ho,Instr.box,newVar,newRow]
 ·cases h
theorem Eg {t:TypeId} {zs:List V0} (h:(match P.info? t with
   | some i=>match i.zero with
    | some z=>dY zs z.cells.toList
    | none=>false
   | none=>false)=true):∃ i z,P.info? t=some i/\i.zero=some z/\(zeroValue t).run P w=.ok z w/\∀ μ ok w H,CsR μ ok w H zs z.cells.toList:=by
 split at h
 ·rename_i i hi
  split at h
  ·rename_i z hz
   exact ⟨i,z,hi,hz,by simp [zeroValue,typeInfo,hi,hz],fun _ _ _ _=>eG h⟩
  ·cases h
 ·cases h
theorem Nf (hm:MR w0 okA μ ok st.heap w) (he:ER df μ ok st.heap w st.env a) (hk:dD df w0 okA a k r fun u w=>next (a.put o.dst u) w)
  {q:Nat} {t:TypeId} {zs:List V0} (ho:o.op=.alloc t) (hP:(AOp.alloc q t zs).okP P=true) (h:aj C hb st (.alloc q t zs) k=some r):o.wp P a w next Q:=by
 obtain ⟨i,z,hi,hz,hrun,hc⟩:=Eg (w:=w) hP
 simp only [aj] at h
 refine FG hm he hk (hc _ _ _ _) (e:=t) ?_ h
 simp [execOp,ho,Instr.alloc,hrun,newVar,newRow]
theorem EJ (he:ER df μ ok st.heap w st.env a) (parts:List (Nat × Operand)) (t:Nat) (p:Nat × V) (h:(parts.map fun p=>(p.1,st.ev p.2))[t]?=some p) :
  ∃ u,(parts.map fun p=>(p.1,a.eval p.2))[t]?=some (p.1,u)/\VR μ ok w st.heap p.2 u:=by
 rw [qhZ] at h
 cases hq:parts[t]? with
 | none=>rw [hq] at h;cases h
 | some x =>
  rw [hq] at h;cases h
  exact ⟨a.eval x.2,by rw [qhZ,hq];rfl,aF he x.2⟩
theorem Nc (hm:MR w0 okA μ ok st.heap w) (he:ER df μ ok st.heap w st.env a) (hk:dD df w0 okA a k r fun u w=>next (a.put o.dst u) w)
  {t:TypeId} {zs:List V0} {pl:List (Nat × Nat)} {esz:Nat} {parts:List (Nat × Operand)} (ho:o.op=.build t parts.toArray) (hP:(AOp.build t zs pl esz parts).okP P=true)
  (h:aj C hb st (.build t zs pl esz parts) k=some r):o.wp P a w next Q:=by
 simp only [AOp.okP,qaZ] at hP
 obtain ⟨i,z,hi,hz,hrun,hc⟩:=Eg (w:=w) hP.1
 simp only [aj] at h
 split at h
 ·rename_i l hl
  have hplace:(∀ vs,Instr.fill (Gn pl esz) z.cells vs=P.built t vs):=by
   intro vs
   have h2:=hP.2
   unfold Program.built
   split at h2
   ·rename_i fields hu
    rw [qaZ] at h2
    have e0:=qbZ h2.1
    have e1:=of_decide_eq_true h2.2
    subst e0
    simp only [hi,hu,hz,e1]
    congr 1
    funext x
    simp [Gn]
   ·rename_i n e hu
    rw [qaZ] at h2
    have hpos:0<esz:=by simpa using h2.1
    have h3:=h2.2
    unfold dT at h3
    split at h3
    ·rename_i ie hie
     have e0:=qbZ h3
     simp only [hi,hu,hz,hie,<- e0]
     congr 1
     funext x
     cases esz with
     | zero=>omega
     | succ n=>rfl
    ·cases h3
   ·cases h2
  obtain ⟨cells,h1,h2,_⟩:=sM hl (hc μ ok w st.heap) (by simp) (EJ he parts)
  rw [hplace] at h1
  have hbuilt:P.built t (parts.toArray.map fun (p:Nat × Operand)=>(p.1,a.eval p.2)).toList=some cells:=by simpa using h1
  refine aP hm he hk (u:=.agg cells) (v:=.agg l) ?_ ⟨cells,rfl,by simpa using h2.1,fun t c ht=>by simpa using h2.2 t c ht⟩ h
  have:=run_build (P:=P) w t _ cells hbuilt
  simp only [List.map_toArray] at this
  simp [execOp,ho,this]
 ·cases h
theorem lg {rr:Kd}:∀ {l:List CV} {j t:Nat} {c:CV},lB rr j l=true->l[t]?=some c->(rr.nth (j+t)).fits c=true
 | [],_,_,_,_,h=>by simp at h
 | x::l,j,0,c,h,ht=>by
  simp only [lB,qaZ] at h
  simp at ht;subst ht;exact h.1
 | x::l,j,t+1,c,h,ht=>by
  simp only [lB,qaZ] at h
  have:=lg h.2 (by simpa using ht)
  rwa [Nat.add_right_comm] at this
theorem vp {t:TypeId} {m g j:Nat} {cur:Array Value} {e:TypeId} {v:Value} (hs:dT P t m=true) (hv:v.cells.size=m) (hw:w.heap[g]?=some (.cells cur e (0,0)))
  (hj:j+m<=cur.size) (h1:∀ x∈v.cells.toList,x.oneCell' = true) :
  (Instr.storeAt t (.pointer (some ⟨g,j,none⟩)) v).run P w=.ok () (w.setRow g (splice cur.toList j v.cells.toList).toArray):=by
 have h2:=run_storeCells_at (P:=P) g j e v.cells.toList 0 cur w hw (by simp;omega) h1
 have h3:=jv (w:=w) hs
 simp only [Nat.add_zero] at h2
 simp [Instr.storeAt,Instr.sureAddr,storeVar,h3,hv,h2,splice]
theorem MR.updRow {H:List Blk} (h:MR w0 okA μ ok H w) {b i x n:Nat} {κ:Kd} {ln:Nat->Nat} {f f' : Nat->Nat->CV} {rc rc' : Array Value} {e:TypeId} (hb:H[b]?=some (.mat κ n ln f)) (hx:μ (rix H.length b i)=some x)
  (hw:w.heap[x]?=some (.cells rc e (0,0))) (hsz:rc'.size=rc.size)
  (hblk:Ext μ ok w H μ ok (w.setRow x rc') (H.set b (.mat κ n ln f'))->lH μ ok (w.setRow x rc') (H.set b (.mat κ n ln f')) b (.mat κ n ln f')) :
  MR w0 okA μ ok (H.set b (.mat κ n ln f')) (w.setRow x rc')/\Ext μ ok w H μ ok (w.setRow x rc') (H.set b (.mat κ n ln f')):=by
 have hlt:b<H.length:=(qfZ.1 hb).1
 have hf:=h.fresh _ x hx
 have hrow:(w.setRow x rc').heap[x]?=some (.cells rc' e (0,0)):=setRow_heap w x rc rc' e _ hw
 have hoth:∀ k,k≠x->(w.setRow x rc').heap[k]?=w.heap[k]?:=fun k hk=>setRow_other w x k rc' hk
 have hset:∀ b',b'≠b->(H.set b (Blk.mat κ n ln f'))[b']?=H[b']?:=fun b' hn=>qoZ (Ne.symm hn)
 have hself:(H.set b (Blk.mat κ n ln f'))[b]?=some (.mat κ n ln f'):=qkZ hlt
 have hbx:∀ b' g,b' < H.length->μ b' = some g->g≠x:=fun b' g hb' hg e=>by
  subst e
  exact sE hb' (h.inj _ _ _ hx hg)
 have E:Ext μ ok w H μ ok (w.setRow x rc') (H.set b (.mat κ n ln f')):=by
  refine ⟨fun k hk=>⟨hk,hoth k (fun e=>hf.2.2 (e ▸ hk))⟩,fun b' hb'=>?_,fun b' cs hb'=>?_,fun b' r n f hb'=>?_,fun b' sb n f hb'=>?_,fun b' κ' n' ln' f1 hb'=>?_⟩
  ·by_cases hbb:b' = b
   ·subst hbb;rw [hb] at hb';cases hb'
   ·rw [hset b' hbb];exact hb'
  ·by_cases hbb:b' = b
   ·subst hbb;rw [hb] at hb';cases hb'
   ·exact .inr ⟨⟨cs,by rw [hset b' hbb];exact hb'⟩,rfl⟩
  ·by_cases hbb:b' = b
   ·subst hbb;rw [hb] at hb';cases hb'
   ·refine .inr ⟨⟨f,by rw [hset b' hbb];exact hb'⟩,rfl,fun k c1 e1 hk hw1=>⟨c1,e1,?_,rfl⟩⟩
    rw [hoth k (hbx b' k (qfZ.1 hb').1 hk)];exact hw1
  ·by_cases hbb:b' = b
   ·subst hbb;rw [hb] at hb';cases hb'
   ·exact .inr ⟨⟨n,f,by rw [hset b' hbb];exact hb'⟩,rfl⟩
  ·by_cases hbb:b' = b
   ·subst hbb
    rw [hb] at hb';cases hb'
    exact .inr ⟨⟨f',hself⟩,rfl,fun i=>by rw [roZ]⟩
   ·exact .inr ⟨⟨f1,by rw [hset b' hbb];exact hb'⟩,rfl,fun i=>by rw [roZ]⟩
 refine ⟨⟨h.below.turn hw hsz hf.1 hrow hoth,fun k hk=>by simpa using h.okd k hk,h.keep,fun b' k hk=>by simpa using h.fresh b' k hk,h.inj,?_,fun b' g' r n f hx ht hm=>by
  by_cases hbb:b' = b
  ·subst hbb;rw [hself] at hx;cases hx
  ·rw [hset b' hbb] at hx;exact h.tag b' g' r n f hx ht hm⟩,E⟩
 intro b' o hx'
 by_cases hbb:b' = b
 ·subst hbb
  rw [hself] at hx';cases hx'
  exact hblk E
 ·rw [hset b' hbb] at hx'
  have hlt':=(qfZ.1 hx').1
  refine E.blkL rfl (fun g hg=>hoth g (hbx b' g hlt' hg)) (fun i'=>⟨by rw [roZ],fun g hg=>hoth g fun e=>?_⟩) (h.blk b' o hx')
  subst e
  exact hbb (HY hlt' hlt (h.inj _ _ _ hg hx)).1
theorem M4 (hm:MR w0 okA μ ok st.heap w) (he:ER df μ ok st.heap w st.env a) (hk:dD df w0 okA a k r fun u w=>next (a.put o.dst u) w)
  {t:TypeId} {m:Nat} {x y:Operand} (ho:o.op=.store t x y) (hP:dT P t m=true) (h:aj C hb st (.store t m x y) k=some r):o.wp P a w next Q:=by
 have hx:=aF he x
 have hy:=aF he y
 simp only [aj] at h
 split at h
 ·cases h
 ·rename_i l hl
  have hcs:=l6 hl hy
  have hsz:(a.eval y).cells.size=l.length:=by simpa using hcs.1
  obtain ⟨h1,h2⟩:=ah h
  have h1:=qbZ h1
  split at h2
  ·rename_i b j hxv
   rw [hxv] at hx
   split at h2
   ·rename_i cells hq
    obtain ⟨_,hp⟩:=hx
    rw [hq] at hp
    obtain ⟨g,hg,hp⟩:=hp
    obtain ⟨g',cur,e,hg',hw,hcur,hc⟩:=hm.blk b _ hq
    rw [hg] at hg';cases hg'
    obtain ⟨h3,h4⟩:=ah h2
    have h3:=qpZ h3
    have hcs0:CsR μ ok w st.heap cells cur.toList:=⟨by simpa using hcur,fun t c ht=>by simpa using hc t c ht⟩
    have hrun:=vp (P:=P) (j:=j) (v:=a.eval y) hP (by omega) hw (by omega) hcs.one
    have hlen:(splice cur.toList j (a.eval y).cells.toList).length=cur.size:=by rw [dB _ _ _ (by simp;omega)];simp
    obtain ⟨h5,E⟩:=hm.update (o':=.box (splice cells j l)) (cur':=(splice cur.toList j (a.eval y).cells.toList).toArray) hq hg hw (by simpa using hlen) (.inl ⟨_,_,rfl,rfl⟩) (fun E=>by
     have hz:=(hcs0.splice hcs (off:=j) (by omega)).ext E
     exact ⟨g,_,e,hg,setRow_heap w g cur _ e _ hw,by simpa using hz.1,fun t c ht=>by simpa using hz.2 t c ht⟩)
    refine lh (w':=w.setRow g (splice cur.toList j (a.eval y).cells.toList).toArray) ?_ (hk _ _ .undef _ _ _ h5 (he.ext E) rfl h4)
    simp [execOp,ho,hp,hrun]
   ·cases h2
  ·rename_i b i j hxv
   rw [hxv] at hx
   split at h2
   ·rename_i rr n f hq
    obtain ⟨_,hp⟩:=hx
    rw [hq] at hp
    obtain ⟨hi,g,hg,hp⟩:=hp
    split at h2
    ·cases h2
    ·rename_i cs hcsn
     obtain ⟨h3,h4⟩:=ah h2
     simp only [qaZ,Bool.not_eq_true',List.contains_eq_mem,decide_eq_false_iff_not] at h3
     obtain ⟨⟨h3,hfit⟩,hnot⟩:=h3
     have h3:=qpZ h3
     obtain ⟨hcl,hcg⟩:=aX hcsn
     rw [rcZ] at hcl
     obtain ⟨μ',ok',hm',E',hok',hkill,hμ',hH'⟩:=hm.freeze ((l.map (dp st.heap depth)).flatten)
     have hg' : μ' b=some g:=(hμ' b (.inl hnot)).trans hg
     have hq' : (eK st.heap ((l.map (dp st.heap depth)).flatten))[b]?=some (.arr rr n f):=(hH' b hnot).trans hq
     obtain ⟨h0,hbr⟩:=hm'.blk b _ hq'
     rcases hbr with ⟨_,h5⟩ | ⟨g',cur,e,hg'',hw,hn,hc⟩
     ·rw [hg'] at h5;cases h5
     ·rw [hg'] at hg'';cases hg''
      have hle:i*rr.len+j+m<=cur.size:=by
       have:(i+1)*rr.len<=n*rr.len:=quZ _ hi
       rw [Nat.add_mul,Nat.one_mul] at this
       omega
      have hrun:=vp (P:=P) (v:=a.eval y) hP (by omega) hw hle hcs.one
      have hlen:(splice cur.toList (i*rr.len+j) (a.eval y).cells.toList).length=cur.size:=by rw [dB _ _ _ (by simp;omega)];simp
      have hnew:∀ (t:Nat) (c:CV),cs[t]?=some c->(rr.nth (j+t)).okP c/\∃ u,(a.eval y).cells[t]?=some u/\CR ok' w c u:=by
       intro t c ht
       refine ⟨Kd.fits_ok (lg hfit ht),?_⟩
       have h6:=hcg t c ht
       rw [qhZ] at h6
       cases hq2:l[t]? with
       | none=>rw [hq2] at h6;cases h6
       | some y0 =>
        rw [hq2] at h6
        simp only [Option.map_some,rbZ] at h6
        obtain ⟨u,hu,hr⟩:=hcs.2 t y0 hq2
        exact ⟨u,by simpa using hu,lk hm.blk (fun g hg=>(E'.ok g hg).1) depth (fun b hb hlt=>hkill b (qyZ.2 ⟨_,rjZ.2 ⟨y0,qrZ hq2,rfl⟩,hb⟩) hlt) h6 hr⟩
      obtain ⟨h5,E⟩:=hm'.update (o':=.arr rr n (cm f i j m (au cs))) (cur':=(splice cur.toList (i*rr.len+j) (a.eval y).cells.toList).toArray) hq' hg' hw (by simpa using hlen)
       (.inr ⟨_,_,_,_,rfl,rfl⟩) (fun E=>by
       refine ⟨h0,.inr ⟨g,_,e,hg',setRow_heap w g cur _ e _ hw,by simp [hlen];exact hn,fun i' j' hi' hj'=>?_⟩⟩
       have hidx:i'*rr.len+j' < cur.size:=by
        have:(i'+1)*rr.len<=n*rr.len:=quZ _ hi'
        rw [Nat.add_mul,Nat.one_mul] at this
        omega
       simp only [List.getElem?_toArray]
       rw [eS _ _ _ _ (by simp;omega)]
       by_cases hin:i' = i/\j<=j'/\j' < j+m
       ·obtain ⟨rfl,hj1,hj2⟩:=hin
        rw [if_pos (by simp;omega)]
        have hset:cm f i' j m (au cs) i' j' = au cs (j' - j):=by
         have e1:Nat.beq i' i' = true:=by simp
         have e2:Nat.ble j j' = true:=by simpa using hj1
         have e3:Nat.blt j' (j+m)=true:=by simpa using hj2
         simp only [cm,e1,e2,e3,Bool.and_self,cond_true]
        obtain ⟨c,hc'⟩:∃ c,cs[j' - j]?=some c:=⟨cs[j' - j]'(by omega),by simp⟩
        obtain ⟨hk1,u,hu,hr⟩:=hnew (j' - j) c hc'
        rw [hset,mq hc']
        refine ⟨by rwa [show j+(j' - j)=j' by omega] at hk1,u,?_,CR.mono E.ok hr⟩
        rw [show i'*rr.len+j' - (i'*rr.len+j)=j' - j by omega]
        simpa using hu
       ·have hset:cm f i j m (au cs) i' j' = f i' j':=by
         have:(Nat.beq i' i&&Nat.ble j j' && Nat.blt j' (j+m))=false:=by
          rw [Bool.eq_false_iff]
          intro hh
          simp only [qaZ] at hh
          exact hin ⟨qbZ hh.1.1,qpZ hh.1.2,by simpa using hh.2⟩
         simp [cm,this]
        have hne:¬ (i*rr.len+j<=i'*rr.len+j'/\i'*rr.len+j' < i*rr.len+j+(a.eval y).cells.toList.length):=by
         rintro ⟨e1,e2⟩
         simp only [Array.length_toList,hsz] at e2
         rcases Nat.lt_trichotomy i' i with h7 | h7 | h7
         ·have:(i'+1)*rr.len<=i*rr.len:=quZ _ h7
          rw [Nat.add_mul,Nat.one_mul] at this
          omega
         ·subst h7;exact hin ⟨rfl,by omega,by omega⟩
         ·have:(i+1)*rr.len<=i'*rr.len:=quZ _ h7
          rw [Nat.add_mul,Nat.one_mul] at this
          omega
        rw [if_neg hne,hset]
        obtain ⟨hk1,u,hu,hr⟩:=hc i' j' hi' hj'
        exact ⟨hk1,u,by simpa using hu,CR.mono E.ok hr⟩)
      refine lh (w':=w.setRow g (splice cur.toList (i*rr.len+j) (a.eval y).cells.toList).toArray) ?_ (hk _ _ .undef _ _ _ h5 ((he.ext E').ext E) rfl h4)
      simp [execOp,ho,hp,hrun]
   ·cases h2
  ·rename_i b i j hxv
   rw [hxv] at hx
   split at h2
   ·rename_i κ n ln f c hq _
    obtain ⟨_,hp⟩:=hx
    rw [hq] at hp
    obtain ⟨hi,hj,x0,hx0,hp⟩:=hp
    obtain ⟨h3,h4⟩:=ah h2
    simp only [qaZ] at h3
    obtain ⟨h3,hfit,hsc⟩:=h3
    have h3:=qbZ h3
    subst h3
    obtain ⟨hκ,hn,g,cur,e,hg,hw,hcur,hc⟩:=hm.blk b _ hq
    obtain ⟨u,hu,hrow,hall⟩:=hc i hi
    obtain ⟨rc,e',r1,r2,r3⟩:=hall x0 (by omega) hx0
    have hlt:b<st.heap.length:=(qfZ.1 hq).1
    obtain ⟨v,hv,hr⟩:=hcs.2 0 (.c c) rfl
    have hrun:=vp (P:=P) (j:=j) (v:=a.eval y) hP (by omega) r1 (by omega) hcs.one
    have hlen:(splice rc.toList j (a.eval y).cells.toList).length=rc.size:=by rw [dB _ _ _ (by simp;omega)];simp
    have hgx:g≠x0:=fun e=>by subst e;exact sE hlt (hm.inj _ _ _ hx0 hg)
    obtain ⟨h5,E⟩:=hm.updRow (f':=Dt f i j c) (rc':=(splice rc.toList j (a.eval y).cells.toList).toArray) hq hx0 r1 (by simpa using hlen) (fun E=>by
     refine ⟨hκ,hn,g,cur,e,hg,(setRow_other w x0 g _ hgx).trans hw,hcur,fun i' hi'=>?_⟩
     obtain ⟨u',hu',hrow',hall'⟩:=hc i' hi'
     refine ⟨u',hu',by rw [roZ];exact hrow',fun x1 hpos hx1=>?_⟩
     rw [roZ] at hx1
     obtain ⟨rc1,e1,s1,s2,s3⟩:=hall' x1 hpos hx1
     by_cases hii:i' = i
     ·subst hii
      rw [hx0] at hx1;cases hx1
      rw [r1] at s1;cases s1
      refine ⟨_,e',setRow_heap w x0 rc _ e' _ r1,by simp [hlen];exact r2,fun k' hk'=>?_⟩
      simp only [List.getElem?_toArray]
      rw [eS _ _ _ _ (by simp;omega)]
      by_cases hkj:k' = j
      ·subst hkj
       rw [if_pos (by simp;omega)]
       have e1:Dt f i' k' c i' k' = c:=by unfold Dt;simp
       rw [e1]
       exact ⟨Kd.fits_ok hfit,v,by rw [Nat.sub_self];exact hv,CR.mono E.ok hr⟩
      ·rw [if_neg (by simp;omega)]
       have e1:Dt f i' j c i' k' = f i' k':=by
        unfold Dt
        have:Nat.beq k' j=false:=by
         cases hh:Nat.beq k' j with
         | false=>rfl
         | true=>exact absurd (qbZ hh) hkj
        rw [this];simp
       rw [e1]
       obtain ⟨p1,u1,p2,p3⟩:=s3 k' hk'
       exact ⟨p1,u1,by simpa using p2,CR.mono E.ok p3⟩
     ·have hne:x1≠x0:=fun e=>by subst e;exact hii (HY hlt hlt (hm.inj _ _ _ hx1 hx0)).2
      refine ⟨rc1,e1,(setRow_other w x0 x1 _ hne).trans s1,s2,fun k' hk'=>?_⟩
      have e1:Dt f i j c i' k' = f i' k':=by
       unfold Dt
       have:Nat.beq i' i=false:=by
        cases hh:Nat.beq i' i with
        | false=>rfl
        | true=>exact absurd (qbZ hh) hii
       rw [this];rfl
      rw [e1]
      obtain ⟨p1,u1,p2,p3⟩:=s3 k' hk'
      exact ⟨p1,u1,p2,CR.mono E.ok p3⟩)
    refine lh (w':=w.setRow x0 (splice rc.toList j (a.eval y).cells.toList).toArray) ?_ (hk _ _ .undef _ _ _ h5 (he.ext E) rfl h4)
    simp [execOp,ho,hp,hrun]
   ·cases h2
  ·cases h2
end
end Go.Eng
