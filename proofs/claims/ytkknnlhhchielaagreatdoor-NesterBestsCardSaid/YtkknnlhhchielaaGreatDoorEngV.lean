/-
 Functions that return a slice of their own making;slices.Clone.
-/
import Derived.Test.YtkknnlhhchielaaGreatDoorEngU
import Derived.Lib.SliceRun
set_option linter.all false
namespace Go.Eng
open Go Go.RowKit
variable {df : DF}
def Fy (t:Nat) (r:Kd) (e:Ex) (st:St):Option (Nat × (Nat->Nat->CV)) :=
 match e with
 | .exit _=>none
 | _=>match st.env.getD t .u with
  | .x (.own b 0 len)=>match st.heap[b]? with
   | some (.arr r' _ f)=>bif r'.beq r then some (len,f) else none
   | _=>none
  | .x (.c (.ro true _ 0 f))=>some (0,f)
  | _=>none
def jd (w:World) (r:Kd) (n:Nat) (g:Nat->Nat->CV) (v:Value) (w' : World):Prop :=
 ∃ cap,n<=cap/\cap<=maxLen /\
   ((n=0/\∃ a,v=.slice a 0 0)\/∃ gb cur e,w.heap.size<=gb/\v=.slice (some ⟨gb,0,none⟩) n cap/\w'.heap[gb]?=some (.cells cur e (0,0))/\cur.size=cap*r.len /\
    ∀ i j,i<n->j<r.len->(r.nth j).okP (g i j)/\∃ u,cur[i*r.len+j]?=some u/\CR (fun _=>False) w' (g i j) u)
theorem aZ.of {P:Program} {f:FuncId} {r:Kd} {args:List A} {n:Nat} {g:Nat->Nat->CV} (hok:dq P f=true)
  (h:∀ (w:World) (okA:Nat->Prop) (vs:Array Value),(∀ g,okA g->g<w.heap.size)->eN okA w->ARs okA w args vs ->
   Calls P f vs w fun e w'=>∃ v,e=.returned v/\Below w.heap.size w w'/\jd w r n g v w'):aZ P f r args n g :=
 ⟨hok,fun w okA vs h1 h2 h3=>(h w okA vs h1 h2 h3).mono fun e w' hh=>by
  obtain ⟨v,h4,h5,cap,h6,h7,h8⟩:=hh
  exact ⟨v,cap,h4,h5,h6,h7,h8⟩⟩
theorem jd.congr {w w' : World} {r:Kd} {n:Nat} {g g' : Nat->Nat->CV} {v:Value} (h:jd w r n g v w') (e:∀ i j,i<n->j<r.len->g i j=g' i j):jd w r n g' v w':=by
 obtain ⟨cap,h1,h2,h3⟩:=h
 refine ⟨cap,h1,h2,h3.imp id fun h4=>?_⟩
 obtain ⟨gb,cur,ee,a1,a2,a3,a4,a5⟩:=h4
 refine ⟨gb,cur,ee,a1,a2,a3,a4,fun i j hi hj=>?_⟩
 rw [<- e i j hi hj]
 exact a5 i j hi hj
section
variable {P : Program} {C : ao} {okA : Nat -> Prop} {μ : Nat -> Option Nat} {ok : Nat -> Prop} {st : St} {a : Act} {w w' : World}
theorem Fx (hm:MR ⟨w,fun _=>False⟩ okA μ ok st.heap w') (he:ER ([],[]) μ ok st.heap w' st.env a) {t:Nat} {fn:Func} (hres:lW P [.tmp t] fn.results.toList=true) {r:Kd} (hfl:r.flat=true) (htg:r.tagged=false) {e:Ex} {n:Nat} {g:Nat->Nat->CV}
  (h:Fy t r e st=some (n,g)):(∀ id,e≠.exit id)/\∃ v,(results fn a.tmps).run P w' = .ok v w'/\Below w.heap.size w w'/\jd w r n g v w':=by
 have hne:∀ id,e≠.exit id:=fun id hh=>by subst hh;cases h
 refine ⟨hne,?_⟩
 have hbel:Below w.heap.size w w':=⟨⟨hm.below.os,hm.below.tape,hm.below.output,hm.below.size,fun k hk=>hm.below.block k hk (fun h=>h)⟩,hm.below.drawn⟩
 have hres1:∃ r1,fn.results.toList = [r1]/\EE P (.tmp t) r1=true:=by
  cases hq:fn.results.toList with
  | nil=>rw [hq] at hres;cases hres
  | cons x l =>
   rw [hq] at hres
   simp only [lW,qaZ] at hres
   cases l with
   | nil=>exact ⟨x,rfl,hres.1⟩
   | cons y l=>cases hres.2
 obtain ⟨r1,hl1,hr1⟩:=hres1
 have run:∀ y u,(dg a.tmps r1).run P w' = .ok u w'->VR μ ok w' st.heap y u->(results fn a.tmps).run P w' = .ok u w':=by
  intro y u h1 _
  have hrw:results fn a.tmps=(do
    let vs <- fn.results.mapM (dg a.tmps)
    pure (if h:vs.size=1 then vs[0] else .tuple vs)):=by
   unfold results
   have:(fun | .tmp t=>pure (a.tmps.getD t undef) | .cell x t=>do loadVar t (<- asAddr (a.tmps.getD x undef)):ResultVar->Sem Value)=dg a.tmps:=by funext v;cases v<;>rfl
   rw [<- this]
   rfl
  have hrun:(fn.results.mapM (dg a.tmps)).run P w' = .ok #[u] w':=by
   rw [Array.mapM_eq_mapM_toList,map_eq_pure_bind,Sem.run_bind,hl1,List.mapM_cons]
   simp [Sem.run_bind,h1]
  rw [hrw,Sem.run_bind,hrun]
  rfl
 have hh:(match st.env.getD t .u with
  | .x (.own b 0 len)=>match st.heap[b]? with
   | some (.arr r' _ f)=>bif r'.beq r then some (len,f) else none
   | _=>none
  | .x (.c (.ro true _ 0 f))=>some (0,f)
  | _=>none)=some (n,g):=by
  cases e with
  | exit id=>exact absurd rfl (hne id)
  | normal=>exact h
  | ret=>exact h
 split at hh
 ·rename_i b len hv
  split at hh
  ·rename_i r' N f hb
   obtain ⟨hbe,hh⟩:=ah hh
   cases hh
   have hre:=Kd.eq_of_beq hbe
   subst hre
   obtain ⟨u,h1,h2⟩:=sF hm he hr1 (y:=.x (.own b 0 n)) (by simp only [Gl,hv]) (by simp)
   refine ⟨u,run _ u h1 h2,hbel,?_⟩
   obtain ⟨_,h2⟩:=h2
   rw [hb] at h2
   obtain ⟨hle,al,cap,rfl,hlc,hcm,hcase⟩:=h2
   refine ⟨cap,hlc,hcm,?_⟩
   rcases hcase with ⟨h3,h4⟩ | ⟨gb,cur,ee,hg,ha,hw,hsz⟩
   ·subst h3;subst h4;exact .inl ⟨rfl,al,rfl⟩
   ·rw [Nat.zero_mul] at ha
    subst ha
    rw [rlZ] at hsz hle
    refine .inr ⟨gb,cur,ee,?_,rfl,hw,hsz,fun i j hi hj=>?_⟩
    ·rcases (hm.fresh b gb hg).1 with h | h
     ·exact h
     ·exact h.elim
    ·obtain ⟨_,hblk⟩:=hm.blk b _ hb
     rcases hblk with ⟨h5,h6⟩ | ⟨g2,cur2,e2,hg2,hw2,_,hrows⟩
     ·omega
     ·rw [hg] at hg2;cases hg2
      rw [hw] at hw2;cases hw2
      obtain ⟨h7,u,h8,h9⟩:=hrows i j (by omega) hj
      exact ⟨h7,u,h8,CR.scalar (Kd.flat_scalar _ j _ hfl hj h7) h9⟩
  ·cases hh
 ·rename_i r' f hv
  cases hh
  obtain ⟨u,h1,h2⟩:=sF hm he hr1 (y:=.x (.c (.ro true r' 0 g))) (by simp only [Gl,hv]) (by simp)
  obtain ⟨al,cap,rfl,_,_,hf,_⟩:=h2
  have:=hf rfl
  subst this
  exact ⟨_,run (.x (.c (.ro true r' 0 g))) _ h1 ⟨al,0,rfl,rkZ _,Nat.zero_le _,fun _=>rfl,.inl rfl⟩,hbel,0,rkZ _,Nat.zero_le _,.inl ⟨rfl,al,rfl⟩⟩
 ·cases hh
end
def D2 (t e:TypeId) (r:Kd) (bytes:Nat) (zs:List V0):AF:=⟨8,[.tmp 2],
 (.seq (.region 0 [o1 2 (.assign (.const (.slice none 0 0)))] 0 none) []
 (.seq (.seq (.region 1 [mv 3 0,o1 4 (.binOp .eql t (tm 3) (.const (.slice none 0 0)) t)] 0 none) []
 (.cond (tm 4)
 (.seq (.region 2 [o1 2 (.assign (.const (.slice none 0 0)))] 0 none) []
  (.ret (0::1::(rl 3 5 []))))
 .skip)) [2,3,4]
 (.seq (.region 3 [o1 5 (.buildSlice 0 t e r 0 zs []),mv 6 0,o1 7 (.append 1 t e r bytes (tm 5) (tm 6)),o1 2 (.assign (tm 7))] 2 none) []
 (.ret (0::1::(rl 3 5 []))))))⟩
theorem Ak {P:Program} {C:ao} (hmix:P.follows .mixedOrders=true) (hC:az P C) {f:FuncId} {t e:TypeId} {r:Kd} {bytes:Nat} {zs:List V0} (hF:cd P f (D2 t e r bytes zs)) (hfl:r.flat=true) (htg:r.tagged=false)
  (hu:P.underlying t=some (.slice e)) (n:Nat) (g:Nat->Nat->CV) (fl:Bool)
  (run1:aS C 2 (.seq (.cond (tm 4) (.seq (.region 2 [o1 2 (.assign (.const (.slice none 0 0)))] 0 none) [] (.ret (0::1::(rl 3 5 [])))) .skip) [2,3,4]
   (.seq (.region 3 [o1 5 (.buildSlice 0 t e r 0 zs []),mv 6 0,o1 7 (.append 1 t e r bytes (tm 5) (tm 6)),o1 2 (.assign (tm 7))] 2 none) [] (.ret (0::1::(rl 3 5 [])))))
   ⟨[.x (.c (.ro fl r n g)),.undef,.x (.c (.ro true .nil 0 (fun _ _=>.any))),.x (.c (.ro fl r n g)),bl true,.undef,.undef,.undef],[]⟩ (Fy 2 r)=some (0,fun _ _=>.any))
  (run2:aS C 2 (.seq (.cond (tm 4) (.seq (.region 2 [o1 2 (.assign (.const (.slice none 0 0)))] 0 none) [] (.ret (0::1::(rl 3 5 [])))) .skip) [2,3,4]
   (.seq (.region 3 [o1 5 (.buildSlice 0 t e r 0 zs []),mv 6 0,o1 7 (.append 1 t e r bytes (tm 5) (tm 6)),o1 2 (.assign (tm 7))] 2 none) [] (.ret (0::1::(rl 3 5 [])))))
   ⟨[.x (.c (.ro fl r n g)),.undef,.x (.c (.ro true .nil 0 (fun _ _=>.any))),.x (.c (.ro fl r n g)),bl false,.undef,.undef,.undef],[]⟩ (Fy 2 r)=some (0+n,aB 0 (aG r.len []) g)) :
  aZ P f r [.v (.ro fl r n g)] n g:=by
 refine aZ.of hF.ok fun w okA vs hok hgl hargs=>?_
 obtain ⟨fn,c,hfn,hbody,hn,hres,hfits⟩:=hF.fn
 refine calls_of_wp hfn hbody ?_
 have hm:MR ⟨w,fun _=>False⟩ okA (fun _=>none) okA ([]:List Blk) w:=⟨⟨rfl,rfl,rfl,rkZ _,fun _ _ _=>rfl,fun _ h=>h.elim,rkZ _⟩,fun g hg=>⟨hok g hg,.inl hg⟩,fun g hg=>hg,(fun b g hg=>by cases hg),(fun b b' g hg=>by cases hg),(fun b o hb=>by simp at hb),(fun b g r n f hb=>by simp at hb)⟩
 obtain ⟨hsz,hat⟩:=hargs
 obtain ⟨u0,hu0,hcr⟩:=hat 0 _ rfl
 have hsz:vs.size=1:=hsz
 have hcr:CR okA w (.ro fl r n g) u0:=hcr
 have hn:fn.ntmps=8:=hn
 have he:ER ([],[]) (fun _=>none) okA ([]:List Blk) w [.x (.c (.ro fl r n g)),.undef,.undef,.undef,.undef,.undef,.undef,.undef] { tmps:=vs ++ Array.replicate (fn.ntmps-vs.size) undef,defers:=[] }:=by
  refine ⟨by simp [hsz,hn],fun t v ht=>?_,⟨rfl,fun _ h=>by cases h⟩,hgl⟩
  cases t with
  | zero =>
   simp at ht;subst ht
   exact ⟨u0,by rw [qlZ (by omega)];exact hu0,hcr⟩
  | succ t =>
   have hlt:t<7:=by
    have:=(qfZ.1 ht).1
    simp at this;omega
   refine ⟨undef,?_,?_⟩
   ·rw [qtZ (by omega),Array.getElem?_replicate,if_pos (by omega)]
   ·match t,hlt with
    | 0,_=>simp at ht;subst ht;rfl
    | 1,_=>simp at ht;subst ht;rfl
    | 2,_=>simp at ht;subst ht;rfl
    | 3,_=>simp at ht;subst ht;rfl
    | 4,_=>simp at ht;subst ht;rfl
    | 5,_=>simp at ht;subst ht;rfl
    | 6,_=>simp at ht;subst ht;rfl
 obtain ⟨c0,c1,rfl,hf0,c2,c3,rfl,hf2,hf3⟩:=(show ∃ x y,c=.seq x y/\jp P (.region 0 [o1 2 (.assign (.const (.slice none 0 0)))] 0 none) x/\∃ c2 c3,y=.seq c2 c3/\jp P _ c2/\jp P _ c3 from hfits)
 obtain ⟨c4,c5,rfl,hf4,hf5⟩:=(show ∃ x y,c2=.seq x y/\jp P (.region 1 _ 0 none) x/\jp P _ y from hf2)
 refine wp_seq (e9 (okA:=okA) (r:=((.normal,⟨[.x (.c (.ro fl r n g)),.undef,.x (.c (.ro true .nil 0 (fun _ _=>.any))),.undef,.undef,.undef,.undef,.undef],[]⟩):Ex × St)) (k:=fun e s=>some (e,s)) hmix hC 2 _ c0 hf0
  (st:=⟨[.x (.c (.ro fl r n g)),.undef,.undef,.undef,.undef,.undef,.undef,.undef],[]⟩) hm he (fun e1 μ ok st a w1 hm he hk=>?_) rfl)
 cases hk
 refine wp_seq (wp_seq ?_)
 obtain ⟨id,ops,rfl,hr,_⟩:=hf4
 have hl2:ops.size=2:=hr.len.symm
 refine (wpIn_wide (n:=0)).1 (wpIn_region (F:=wd none) ?_)
 rw [hl2]
 show wpOpsIn (wd none) 0 P ops _ [0,1] a w1
 obtain ⟨o0,ho0,hfo0⟩:=hr.at_ 0 (mv 3 0) rfl
 obtain ⟨o1',ho1,hfo1⟩:=hr.at_ 1 (o1 4 (.binOp .eql t (tm 3) (.const (.slice none 0 0)) t)) rfl
 rw [wpOpsIn_cons]
 refine dP (df:=([],[])) (okA:=okA) (hb:=0) (r:=(⟨[.x (.c (.ro fl r n g)),.undef,.x (.c (.ro true .nil 0 (fun _ _=>.any))),.x (.c (.ro fl r n g)),.undef,.undef,.undef,.undef],[]⟩:St)) (k:=some) hC hm he ho0 hfo0 (fun q hq=>by cases hq) (fun μ ok st a w2 hm he hk=>?_) rfl
 cases hk
 rw [wpOpsIn_cons]
 unfold wpOpIn
 rw [ho1]
 dsimp only
 have hg1:o1'.guard=none:=by
  have:=hfo1.guard
  unfold jE at this
  cases ho:o1'.guard with
  | none=>rfl
  | some p=>rw [ho] at this;cases this
 rw [if_pos (by simp [Region.wanted,hg1])]
 refine A2 (fun c=>by rw [hfo1.op];exact Ag _ c) ?_
 obtain ⟨u3,hu3,al,cap,rfl,hle,hcm,hfu,hrow⟩:=he.env 3 (.x (.c (.ro fl r n g))) rfl
 have hev3:=jK hu3
 have hop1:o1'.op=.binOp .eql t (tm 3) (.const (.slice none 0 0)) t:=hfo1.op
 have hrun:(execOp a.eval o1').run P w2=.ok (.value (.bool al.isNone)) w2:=by
  have:=Lib.run_eql_slice_nil w2 t e al n cap 0 0 hu
  have hev3:a.eval (tm 3)=_:=hev3
  simp only [execOp,hop1,hev3]
  have hc:a.eval (.const (.slice none 0 0))=.slice none 0 0:=rfl
  rw [hc]
  have hgd:eqGuard .eql t (tm 3) (.const (.slice none 0 0)) (.slice al n cap) (.slice none 0 0)=pure ():=rfl
  rw [hgd]
  simp [this]
 have hd1:o1'.dst=some 4:=hfo1.dst
 have fin:∀ (b:Bool) n' g',aS C 2 (.seq (.cond (tm 4) (.seq (.region 2 [o1 2 (.assign (.const (.slice none 0 0)))] 0 none) [] (.ret (0::1::(rl 3 5 [])))) .skip) [2,3,4]
   (.seq (.region 3 [o1 5 (.buildSlice 0 t e r 0 zs []),mv 6 0,o1 7 (.append 1 t e r bytes (tm 5) (tm 6)),o1 2 (.assign (tm 7))] 2 none) [] (.ret (0::1::(rl 3 5 [])))))
   ⟨[.x (.c (.ro fl r n g)),.undef,.x (.c (.ro true .nil 0 (fun _ _=>.any))),.x (.c (.ro fl r n g)),bl b,.undef,.undef,.undef],[]⟩ (Fy 2 r)=some (n',g')->n' = n->(∀ i j,i<n->j<r.len->g' i j=g i j) ->
   c5.wp P (Exit.then (c3.wp P (bodyPost P fn fun e w'=>∃ v,e=.returned v/\Below w.heap.size w w'/\jd w r n g v w')) (bodyPost P fn fun e w'=>∃ v,e=.returned v/\Below w.heap.size w w'/\jd w r n g v w')) (a.put (some 4) (.bool b)) w2:=by
  intro b n' g' hrun' hn' hg'
  subst hn'
  have he4:ER ([],[]) μ ok ([]:List Blk) w2 ([.x (.c (.ro fl r n' g)),.undef,.x (.c (.ro true .nil 0 (fun _ _=>.any))),.x (.c (.ro fl r n' g)),bl b,.undef,.undef,.undef]) (a.put (some 4) (.bool b)) :=
   he.put (d:=4) (v:=bl b) (u:=.bool b) (fun q hq=>by cases hq) rfl
  rw [aS] at hrun'
  refine e9 (okA:=okA) hmix hC 2 _ c5 hf5 (st:=⟨[.x (.c (.ro fl r n' g)),.undef,.x (.c (.ro true .nil 0 (fun _ _=>.any))),.x (.c (.ro fl r n' g)),bl b,.undef,.undef,.undef],[]⟩) hm he4 (fun e1 μ ok st a w' hm he hk=>?_) hrun'
  have post:∀ (e2:Ex) (μ:Nat->Option Nat) (ok:Nat->Prop) (st:St) (a:Act) (w' : World),MR ⟨w,fun _=>False⟩ okA μ ok st.heap w'->ER ([],[]) μ ok st.heap w' st.env a->Fy 2 r e2 st=some (n',g') ->
    bodyPost P fn (fun e w'=>∃ v,e=.returned v/\Below w.heap.size w w'/\jd w r n' g v w') (mA e2) a w':=by
   intro e2 μ ok st a w' hm he hk
   obtain ⟨hne,v,h1,h2,h3⟩:=Fx hm he hres hfl htg hk
   cases e2 with
   | exit id=>exact absurd rfl (hne id)
   | normal=>exact ⟨he.defers.1,v,h1,v,rfl,h2,h3.congr hg'⟩
   | ret=>exact ⟨he.defers.1,v,h1,v,rfl,h2,h3.congr hg'⟩
  cases e1 with
  | normal=>exact e9 (okA:=okA) hmix hC 2 _ c3 hf3 (st:=st.kill [2,3,4]) hm (he.kill _) post hk
  | exit id=>cases hk
  | ret=>exact post .ret μ ok st a w' hm he hk
 refine dK hrun ?_
 rw [hd1]
 show c5.wp P _ (a.put (some 4) (.bool al.isNone)) w2
 cases hal:al with
 | none =>
  have h0:n=0:=by
   rcases hrow with h | ⟨g1,off,h,_⟩
   ·exact h
   ·rw [hal] at h;cases h
  refine fin true 0 _ run1 h0.symm (fun i j hi=>by omega)
 | some x =>
  refine fin false (0+n) _ run2 (by omega) (fun i j hi hj=>?_)
  have e0:Nat.blt i 0=false:=by cases i<;>rfl
  show (bif Nat.blt i 0 then aG r.len [] i j else g (i-0) j)=g i j
  rw [e0];rfl
def Tk (R:Kd) (g:Nat->CV):Prop:=∀ j,j<R.len->(R.nth j).okP (g j)/\(g j).wf
theorem Mg {R:Kd} {l:List CV} (hl:l.length=R.len) (hk:∀ (j:Nat) (c:CV),l[j]?=some c->(R.nth j).okP c/\c.wf):Tk R (au l):=by
 intro j hj
 have:l[j]?=some (l[j]'(by omega)):=by simp
 have e:au l j=l[j]'(by omega):=by unfold au;rw [qdZ,this];rfl
 rw [e]
 exact hk j _ this
def Kd.chain:Kd->Bool
 | .nil=>true
 | .pr _ r=>r.chain
 | _=>false
theorem Kd.beq_rfl:∀ a:Kd,a.beq a=true
 | .nil=>rfl
 | .int k=>by simp [Kd.beq,jP]
 | .bool=>rfl
 | .str=>rfl
 | .oth=>rfl
 | .sl r=>by simp [Kd.beq,Kd.beq_rfl r]
 | .pr a r=>by simp [Kd.beq,Kd.beq_rfl a,Kd.beq_rfl r]
theorem Ov {κ:Kd} {c:CV} (h:κ.okP c):Fv κ c=true:=by
 cases κ<;>simp only [Kd.okP] at h
 case int k=>obtain ⟨n,rfl⟩:=h;exact Kd.beq_rfl _
 case bool=>obtain ⟨n,rfl⟩:=h;rfl
 case str=>obtain ⟨n,rfl⟩:=h;rfl
 case sl r=>obtain ⟨fl,n,f,rfl⟩:=h;simp [Fv,Kd.beq_rfl]
 all_goals (cases c<;>rfl)
theorem Fu:∀ {R:Kd} {l:List CV},R.chain=true->l.length=R.len->(∀ (j:Nat) (c:CV),l[j]?=some c->(R.nth j).okP c/\c.wf)->Ae R l=true
 | .nil,[],_,_,_=>rfl
 | .nil,_::_,_,h,_=>by simp [Kd.len] at h
 | .pr a r,[],_,h,_=>by simp [Kd.len] at h
 | .pr a r,c::l,hc,h,hk=>by
  simp only [Ae,qaZ]
  refine ⟨Ov (hk 0 c rfl).1,Fu hc (by simpa [Kd.len] using h) fun j d hd=>?_⟩
  exact hk (j+1) d (by simpa using hd)
 | .int _,_,hc,_,_=>by cases hc
 | .bool,_,hc,_,_=>by cases hc
 | .str,_,hc,_,_=>by cases hc
 | .oth,_,hc,_,_=>by cases hc
 | .sl _,_,hc,_,_=>by cases hc
end Go.Eng
