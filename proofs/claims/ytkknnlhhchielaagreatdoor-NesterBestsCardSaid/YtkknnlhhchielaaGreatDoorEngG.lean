/-
 Several texts in one.
-/
import Derived.ChangeKeysEq
import Derived.Test.YtkknnlhhchielaaGreatDoorEngF
set_option linter.all false
/-
 Operations,part 3: those that leave the memory alone.
-/
namespace Go.Eng
open Go Go.RowKit
variable {df : DF}
section
variable {ρ : Type} {P : Program} {C : ao} {hb : Nat} {w0 : cD} {okA : Nat -> Prop} {μ : Nat -> Option Nat} {ok : Nat -> Prop} {st : St} {a : Act} {w : World}
 {o:Oper} {k:V->St->Option ρ} {r:ρ} {next:Act->World->Prop} {Q:Exit->Act->World->Prop}
theorem mu {i:Int} {n:Nat} (h:inb i n=true):0<=i/\i<(n:Int):=by
 simpa [inb] using h
theorem Kr {i:Int} {n:Nat} (h:oH i n=true):0<=i/\i<=(n:Int):=by
 simpa [oH] using h
theorem jg {t:TypeId} {cs:Array Value} {off:Nat} {u:Value} (h:eD P t none=true) (hu:cs[off]?=some u):(part t cs off).run P w=.ok u w:=by
 simp [part,BS h,hu]
theorem CH {t:TypeId} {cs:Array Value} {off m:Nat} (h:eD P t (some m)=true):(part t cs off).run P w=.ok (.agg (cs.extract off (off+m))) w:=by
 simp [part,(mN h).1,(mN h).2]
theorem Bn {t:TypeId} {cs:Array Value} {off:Nat} {m:Option Nat} {l:List V0} {v:V} (hagg:eD P t m=true) (hs:cs.size=l.length)
  (hc:∀ (t:Nat) (c:V0),l[t]?=some c->∃ u,cs[t]?=some u/\V0R μ ok w st.heap c u) (h:rN l off m=some v) :
  ∃ u,(part t cs off).run P w=.ok u w/\VR μ ok w st.heap v u:=by
 unfold rN at h
 cases m with
 | none =>
  dsimp only at h
  split at h
  ·rename_i y hy
   cases h
   obtain ⟨u,hu,hr⟩:=hc off y hy
   exact ⟨u,jg hagg hu,hr⟩
  ·cases h
 | some m =>
  obtain ⟨h1,h2⟩:=ah h
  cases h2
  have h1:=qpZ h1
  refine ⟨.agg (cs.extract off (off+m)),CH hagg,_,rfl,by simp;omega,fun t c ht=>?_⟩
  rw [List.getElem?_take] at ht
  split at ht
  ·rename_i htm
   rw [List.getElem?_drop] at ht
   obtain ⟨u,hu,hr⟩:=hc _ c ht
   refine ⟨u,?_,hr⟩
   rw [Array.getElem?_extract]
   have:=(qqZ.1 hu).1
   rw [if_pos (by omega)];exact hu
  ·cases ht
theorem M8 (hm:MR w0 okA μ ok st.heap w) (he:ER df μ ok st.heap w st.env a) (hk:dD df w0 okA a k r fun u w=>next (a.put o.dst u) w)
  {t:TypeId} {x:Operand} {fi off:Nat} {m:Option Nat} (ho:o.op=.field t x fi) (hP:(AOp.field t x fi off m).okP P=true) (h:aj C hb st (.field t x fi off m) k=some r):o.wp P a w next Q:=by
 have hx:=aF he x
 simp only [aj] at h
 split at h
 ·rename_i l hv
  rw [hv] at hx
  obtain ⟨cs,hp,hs,hc⟩:=hx
  simp only [AOp.okP] at hP
  split at hP
  ·rename_i fields hu
   split at hP
   ·rename_i f hf
    rw [qaZ] at hP
    have hoff:=qbZ hP.1
    split at h
    ·rename_i v hpv
     obtain ⟨u,h1,h2⟩:=Bn hP.2 hs hc hpv
     exact aP hm he hk (u:=u) (by simp [execOp,ho,hp,Instr.field,run_underlying hu,hf,asAgg,hoff,h1]) h2 h
    ·cases h
   ·cases hP
  ·cases hP
 ·cases h
theorem DK (hm:MR w0 okA μ ok st.heap w) (he:ER df μ ok st.heap w st.env a) (hk:dD df w0 okA a k r fun u w=>next (a.put o.dst u) w)
  {t e:TypeId} {esz:Nat} {x i:Operand} (ho:o.op=.indexAddr t x i) (hP:(AOp.indexAddr t e esz x i).okP P=true) (h:aj C hb st (.indexAddr t e esz x i) k=some r):o.wp P a w next Q:=by
 have hx:=aF he x
 have hi:=aF he i
 simp only [AOp.okP,qaZ] at hP
 have hu:=ju hP.1
 have hsz:=jv (w:=w) hP.2
 simp only [aj] at h
 split at h
 ·rename_i kd n hiv
  rw [hiv] at hi
  have hi:a.eval i=.int kd n:=hi
  split at h
  ·rename_i fl rr len f hxv
   rw [hxv] at hx
   obtain ⟨ad,cap,hp,hc1,hc2,_,hc4⟩:=hx
   obtain ⟨h1,h⟩:=ah h
   obtain ⟨h2,h⟩:=ah h
   have h1:=qbZ h1
   obtain ⟨h3,h4⟩:=mu h2
   rcases hc4 with h5 | ⟨g,off,rfl,hg,hrow⟩
   ·omega
   ·have hv' : CR ok w (.rp rr (f n.toNat)) (.pointer (some ⟨g,off+n.toNat*esz,none⟩)):=by
     refine ⟨g,_,rfl,hg,fun j hj=>?_⟩
     obtain ⟨hk,u,hu,hr⟩:=hrow n.toNat j (by omega) hj
     exact ⟨hk,u,by rw [<- h1];exact hu,hr⟩
    exact aP hm he hk (u:=.pointer (some ⟨g,off+n.toNat*esz,none⟩)) (v:=.x (.c (.rp rr (f n.toNat))))
     (by simp [execOp,ho,hp,hi,Instr.indexAt,run_underlying hu,asIntOf,h3,h4,hsz,jz]) hv' h
  ·rename_i b off len hxv
   rw [hxv] at hx
   obtain ⟨h1,hp⟩:=hx
   split at h
   ·rename_i rr n' f hq
    rw [hq] at hp
    obtain ⟨hle,ad,cap,hp,hc1,hc2,hown⟩:=hp
    obtain ⟨h1,h⟩:=ah h
    obtain ⟨h2,h⟩:=ah h
    have h1:=qbZ h1
    obtain ⟨h3,h4⟩:=mu h2
    rcases hown with ⟨h5,_⟩ | ⟨g,cur,e',hg,rfl,hw,hsz'⟩
    ·omega
    ·have hv' : V0R μ ok w st.heap (.aptr b (off+n.toNat) 0) (.pointer (some ⟨g,off*rr.len+n.toNat*esz,none⟩)) :=
      ⟨rfl,by rw [hq];exact ⟨by omega,g,hg,by rw [<- h1,Nat.add_mul];rfl⟩⟩
     exact aP hm he hk (u:=.pointer (some ⟨g,off*rr.len+n.toNat*esz,none⟩)) (v:=.x (.aptr b (off+n.toNat) 0))
      (by simp [execOp,ho,hp,hi,Instr.indexAt,run_underlying hu,asIntOf,h3,h4,hsz,jz]) hv' h
   ·rename_i κ n' ln f hq
    rw [hq] at hp
    obtain ⟨rfl,rfl,hn,g,hg,hp⟩:=hp
    obtain ⟨h1,hA⟩:=ah h
    obtain ⟨h2,hB⟩:=ah hA
    have h1:=qbZ h1
    subst h1
    obtain ⟨h3,h4⟩:=mu h2
    have hv' : V0R μ ok w st.heap (.aptr b n.toNat 0) (.pointer (some ⟨g,n.toNat,none⟩)):=⟨rfl,by rw [hq];exact ⟨by omega,g,hg,rfl⟩⟩
    exact aP hm he hk (u:=.pointer (some ⟨g,n.toNat,none⟩)) (v:=.x (.aptr b n.toNat 0))
     (by simp [execOp,ho,hp,hi,Instr.indexAt,run_underlying hu,asIntOf,h3,h4,hsz,jz]) hv' hB
   ·cases h
  ·rename_i b i' hxv
   rw [hxv] at hx
   obtain ⟨h1,hp⟩:=hx
   split at h
   ·rename_i κ n' ln f hq
    rw [hq] at hp
    obtain ⟨hi',ad,cap,hp,hc1,hc2,hown⟩:=hp
    obtain ⟨h1,hA⟩:=ah h
    obtain ⟨h2,hB⟩:=ah hA
    have h1:=qbZ h1
    subst h1
    obtain ⟨h3,h4⟩:=mu h2
    rcases hown with h5 | ⟨g,hg,rfl⟩
    ·omega
    ·have hv' : V0R μ ok w st.heap (.mptr b i' n.toNat) (.pointer (some ⟨g,n.toNat,none⟩)):=⟨rfl,by rw [hq];exact ⟨hi',by omega,g,hg,rfl⟩⟩
     exact aP hm he hk (u:=.pointer (some ⟨g,n.toNat,none⟩)) (v:=.x (.mptr b i' n.toNat))
      (by simp [execOp,ho,hp,hi,Instr.indexAt,run_underlying hu,asIntOf,h3,h4,hsz,jz]) hv' hB
   ·cases h
  ·cases h
 ·cases h
theorem Cj (hm:MR w0 okA μ ok st.heap w) (he:ER df μ ok st.heap w st.env a) (hk:dD df w0 okA a k r fun u w=>next (a.put o.dst u) w)
  {t e:TypeId} {ln esz:Nat} {x i:Operand} (ho:o.op=.indexAddr t x i) (hP:(AOp.indexAddrA t e ln esz x i).okP P=true) (h:aj C hb st (.indexAddrA t e ln esz x i) k=some r):o.wp P a w next Q:=by
 have hx:=aF he x
 have hi:=aF he i
 simp only [AOp.okP,qaZ] at hP
 obtain ⟨hP1,hP2⟩:=hP
 have hsz:=jv (w:=w) hP2
 split at hP1
 ·rename_i n0 e0 hu
  rw [qaZ] at hP1
  have hn:=qbZ hP1.1
  have hee:=qbZ hP1.2
  subst hn hee
  have main:∀ (g j:Nat) (v:V) (kd:IntKind) (n:Int),a.eval i=.int kd n->inb n ln=true->a.eval x=.pointer (some ⟨g,j,none⟩)->VR μ ok w st.heap v (.pointer (some ⟨g,j+n.toNat*esz,none⟩))->k v st=some r->o.wp P a w next Q:=by
   intro g j v kd n hi hin h1 h3 h4
   obtain ⟨h5,h6⟩:=mu hin
   exact aP hm he hk (u:=.pointer (some ⟨g,j+n.toNat*esz,none⟩))
     (by simp [execOp,ho,h1,hi,Instr.indexAt,run_underlying hu,asIntOf,Instr.sureAddr,h5,h6,hsz,jz]) h3 h4
  simp only [aj] at h
  split at h
  ·rename_i kd n hiv
   rw [hiv] at hi
   have hi:a.eval i=.int kd n:=hi
   split at h
   ·rename_i b j hxv
    rw [hxv] at hx
    have h:=eY h
    obtain ⟨_,hp⟩:=hx
    obtain ⟨h1,h⟩:=ah h
    rw [qaZ] at h1
    obtain ⟨hlive,h1⟩:=h1
    unfold jZ at hlive
    split at hlive
    ·rename_i cs hq
     rw [hq] at hp
     obtain ⟨g,hg,hp⟩:=hp
     have hv' : V0R μ ok w st.heap (.ptr b (j+n.toNat*esz)) (.pointer (some ⟨g,j+n.toNat*esz,none⟩)):=⟨rfl,by rw [hq];exact ⟨g,hg,rfl⟩⟩
     exact main g j (.x (.ptr b (j+n.toNat*esz))) kd n hi h1 hp hv' h
    ·cases hlive
   ·rename_i b i' j hxv
    rw [hxv] at hx
    have h:=eY h
    obtain ⟨_,hp⟩:=hx
    obtain ⟨h1,h⟩:=ah h
    rw [qaZ] at h1
    obtain ⟨hlive,h1⟩:=h1
    unfold j5 at hlive
    split at hlive
    ·rename_i rr n' f hq
     rw [hq] at hp
     obtain ⟨hi',g,hg,hp⟩:=hp
     have hv' : V0R μ ok w st.heap (.aptr b i' (j+n.toNat*esz)) (.pointer (some ⟨g,i'*rr.len+j+n.toNat*esz,none⟩)):=⟨rfl,by rw [hq];exact ⟨hi',g,hg,by rw [Nat.add_assoc]⟩⟩
     exact main g _ (.x (.aptr b i' (j+n.toNat*esz))) kd n hi h1 hp hv' h
    ·cases hlive
   ·rename_i rr f hxv
    rw [hxv] at hx
    have h:=eY h
    obtain ⟨g,base,hp,hg,hrow⟩:=hx
    obtain ⟨h1,h⟩:=ah h
    have hv' : CR ok w (.rp (rr.drop (n.toNat*esz)) (mC (n.toNat*esz) f)) (.pointer (some ⟨g,base+n.toNat*esz,none⟩)):=by
     refine ⟨g,_,rfl,hg,fun j hj=>?_⟩
     rw [vq,Kd.drop_nth _ rr j hj]
     obtain ⟨hk,u,hu,hr⟩:=hrow (n.toNat*esz+j) (Kd.drop_len' rr _ j hj)
     exact ⟨hk,u,by rw [Nat.add_assoc];exact hu,hr⟩
    exact main g base (.x (.c (.rp (rr.drop (n.toNat*esz)) (mC (n.toNat*esz) f)))) kd n hi h1 hp hv' h
   ·cases h
  ·cases h
 ·cases hP1
theorem M7 (hm:MR w0 okA μ ok st.heap w) (he:ER df μ ok st.heap w st.env a) (hk:dD df w0 okA a k r fun u w=>next (a.put o.dst u) w)
  {t e:TypeId} {ln esz:Nat} {m:Option Nat} {x i:Operand} (ho:o.op=.index t x i) (hP:(AOp.index t e ln esz m x i).okP P=true) (h:aj C hb st (.index t e ln esz m x i) k=some r):o.wp P a w next Q:=by
 have hx:=aF he x
 have hi:=aF he i
 simp only [AOp.okP,qaZ] at hP
 obtain ⟨⟨hP1,hP2⟩,hP3⟩:=hP
 have hsz:=jv (w:=w) hP2
 split at hP1
 ·rename_i n0 e0 hu
  rw [qaZ] at hP1
  have hn:=qbZ hP1.1
  have hee:=qbZ hP1.2
  subst hn hee
  simp only [aj] at h
  split at h
  ·rename_i kd n hiv
   rw [hiv] at hi
   have hi:a.eval i=.int kd n:=hi
   split at h
   ·rename_i l hxv
    rw [hxv] at hx
    have h:=eY h
    obtain ⟨cs,hp,hs,hc⟩:=hx
    obtain ⟨h1,h⟩:=ah h
    obtain ⟨h5,h6⟩:=mu h1
    split at h
    ·rename_i v hpv
     obtain ⟨u,h2,h3⟩:=Bn hP3 hs hc hpv
     exact aP hm he hk (u:=u) (by simp [execOp,ho,hp,hi,Instr.index,run_underlying hu,asIntOf,h5,h6,hsz,h2]) h3 h
    ·cases h
   ·cases h
  ·cases h
 ·cases hP1
theorem Kn {op:BinOp} {kd:IntKind} {x y:Int} {v:V} {t:TypeId} (h:Fn op kd x y=some v) :
  ∃ u,(binOp op t (.int kd x) (.int kd y)).run P w=.ok u w/\VR μ ok w st.heap v u:=by
 unfold Fn at h
 split at h<;>first | cases h | skip
 all_goals refine ⟨_,?_,rfl⟩
 all_goals first
  | (rw [binOp_and,intBits_and];rfl)
  | (rw [binOp_or,intBits_or];rfl)
  | (rw [binOp_xor,intBits_xor];rfl)
  | simp [binOp,Op.intArith,Op.intCmp]
theorem JN {op:BinOp} {x y:ByteArray} {v:V} {t:TypeId} (h:Ep op x y=some v) :
  ∃ u,(binOp op t (.string x) (.string y)).run P w=.ok u w/\VR μ ok w st.heap v u:=by
 unfold Ep at h
 split at h<;>first | cases h | skip
 all_goals exact ⟨_,by simp [binOp,Op.stringOp],rfl⟩
theorem Nd (hm:MR w0 okA μ ok st.heap w) (he:ER df μ ok st.heap w st.env a) (hk:dD df w0 okA a k r fun u w=>next (a.put o.dst u) w)
  {op:BinOp} {t yt:TypeId} {x y:Operand} (ho:o.op=.binOp op t x y yt) (h:aj C hb st (.binOp op t x y yt) k=some r):o.wp P a w next Q:=by
 have hx:=aF he x
 have hy:=aF he y
 simp only [aj] at h
 split at h
 ·rename_i k1 n1 k2 n2 hxv hyv
  rw [hxv] at hx
  rw [hyv] at hy
  have hx:a.eval x=.int k1 n1:=hx
  have hy:a.eval y=.int k2 n2:=hy
  obtain ⟨h1,h0⟩:=ah h
  clear h
  have:=eX h1
  subst this
  have h:=h0
  clear h0
  have main:∀ (v:V) (u:Value),(binOp op t (.int k1 n1) (.int k1 n2)).run P w=.ok u w->VR μ ok w st.heap v u->k v st=some r->o.wp P a w next Q:=by
   intro v u h1 h2 h3
   refine aP hm he hk (u:=u) ?_ h2 h3
   have hg:eqGuard op t x y (.int k1 n1) (.int k1 n2)=pure ():=eqGuard_at_int ..
   simp [execOp,ho,hx,hy,hg,h1]
  split at h
  ·cases hz:(n2==0) with
   | true=>rw [hz] at h;cases h
   | false =>
    rw [hz] at h
    have hz:n2≠0:=by simpa using hz
    exact main (.x (.c (.i k1 (k1.wrap (n1.tdiv n2))))) (.int k1 (k1.wrap (n1.tdiv n2))) (by simp [binOp,Op.intDiv,hz]) rfl h
  ·cases hz:(n2==0) with
   | true=>rw [hz] at h;cases h
   | false =>
    rw [hz] at h
    have hz:n2≠0:=by simpa using hz
    exact main (.x (.c (.i k1 (n1.tmod n2)))) (.int k1 (n1.tmod n2)) (by simp [binOp,Op.intDiv,hz]) rfl h
  ·obtain ⟨h2,h⟩:=ah h
   simp only [qaZ,decide_eq_true_eq] at h2
   exact main (.x (.c (.i k1 (k1.wrap (n1*2 ^ n2.toNat))))) _ (by rw [binOp_shl,shift_shl _ _ _ _ h2.1 h2.2];rfl) rfl h
  ·obtain ⟨h2,h⟩:=ah h
   simp only [qaZ,decide_eq_true_eq] at h2
   exact main (.x (.c (.i k1 (n1 / 2 ^ n2.toNat)))) _ (by rw [binOp_shr,shift_shr _ _ _ _ h2.1 h2.2];rfl) rfl h
  ·split at h
   ·rename_i v hv
    obtain ⟨u,h2,h3⟩:=Kn (P:=P) (μ:=μ) (ok:=ok) (st:=st) (w:=w) (t:=t) hv
    exact main v u h2 h3 h
   ·cases h
 ·rename_i s1 s2 hxv hyv
  rw [hxv] at hx
  rw [hyv] at hy
  have hx:a.eval x=.string s1:=hx
  have hy:a.eval y=.string s2:=hy
  split at h
  ·rename_i v hv
   obtain ⟨u,h2,h3⟩:=JN (P:=P) (μ:=μ) (ok:=ok) (st:=st) (w:=w) (t:=t) hv
   refine aP hm he hk (u:=u) ?_ h3 h
   have hg:eqGuard op t x y (.string s1) (.string s2)=pure ():=eqGuard_at_string ..
   simp [execOp,ho,hx,hy,hg,h2]
  ·cases h
 ·cases h
theorem QE (hm:MR w0 okA μ ok st.heap w) (he:ER df μ ok st.heap w st.env a) (hk:dD df w0 okA a k r fun u w=>next (a.put o.dst u) w)
  {op:UnOp} {t:TypeId} {x:Operand} (ho:o.op=.unOp op t x) (h:aj C hb st (.unOp op t x) k=some r):o.wp P a w next Q:=by
 have hx:=aF he x
 simp only [aj] at h
 split at h
 ·rename_i t' hxv
  rw [hxv] at hx
  have hx:a.eval x=.bool t':=hx
  exact aP hm he hk (u:=.bool (!t')) (v:=bl (!t')) (by simp [execOp,ho,hx,Op.unary]) rfl h
 ·rename_i kd n hxv
  rw [hxv] at hx
  have hx:a.eval x=.int kd n:=hx
  exact aP hm he hk (u:=.int kd (kd.wrap (0-n))) (v:=.x (.c (.i kd (kd.wrap (0-n))))) (by simp [execOp,ho,hx,Op.unary,Op.intArith]) rfl h
 ·cases h
theorem AR.toV {y:A} {u:Value} (h:AR ok w y u):VR μ ok w st.heap y.toV u:=by
 cases y with
 | v x=>exact h
 | agg l =>
  obtain ⟨cs,rfl,hs,hc⟩:=h
  refine ⟨cs,rfl,by simpa using hs,fun t c ht=>?_⟩
  rw [qhZ] at ht
  cases hq:l[t]? with
  | none=>rw [hq] at ht;cases ht
  | some c0 =>
   rw [hq] at ht;cases ht
   exact hc t c0 hq
theorem Gu (hm:MR w0 okA μ ok st.heap w) (he:ER df μ ok st.heap w st.env a) (hk:dD df w0 okA a k r fun u w=>next (a.put o.dst u) w)
  {x:Operand} {n:Nat} (ho:o.op=.extract x n) (h:aj C hb st (.extract x n) k=some r):o.wp P a w next Q:=by
 have hx:=aF he x
 simp only [aj] at h
 split at h
 ·rename_i l hxv
  rw [hxv] at hx
  obtain ⟨vs,hp,hs,hc⟩:=hx
  split at h
  ·rename_i y hy
   obtain ⟨u,hu,hr⟩:=hc n y hy
   exact aP hm he hk (u:=u) (by simp [execOp,ho,hp,Instr.extract,hu]) hr.toV h
  ·cases h
 ·cases h
theorem V1 (hm:MR w0 okA μ ok st.heap w) (he:ER df μ ok st.heap w st.env a) (hk:dD df w0 okA a k r fun u w=>next (a.put o.dst u) w)
  {t:TypeId} {str:Bool} {x:Operand} (ho:o.op=.call { callee:=.builtin .len,args:=#[x],argTypes:=#[t] }) (hP:(AOp.len t str x).okP P=true) (h:aj C hb st (.len t str x) k=some r):o.wp P a w next Q:=by
 have hx:=aF he x
 have main:∀ (n:Nat),(∀ ty,(Builtin.len_ #[t] ty #[a.eval x]).run P w=.ok (.int .i64 n) w)->k (i64 n) st=some r->o.wp P a w next Q:=by
  intro n h1 h2
  exact aP hm he hk (u:=.int .i64 n) (v:=i64 n) (by simp [execOp,ho,resolve,invoke,builtin,h1]) rfl h2
 have mainS:∀ (n cap:Nat) (ad:Option Addr),a.eval x=.slice ad n cap->str=false->k (i64 n) st=some r->o.wp P a w next Q:=by
  intro n cap ad h1 h2 h3
  subst h2
  refine main n (fun ty=>?_) h3
  simp only [AOp.okP] at hP
  split at hP
  ·cases hP
  ·rename_i e hu
   simp [Builtin.len_,run_underlying hu,h1,goInt]
  ·cases hP
 simp only [aj] at h
 split at h
 ·rename_i fl rr n f hxv
  rw [hxv] at hx
  obtain ⟨ad,cap,hp,hc⟩:=hx
  cases str with
  | true=>cases h
  | false=>exact mainS n cap ad hp rfl h
 ·rename_i b off len hxv
  rw [hxv] at hx
  obtain ⟨h1,h⟩:=ah h
  rw [qaZ] at h1
  obtain ⟨hlive,hstr⟩:=h1
  unfold j5 at hlive
  split at hlive
  ·rename_i rr n' f hq
   obtain ⟨_,hp⟩:=hx
   rw [hq] at hp
   obtain ⟨hle,ad,cap,hp,_⟩:=hp
   exact mainS len cap ad hp (by simpa using hstr) h
  ·cases hlive
 ·rename_i b i hxv
  rw [hxv] at hx
  split at h
  ·rename_i κ n' ln f hq
   obtain ⟨_,hp⟩:=hx
   rw [hq] at hp
   obtain ⟨_,ad,cap,hp,_⟩:=hp
   cases str with
   | true=>cases h
   | false=>exact mainS (ln i) cap ad hp rfl h
  ·cases h
 ·rename_i s hxv
  rw [hxv] at hx
  have hx:a.eval x=.string s:=hx
  obtain ⟨h1,h⟩:=ah h
  subst h1
  refine main s.size (fun ty=>?_) h
  simp only [AOp.okP] at hP
  split at hP
  ·rename_i hu
   simp [Builtin.len_,run_underlying hu,hx,goInt]
  ·cases hP
  ·cases hP
 ·cases h
theorem NW {mx:Bool} {kd:IntKind}:∀ {l:List V} {us:List Value} {x y:Int},E9 mx kd x l=some y->l.length=us.length->(∀ (t:Nat) (v:V),l[t]?=some v->∃ u,us[t]?=some u/\VR μ ok w st.heap v u) ->
  (us.foldlM (if mx then Builtin.max2 else Builtin.min2) (.int kd x)).run P w=.ok (.int kd y) w
 | [],us,x,y,h,hl,_=>by
  have:us = []:=List.eq_nil_of_length_eq_zero (by simpa using hl.symm)
  subst this
  simp only [E9,rbZ] at h;subst h
  rfl
 | v::l,us,x,y,h,hl,hv=>by
  obtain ⟨u,hu,hr⟩:=hv 0 v rfl
  cases us with
  | nil=>simp at hu
  | cons q us =>
   simp only [List.getElem?_cons_zero,rbZ] at hu
   subst hu
   unfold E9 at h
   split at h
   ·rename_i heq;cases heq
   ·rename_i k' n l' heq
    cases heq
    obtain ⟨h1,h0⟩:=ah h
    clear h
    have:=eX h1
    subst this
    have hr:q=.int kd n:=hr
    have ih:=NW h0 (us:=us) (by simpa using hl) (fun t v ht=>hv (t+1) v (by simpa using ht))
    rw [List.foldlM_cons,Sem.run_bind,hr]
    cases mx
    ·simpa [Builtin.min2] using ih
    ·simpa [Builtin.max2] using ih
   ·cases h
theorem X0 (hm:MR w0 okA μ ok st.heap w) (he:ER df μ ok st.heap w st.env a) (hk:dD df w0 okA a k r fun u w=>next (a.put o.dst u) w)
  {mx:Bool} {args:List Operand} {ts:List TypeId} (ho:o.op=(AOp.mm mx args ts).erase) (h:aj C hb st (.mm mx args ts) k=some r):o.wp P a w next Q:=by
 simp only [aj] at h
 split at h
 ·rename_i kd n l hl
  split at h
  ·rename_i y hy
   cases args with
   | nil=>simp at hl
   | cons x args =>
    simp only [List.map_cons,List.cons.injEq] at hl
    obtain ⟨hxv,hl⟩:=hl
    have hx:=aF he x
    rw [hxv] at hx
    have hx:a.eval x=.int kd n:=hx
    have hrun:=NW (P:=P) (μ:=μ) (ok:=ok) (w:=w) (st:=st) hy (us:=args.map a.eval) (by rw [<- hl];simp) (fun t v ht=>by
     rw [<- hl,qhZ] at ht
     cases hq:args[t]? with
     | none=>rw [hq] at ht;cases ht
     | some x' =>
      rw [hq] at ht;cases ht
      exact ⟨a.eval x',by rw [qhZ,hq];rfl,aF he x'⟩)
    refine aP hm he hk (u:=.int kd y) (v:=.x (.c (.i kd y))) ?_ rfl h
    cases mx
    ·simp only [Bool.false_eq_true,if_false] at hrun
     simp [execOp,ho,AOp.erase,resolve,invoke,builtin,Builtin.min_,hx,hrun]
    ·simp only [if_true] at hrun
     simp [execOp,ho,AOp.erase,resolve,invoke,builtin,Builtin.max_,hx,hrun]
  ·cases h
 ·cases h
theorem Gv (hm:MR w0 okA μ ok st.heap w) (he:ER df μ ok st.heap w st.env a) (hk:dD df w0 okA a k r fun u w=>next (a.put o.dst u) w)
  {src dst:TypeId} {kd:IntKind} {x:Operand} (ho:o.op=.convert src dst x) (hP:(AOp.convert src dst kd x).okP P=true) (h:aj C hb st (.convert src dst kd x) k=some r):o.wp P a w next Q:=by
 have hx:=aF he x
 simp only [AOp.okP,qaZ] at hP
 obtain ⟨hs,hd⟩:=hP
 split at hd
 ·rename_i k' hu
  have:=eX hd
  subst this
  simp only [aj] at h
  split at h
  ·rename_i k1 n hxv
   rw [hxv] at hx
   have hx:a.eval x=.int k1 n:=hx
   obtain ⟨d,hd'⟩:=Option.isSome_iff_exists.mp hs
   exact aP hm he hk (u:=.int kd (kd.wrap n)) (v:=.x (.c (.i kd (kd.wrap n)))) (by simp [execOp,ho,hx,convert,run_underlying hd',run_underlying hu,Conv.intToInt]) rfl h
  ·cases h
 ·cases hd
theorem QG (hm:MR w0 okA μ ok st.heap w) (he:ER df μ ok st.heap w st.env a) (hk:dD df w0 okA a k r fun u w=>next (a.put o.dst u) w)
  {f:FuncId} {caps:List Operand} (ho:o.op=(AOp.mkfn f caps).erase) (h:aj C hb st (.mkfn f caps) k=some r):o.wp P a w next Q:=by
 simp only [aj] at h
 split at h
 ·rename_i l hl
  obtain ⟨h1,h2⟩:=aX hl
  have hv:V0R μ ok w st.heap (.fn f l) (.func (.func f) #[] (caps.map a.eval).toArray):=by
   refine ⟨_,rfl,by simp [h1],fun t c ht=>?_⟩
   have h3:=h2 t c ht
   rw [qhZ] at h3
   cases hq:caps[t]? with
   | none=>rw [hq] at h3;cases h3
   | some x =>
    rw [hq] at h3
    simp only [Option.map_some,rbZ] at h3
    refine ⟨a.eval x,by simp [hq],?_⟩
    have hx:=aF he x
    split at h3
    ·rename_i c' hc';cases h3;rw [hc'] at hx;exact hx
    ·rename_i b j hc';cases h3;rw [hc'] at hx;exact hx
    ·cases h3
  exact aP hm he hk (v:=.x (.fn f l)) (by simp [execOp,ho,AOp.erase,Instr.makeFunc]) hv h
 ·cases h
end
end Go.Eng
/-
 Operations,part 4: slice expressions;equality of rows.
-/
namespace Go.Eng
open Go Go.RowKit
variable {df : DF}
section
variable {ρ : Type} {P : Program} {C : ao} {hb : Nat} {w0 : cD} {okA : Nat -> Prop} {μ : Nat -> Option Nat} {ok : Nat -> Prop} {st : St} {a : Act} {w : World}
 {o:Oper} {k:V->St->Option ρ} {r:ρ} {next:Act->World->Prop} {Q:Exit->Act->World->Prop}
theorem oO (he:ER df μ ok st.heap w st.env a) {dflt:Nat} {x:Option Operand} {hi:Nat} {kk:Nat->Option ρ} (h:bnd st dflt x hi kk=some r) :
  ∃ n,kk n=some r/\((x=none/\n=dflt)\/(∃ y kd,x=some y/\a.eval y=.int kd (n:Int)/\n<=hi)):=by
 unfold bnd at h
 cases x with
 | none=>exact ⟨dflt,h,.inl ⟨rfl,rfl⟩⟩
 | some y =>
  have hy:=aF he y
  dsimp only at h
  split at h
  ·rename_i kd n hv
   rw [hv] at hy
   have hy:a.eval y=.int kd n:=hy
   obtain ⟨h1,h2⟩:=ah h
   obtain ⟨h3,h4⟩:=Kr h1
   exact ⟨n.toNat,h2,.inr ⟨y,kd,rfl,by rw [hy];congr 1;omega,by omega⟩⟩
  ·cases h
theorem ce {kd:IntKind} {n y:Nat} {code:BoundsCode} (h:n<=y):(Instr.sliceBound (.int kd (n:Int)) y code).run P w=.ok n w:=by
 have:=run_sliceBound (P:=P) w kd (n:Int) y code (by omega) (by omega)
 simpa using this
theorem eO {len cap l h m:Nat} {lo hi mx:Option Value} (h1:(mx=none/\m=cap)\/∃ kd,mx=some (.int kd (m:Int))/\m<=cap)
  (h2:(hi=none/\mx=none/\h=len)\/∃ kd,hi=some (.int kd (h:Int))/\h<=m) (h3:(lo=none/\l=0)\/∃ kd,lo=some (.int kd (l:Int))/\l<=h) :
  (Instr.sliceBounds true len cap lo hi mx).run P w=.ok (l,h,m) w:=by
 rcases h1 with ⟨rfl,rfl⟩ | ⟨k1,rfl,e1⟩
 ·rcases h2 with ⟨rfl,_,rfl⟩ | ⟨k2,rfl,e2⟩
  ·rcases h3 with ⟨rfl,rfl⟩ | ⟨k3,rfl,e3⟩
   ·simp [Instr.sliceBounds]
   ·simp [Instr.sliceBounds,ce e3]
  ·rcases h3 with ⟨rfl,rfl⟩ | ⟨k3,rfl,e3⟩
   ·simp [Instr.sliceBounds,ce e2]
   ·simp [Instr.sliceBounds,ce e2,ce e3]
 ·rcases h2 with ⟨_,h,_⟩ | ⟨k2,rfl,e2⟩
  ·cases h
  ·rcases h3 with ⟨rfl,rfl⟩ | ⟨k3,rfl,e3⟩
   ·simp [Instr.sliceBounds,ce e1,ce e2]
   ·simp [Instr.sliceBounds,ce e1,ce e2,ce e3]
theorem tA {t e:TypeId} {ad:Option Addr} {len cap l h m esz:Nat} {lo hi mx:Option Value} (ht:P.underlying t=some (.slice e)) (hs:(sizeOf e).run P w=.ok esz w)
  (hb:(Instr.sliceBounds true len cap lo hi mx).run P w=.ok (l,h,m) w) :
  (Instr.sliceAt t (.slice ad len cap) lo hi mx).run P w=.ok (.slice (if m=l then ad else ad.map (·.add (l*esz))) (h-l) (m-l)) w:=by
 simp [Instr.sliceAt,Instr.slice,run_underlying ht,hb,hs]
theorem M5 (hm:MR w0 okA μ ok st.heap w) (he:ER df μ ok st.heap w st.env a) (hk:dD df w0 okA a k r fun u w=>next (a.put o.dst u) w)
  {t e:TypeId} {esz:Nat} {x:Operand} {lo hi mx:Option Operand} (ho:o.op=.slice t x lo hi mx) (hP:(AOp.slice t e esz x lo hi mx).okP P=true)
  (h:aj C hb st (.slice t e esz x lo hi mx) k=some r):o.wp P a w next Q:=by
 have hx:=aF he x
 simp only [AOp.okP,qaZ] at hP
 have hu:=ju hP.1
 have hsz:=jv (w:=w) hP.2
 simp only [aj] at h
 split at h
 ·rename_i fl rr n f hxv
  rw [hxv] at hx
  obtain ⟨ad,cap,hp,hc1,hc2,hfull,hc4⟩:=hx
  obtain ⟨h1,h⟩:=ah h
  rw [qaZ] at h1
  have hlen:=qbZ h1.1
  obtain ⟨m,h,hmm⟩:=oO he h
  obtain ⟨hh,h,hhh⟩:=oO he h
  obtain ⟨l,h,hll⟩:=oO he h
  -- the bounds as the machine has them: m' is the machine's third bound
  have hle1:l<=hh:=by rcases hll with ⟨_,rfl⟩ | ⟨_,_,_,_,h⟩<;>omega
  have hlo:(lo.map a.eval=none/\l=0)\/∃ kd,lo.map a.eval=some (.int kd (l:Int))/\l<=hh:=by
   rcases hll with ⟨rfl,rfl⟩ | ⟨y,kd,rfl,hy,hle⟩
   ·exact .inl ⟨rfl,rfl⟩
   ·exact .inr ⟨kd,by simp [hy],hle⟩
  have hbounds:∃ m',(Instr.sliceBounds true n cap (lo.map a.eval) (hi.map a.eval) (mx.map a.eval)).run P w=.ok (l,hh,m') w/\hh<=n/\hh<=m'/\m'<=cap /\
    ((bif mx.isNone then fl&&Nat.beq hh n else Nat.beq m hh)=true->m' = hh):=by
   rcases hmm with ⟨rfl,rfl⟩ | ⟨y,kd,rfl,hy,hle⟩
   ·rcases hhh with ⟨rfl,rfl⟩ | ⟨y,kd,rfl,hy,hle⟩
    ·refine ⟨cap,eO (.inl ⟨rfl,rfl⟩) (.inl ⟨rfl,rfl,rfl⟩) hlo,rkZ _,hc1,rkZ _,fun h=>?_⟩
     simp only [Option.isNone_none,cond_true,qaZ] at h
     exact hfull h.1
    ·refine ⟨cap,eO (.inl ⟨rfl,rfl⟩) (.inr ⟨kd,by simp [hy],by omega⟩) hlo,hle,by omega,rkZ _,fun h=>?_⟩
     simp only [Option.isNone_none,cond_true,qaZ] at h
     rw [hfull h.1]
     exact (qbZ h.2).symm
   ·rcases hhh with ⟨rfl,rfl⟩ | ⟨y',kd',rfl,hy',hle'⟩
    ·simp at h1
    ·refine ⟨m,eO (.inr ⟨kd,by simp [hy],by omega⟩) (.inr ⟨kd',by simp [hy'],hle'⟩) hlo,by omega,hle',by omega,fun h=>?_⟩
     simp only [Option.isNone_some,cond_false] at h
     exact qbZ h
  obtain ⟨m',hbs,hb1,hb2,hb3,hb4⟩:=hbounds
  have hv' : CR ok w (.ro (bif mx.isNone then fl&&Nat.beq hh n else Nat.beq m hh) rr (hh-l) (d9 l f)) (.slice (if m' = l then ad else ad.map (·.add (l*esz))) (hh-l) (m' - l)):=by
   refine ⟨_,m' - l,rfl,by omega,by omega,fun h=>by rw [hb4 h],?_⟩
   by_cases hz:hh-l=0
   ·exact .inl hz
   ·rw [if_neg (by omega)]
    rcases hc4 with h5 | ⟨g,off,rfl,hg,hrow⟩
    ·omega
    ·refine .inr ⟨g,off+l*esz,by simp [jz],hg,fun i j hi' hj=>?_⟩
     rw [vt]
     obtain ⟨hk,u,hu',hr⟩:=hrow (l+i) j (by omega) hj
     exact ⟨hk,u,by rw [<- hlen,Nat.add_assoc off,<- Nat.add_mul];exact hu',hr⟩
  exact aP hm he hk (v:=.x (.c (.ro (bif mx.isNone then fl&&Nat.beq hh n else Nat.beq m hh) rr (hh-l) (d9 l f)))) (u:=.slice (if m' = l then ad else ad.map (·.add (l*esz))) (hh-l) (m' - l))
   (by simp only [execOp,ho,hp,Sem.run_bind,tA hu hsz hbs,Result.andThen_ok,Sem.run_pure]) hv' h
 ·rename_i b off len hxv
  rw [hxv] at hx
  obtain ⟨_,hp⟩:=hx
  split at h
  ·rename_i rr n f hq
   rw [hq] at hp
   obtain ⟨hle,ad,cap,hp,hc1,hc2,hown⟩:=hp
   obtain ⟨h1,h⟩:=ah h
   rw [qaZ] at h1
   have hlen:=qbZ h1.1
   have hmx:mx=none:=by simpa using h1.2
   obtain ⟨hh,h2,hhh⟩:=oO he h
   obtain ⟨l,h3,hll⟩:=oO he h2
   have hle1:l<=hh:=by rcases hll with ⟨_,rfl⟩ | ⟨_,_,_,_,h⟩<;>omega
   have hle2:hh<=len:=by rcases hhh with ⟨_,rfl⟩ | ⟨_,_,_,_,h⟩<;>omega
   have hlo:(lo.map a.eval=none/\l=0)\/∃ kd,lo.map a.eval=some (.int kd (l:Int))/\l<=hh:=by
    rcases hll with ⟨rfl,rfl⟩ | ⟨y,kd,rfl,hy,hle⟩
    ·exact .inl ⟨rfl,rfl⟩
    ·exact .inr ⟨kd,by simp [hy],hle⟩
   have hbs:(Instr.sliceBounds true len cap (lo.map a.eval) (hi.map a.eval) (mx.map a.eval)).run P w=.ok (l,hh,cap) w:=by
    refine eO (.inl ⟨by simp [hmx],rfl⟩) ?_ hlo
    rcases hhh with ⟨rfl,rfl⟩ | ⟨y,kd,rfl,hy,hle'⟩
    ·exact .inl ⟨rfl,by simp [hmx],rfl⟩
    ·exact .inr ⟨kd,by simp [hy],by omega⟩
   have hv' : V0R μ ok w st.heap (.own b (off+l) (hh-l)) (.slice (if cap=l then ad else ad.map (·.add (l*esz))) (hh-l) (cap-l)):=by
    refine ⟨rfl,?_⟩
    rw [hq]
    refine ⟨by omega,_,cap-l,rfl,by omega,by omega,?_⟩
    by_cases hz:cap=l
    ·exact .inl ⟨by omega,by omega⟩
    ·rw [if_neg hz]
     rcases hown with ⟨h5,h6⟩ | ⟨g,cur,e',hg,rfl,hw,hs'⟩
     ·omega
     ·refine .inr ⟨g,cur,e',hg,by simp [jz,hlen,Nat.add_mul],hw,?_⟩
      rw [hs'];congr 1;omega
   exact aP hm he hk (v:=.x (.own b (off+l) (hh-l))) (u:=.slice (if cap=l then ad else ad.map (·.add (l*esz))) (hh-l) (cap-l))
    (by simp only [execOp,ho,hp,Sem.run_bind,tA hu hsz hbs,Result.andThen_ok,Sem.run_pure]) hv' h3
  ·cases h
 ·cases h
end
end Go.Eng
/-
 Operations,part 5: equality of structs of scalars.
-/
namespace Go.Eng
open Go Go.RowKit
variable {df : DF}
section
variable {ρ : Type} {P : Program} {C : ao} {hb : Nat} {w0 : cD} {okA : Nat -> Prop} {μ : Nat -> Option Nat} {ok : Nat -> Prop} {st : St} {a : Act} {w : World}
 {o:Oper} {k:V->St->Option ρ} {r:ρ} {next:Act->World->Prop} {Q:Exit->Act->World->Prop}
theorem oL {kd:IntKind} {r:Kd} {l l' : List V0} {b:Bool} (h:aQ (.pr (.int kd) r) l l' = some b) :
  ∃ x y t t' b',l=.c (.i kd x)::t/\l' = .c (.i kd y)::t'/\aQ r t t' = some b'/\b=((x==y)&&b'):=by
 unfold aQ at h
 split at h
 ·rename_i k1 r1 k2 x t k3 y t' h1
  cases h1
  obtain ⟨h3,h4⟩:=ah h
  rw [qaZ] at h3
  have e1:=eX h3.1
  have e2:=eX h3.2
  subst e1 e2
  split at h4
  ·rename_i b' hb';cases h4;exact ⟨_,_,_,_,_,rfl,rfl,hb',rfl⟩
  ·cases h4
 ·rename_i h1;cases h1
 ·rename_i h1;cases h1
 ·rename_i h1;cases h1
 ·cases h
theorem tR {r:Kd} {l l' : List V0} {b:Bool} (h:aQ (.pr .bool r) l l' = some b) :
  ∃ x y t t' b',l=.c (.b x)::t/\l' = .c (.b y)::t'/\aQ r t t' = some b'/\b=((x==y)&&b'):=by
 unfold aQ at h
 split at h
 ·rename_i h1;cases h1
 ·rename_i h1
  cases h1
  split at h
  ·rename_i b' hb';cases h;exact ⟨_,_,_,_,_,rfl,rfl,hb',rfl⟩
  ·cases h
 ·rename_i h1;cases h1
 ·rename_i h1;cases h1
 ·cases h
theorem Ai {r:Kd} {l l' : List V0} {b:Bool} (h:aQ (.pr .str r) l l' = some b) :
  ∃ x y t t' b',l=.c (.s x)::t/\l' = .c (.s y)::t'/\aQ r t t' = some b'/\b=((x.toList==y.toList)&&b'):=by
 unfold aQ at h
 split at h
 ·rename_i h1;cases h1
 ·rename_i h1;cases h1
 ·rename_i h1
  cases h1
  split at h
  ·rename_i b' hb';cases h;exact ⟨_,_,_,_,_,rfl,rfl,hb',rfl⟩
  ·cases h
 ·rename_i h1;cases h1
 ·cases h
def Ju (r1 r2:Kd) (l l' : List V0) (b:Bool):Prop :=
 ∃ b1 b2,r1.len<=l.length/\r1.len<=l'.length/\aQ (r1.app .nil) (l.take r1.len) (l'.take r1.len)=some b1/\aQ r2 (l.drop r1.len) (l'.drop r1.len)=some b2/\b=(b1&&b2)
theorem Ju.cons {κ r r2:Kd} {c c' : V0} {t t' : List V0} {b' e:Bool} (h:Ju r r2 t t' b')
  (hs:∀ r' s s' bb,aQ r' s s' = some bb->aQ (.pr κ r') (c::s) (c'::s')=some (e&&bb)):Ju (.pr κ r) r2 (c::t) (c'::t') (e&&b'):=by
 obtain ⟨b1,b2,h1,h2,h3,h4,h5⟩:=h
 exact ⟨e&&b1,b2,by simp only [Kd.len,List.length_cons];omega,by simp only [Kd.len,List.length_cons];omega,hs _ _ _ _ h3,by simpa [Kd.len] using h4,by rw [h5,Bool.and_assoc]⟩
theorem FD:∀ {r1 r2:Kd} {l l' : List V0} {b:Bool},aQ (r1.app r2) l l' = some b->Ju r1 r2 l l' b:=by
 intro r1
 induction r1 with
 | pr κ r ik ih =>
  intro r2 l l' b h
  clear ik
  cases κ with
  | int kd =>
   obtain ⟨x,y,t,t',b',rfl,rfl,hb',rfl⟩:=oL h
   exact (ih hb').cons (fun r' s s' bb hh=>by simp [aQ,hh,jP])
  | bool =>
   obtain ⟨x,y,t,t',b',rfl,rfl,hb',rfl⟩:=tR h
   exact (ih hb').cons (fun r' s s' bb hh=>by simp [aQ,hh])
  | str =>
   obtain ⟨x,y,t,t',b',rfl,rfl,hb',rfl⟩:=Ai h
   exact (ih hb').cons (fun r' s s' bb hh=>by simp [aQ,hh])
  | nil=>simp [Kd.app,aQ] at h
  | oth=>simp [Kd.app,aQ] at h
  | sl r'=>simp [Kd.app,aQ] at h
  | pr a b=>simp [Kd.app,aQ] at h
 | nil=>intro r2 l l' b h;exact ⟨true,b,by simp [Kd.len],by simp [Kd.len],by simp [Kd.app,Kd.len,aQ],by simpa [Kd.len,Kd.app] using h,by simp⟩
 | int kd=>intro r2 l l' b h;exact ⟨true,b,by simp [Kd.len],by simp [Kd.len],by simp [Kd.app,Kd.len,aQ],by simpa [Kd.len,Kd.app] using h,by simp⟩
 | bool=>intro r2 l l' b h;exact ⟨true,b,by simp [Kd.len],by simp [Kd.len],by simp [Kd.app,Kd.len,aQ],by simpa [Kd.len,Kd.app] using h,by simp⟩
 | str=>intro r2 l l' b h;exact ⟨true,b,by simp [Kd.len],by simp [Kd.len],by simp [Kd.app,Kd.len,aQ],by simpa [Kd.len,Kd.app] using h,by simp⟩
 | oth=>intro r2 l l' b h;exact ⟨true,b,by simp [Kd.len],by simp [Kd.len],by simp [Kd.app,Kd.len,aQ],by simpa [Kd.len,Kd.app] using h,by simp⟩
 | sl r _=>intro r2 l l' b h;exact ⟨true,b,by simp [Kd.len],by simp [Kd.len],by simp [Kd.app,Kd.len,aQ],by simpa [Kd.len,Kd.app] using h,by simp⟩
theorem G3 {r s:Kd} (h:s.app .nil=s):(r.app s).app .nil=r.app s:=by
 induction r with
 | pr a r _ ih=>simp [Kd.app,ih]
 | _=>simpa [Kd.app] using h
theorem ef {ks:TypeId->Option Kd} (hks:∀ t r,ks t=some r->r.app .nil=r):∀ {fs:List Field} {off:Nat} {r:Kd},j7 P ks fs off=some r->r.app .nil=r
 | [],off,r,h=>by cases h;rfl
 | f::fs,off,r,h=>by
  unfold j7 at h
  split at h
  ·obtain ⟨_,h⟩:=ah h
   split at h
   ·rename_i r' hr;cases h;simp [Kd.app,ef hks hr]
   ·cases h
  ·obtain ⟨_,h⟩:=ah h
   split at h
   ·rename_i r' hr;cases h;simp [Kd.app,ef hks hr]
   ·cases h
  ·obtain ⟨_,h⟩:=ah h
   split at h
   ·rename_i r' hr;cases h;simp [Kd.app,ef hks hr]
   ·cases h
  ·split at h
   ·obtain ⟨_,h⟩:=ah h
    split at h
    ·rename_i r2 hr;cases h;exact G3 (ef hks hr)
    ·cases h
   ·cases h
  ·cases h
theorem Bh (k:Kd):∀ n,(Kd.rep k n).app .nil=Kd.rep k n
 | 0=>rfl
 | n+1=>by simp [Kd.rep,Kd.app,Bh k n]
theorem rP:∀ (d:Nat) (t:TypeId) (r:Kd),vK P d t=some r->r.app .nil=r
 | 0,t,r,h=>by cases h
 | d+1,t,r,h=>by
  unfold vK at h
  split at h
  ·cases hh:P.stoodInHeld t with
   | true=>rw [hh] at h;cases h
   | false=>rw [hh] at h;exact ef (rP d) h
  ·split at h
   ·obtain ⟨_,h⟩:=ah h
    cases h
    exact Bh _ _
   ·cases h
  ·cases h
def Zs (P:Program) (μ:Nat->Option Nat) (ok:Nat->Prop) (st:St) (ks:TypeId->Option Kd) (D:Nat):Prop :=
 ∀ (t:TypeId) (r:Kd) (xs ys:Array Value) (l l' : List V0) (b:Bool) (w:World),ks t=some r->CsR μ ok w st.heap l xs.toList->CsR μ ok w st.heap l' ys.toList->aQ r l l' = some b ->
  (Op.equalIn D t (.agg xs) (.agg ys)).run P w=.ok b w
theorem CsR.sub {l:List V0} {xs:Array Value} (h:CsR μ ok w st.heap l xs.toList) (off m:Nat):CsR μ ok w st.heap ((l.drop off).take m) (xs.extract off (off+m)).toList:=by
 have hl:xs.size=l.length:=by simpa using h.1
 refine ⟨by simp;omega,fun t c ht=>?_⟩
 rw [List.getElem?_take] at ht
 split at ht
 ·rename_i htm
  rw [List.getElem?_drop] at ht
  obtain ⟨u,hu,hr⟩:=h.2 _ c ht
  refine ⟨u,?_,hr⟩
  have hlt:off+t<xs.size:=by simpa using (qfZ.1 hu).1
  rw [Array.getElem?_toList] at hu ⊢
  rw [Array.getElem?_extract,if_pos (by omega)]
  exact hu
 ·cases ht
theorem ji {ks:TypeId->Option Kd} {D:Nat} (hE:Zs P μ ok st ks (D+1)) (hks:∀ t r,ks t=some r->r.app .nil=r) {xs ys:Array Value} {l l' : List V0}
  (hx:CsR μ ok w st.heap l xs.toList) (hy:CsR μ ok w st.heap l' ys.toList) :
  ∀ {fs:List Field} {off:Nat} {r:Kd} {b:Bool},j7 P ks fs off=some r->aQ r (l.drop off) (l'.drop off)=some b->(Op.eqFields (D+1) xs ys fs).run P w=.ok b w
 | [],off,r,b,h,hb=>by
  cases h
  generalize l.drop off=L at hb
  generalize l'.drop off=L' at hb
  cases L<;>cases L' <;> simp [aQ] at hb
  subst hb
  rfl
 | f::fs,off,r,b,h,hb=>by
  have scalar:∀ (c c' : V0) (t t' : List V0),l.drop off=c::t->l'.drop off=c'::t' ->
    (∃ u,xs[off]?=some u/\V0R μ ok w st.heap c u)/\(∃ u,ys[off]?=some u/\V0R μ ok w st.heap c' u)/\l.drop (off+1)=t/\l'.drop (off+1)=t':=by
   intro c c' t t' e1 e2
   have g1:l[off]?=some c:=by have:=congrArg (·[0]?) e1;simpa using this
   have g2:l'[off]?=some c':=by have:=congrArg (·[0]?) e2;simpa using this
   obtain ⟨u,hu,hr⟩:=hx.2 off c g1
   obtain ⟨u',hu',hr'⟩:=hy.2 off c' g2
   refine ⟨⟨u,by simpa using hu,hr⟩,⟨u',by simpa using hu',hr'⟩,?_,?_⟩
   ·have:=congrArg (List.drop 1) e1;simpa [List.drop_drop] using this
   ·have:=congrArg (List.drop 1) e2;simpa [List.drop_drop] using this
  have aggN:∀ d,P.underlying f.type=some d->(∀ fs,d≠.struct fs)->(∀ n e,d≠.array n e)->eD P f.type none=true:=by
   intro d hd h1 h2
   unfold eD
   rw [hd]
   cases d<;>simp_all
  unfold j7 at h
  unfold Op.eqFields
  split at h
  ·rename_i kd hu
   obtain ⟨h1,h2⟩:=ah h
   rw [qaZ] at h1
   have hn : f.name ≠ "_" := by simpa using h1.1
   have hoff:=qbZ h1.2
   split at h2
   ·rename_i r' hr
    cases h2
    obtain ⟨x,y,t,t',b',e1,e2,hb',rfl⟩:=oL hb
    obtain ⟨⟨u,hu1,hr1⟩,⟨u',hu2,hr2⟩,e3,e4⟩:=scalar _ _ _ _ e1 e2
    have hr1:u=.int kd x:=hr1
    have hr2:u' = .int kd y:=hr2
    subst hr1 hr2
    have ih:=ji hE hks hx hy hr (by rw [e3,e4];exact hb')
    have ha:=aggN _ hu (by intro _ h;cases h) (by intro _ _ h;cases h)
    rw [if_pos hn]
    simp only [Sem.run_bind,hoff,jg ha hu1,jg ha hu2,Result.andThen_ok,run_equalIn_int w D f.type kd kd x y hu]
    cases hxy:(x==y)<;>simp [ih]
   ·cases h2
  ·rename_i hu
   obtain ⟨h1,h2⟩:=ah h
   rw [qaZ] at h1
   have hn : f.name ≠ "_" := by simpa using h1.1
   have hoff:=qbZ h1.2
   split at h2
   ·rename_i r' hr
    cases h2
    obtain ⟨x,y,t,t',b',e1,e2,hb',rfl⟩:=tR hb
    obtain ⟨⟨u,hu1,hr1⟩,⟨u',hu2,hr2⟩,e3,e4⟩:=scalar _ _ _ _ e1 e2
    have hr1:u=.bool x:=hr1
    have hr2:u' = .bool y:=hr2
    subst hr1 hr2
    have ih:=ji hE hks hx hy hr (by rw [e3,e4];exact hb')
    have ha:=aggN _ hu (by intro _ h;cases h) (by intro _ _ h;cases h)
    rw [if_pos hn]
    simp only [Sem.run_bind,hoff,jg ha hu1,jg ha hu2,Result.andThen_ok,run_equalIn_bool' w D f.type x y hu]
    cases hxy:(x==y)<;>simp [ih]
   ·cases h2
  ·rename_i hu
   obtain ⟨h1,h2⟩:=ah h
   rw [qaZ] at h1
   have hn : f.name ≠ "_" := by simpa using h1.1
   have hoff:=qbZ h1.2
   split at h2
   ·rename_i r' hr
    cases h2
    obtain ⟨x,y,t,t',b',e1,e2,hb',rfl⟩:=Ai hb
    obtain ⟨⟨u,hu1,hr1⟩,⟨u',hu2,hr2⟩,e3,e4⟩:=scalar _ _ _ _ e1 e2
    have hr1:u=.string x:=hr1
    have hr2:u' = .string y:=hr2
    subst hr1 hr2
    have ih:=ji hE hks hx hy hr (by rw [e3,e4];exact hb')
    have ha:=aggN _ hu (by intro _ h;cases h) (by intro _ _ h;cases h)
    rw [if_pos hn]
    simp only [Sem.run_bind,hoff,jg ha hu1,jg ha hu2,Result.andThen_ok,run_equalIn_string w D f.type x y hu]
    cases hxy:(x.toList==y.toList)<;>simp [ih]
   ·cases h2
  ·rename_i fs' hu
   split at h
   ·rename_i r1 hr1
    obtain ⟨h1,h2⟩:=ah h
    rw [qaZ,qaZ] at h1
    have hn : f.name ≠ "_" := by simpa using h1.1.1
    have hoff:=qbZ h1.1.2
    split at h2
    ·rename_i r2 hr
     cases h2
     obtain ⟨b1,b2,g1,g2,g3,g4,rfl⟩:=FD hb
     rw [hks _ _ hr1] at g3
     have ih:=ji hE hks hx hy hr (by simpa [List.drop_drop] using g4)
     have he:=hE f.type r1 _ _ _ _ b1 w hr1 (hx.sub off r1.len) (hy.sub off r1.len) g3
     rw [if_pos hn]
     simp only [Sem.run_bind,hoff,CH h1.2,Result.andThen_ok,he]
     cases b1<;>simp [ih]
    ·cases h2
   ·cases h
  ·cases h
theorem Ah {e:TypeId} {kd:IntKind} {D:Nat} (hu:P.underlying e=some (.int kd)) {xs ys:Array Value} {l l' : List V0} (hx:CsR μ ok w st.heap l xs.toList) (hy:CsR μ ok w st.heap l' ys.toList) :
  ∀ (m j:Nat) (b:Bool),aQ (Kd.rep (.int kd) m) (l.drop j) (l'.drop j)=some b->(Op.eqItems (D+1) e 1 xs ys (List.range' j m)).run P w=.ok b w
 | 0,j,b,hb=>by
  revert hb
  generalize l.drop j=L
  generalize l'.drop j=L'
  intro hb
  cases L<;>cases L' <;> simp [aQ,Kd.rep] at hb
  subst hb
  rfl
 | m+1,j,b,hb=>by
  obtain ⟨x,y,t,t',b',e1,e2,hb',rfl⟩:=oL hb
  have g1:l[j]?=some (.c (.i kd x)):=by have:=congrArg (·[0]?) e1;simpa using this
  have g2:l'[j]?=some (.c (.i kd y)):=by have:=congrArg (·[0]?) e2;simpa using this
  obtain ⟨u,hu1,hr1⟩:=hx.2 j _ g1
  obtain ⟨u',hu2,hr2⟩:=hy.2 j _ g2
  have hr1:u=.int kd x:=hr1
  have hr2:u' = .int kd y:=hr2
  subst hr1 hr2
  have e3:l.drop (j+1)=t:=by have:=congrArg (List.drop 1) e1;simpa [List.drop_drop] using this
  have e4:l'.drop (j+1)=t':=by have:=congrArg (List.drop 1) e2;simpa [List.drop_drop] using this
  have ih:=Ah (D:=D) hu hx hy m (j+1) b' (by rw [e3,e4];exact hb')
  have ha:eD P e none=true:=by
   unfold eD
   rw [hu];rfl
  have p1:xs[j]?=some (.int kd x):=by simpa using hu1
  have p2:ys[j]?=some (.int kd y):=by simpa using hu2
  rw [List.range'_succ]
  unfold Op.eqItems
  simp only [Sem.run_bind,Nat.mul_one,jg ha p1,jg ha p2,Result.andThen_ok,run_equalIn_int w D e kd kd x y hu]
  cases hxy:(x==y)<;>simp [ih]
theorem CS:∀ (d D:Nat),Zs P μ ok st (vK P d) (d+D+1)
 | 0,D=>fun t r xs ys l l' b w h=>by cases h
 | d+1,D=>fun t r xs ys l l' b w h hx hy hb=>by
  unfold vK at h
  split at h
  ·rename_i fs hu
   cases hh:P.stoodInHeld t with
   | true=>rw [hh] at h;cases h
   | false =>
    rw [hh] at h
    have hf:P.fieldsOf t=fs:=by simp [Program.fieldsOf,hu]
    have ih:=CS d D
    have:=ji (w:=w) (D:=d+D) ih (rP d) hx hy h (by simpa using hb)
    rw [show d+1+D+1=(d+D+1)+1 by omega,run_equalIn_struct w (d+D+1) t xs ys (by rw [hf];exact hu) hh,hf]
    exact this
  ·rename_i n e hu
   split at h
   ·rename_i kd hk
    obtain ⟨hsz,h⟩:=ah h
    cases h
    unfold dT at hsz
    split at hsz
    ·rename_i i hi
     have h1:i.size=1:=(qbZ hsz).symm
     have h2:P.cellsOf e=1:=by simp [Program.cellsOf,hi,h1]
     rw [show d+1+D+1=(d+D+1)+1 by omega,run_equalIn_array w (d+D+1) xs ys hu hi,h2,List.range_eq_range']
     exact Ah (D:=d+D) hk hx hy n 0 b (by simpa using hb)
    ·cases hsz
   ·cases h
  ·cases h
theorem V3 (hm:MR w0 okA μ ok st.heap w) (he:ER df μ ok st.heap w st.env a) (hk:dD df w0 okA a k r fun u w=>next (a.put o.dst u) w)
  {neg:Bool} {rr:Kd} {t yt:TypeId} {x y:Operand} (ho:o.op=(AOp.eqA neg rr t x y yt).erase) (hP:(AOp.eqA neg rr t x y yt).okP P=true) (h:aj C hb st (.eqA neg rr t x y yt) k=some r):o.wp P a w next Q:=by
 have hx:=aF he x
 have hy:=aF he y
 simp only [AOp.okP,qaZ] at hP
 obtain ⟨hP1,hP2⟩:=hP
 split at hP1
 ·rename_i r' hr
  have:=Kd.eq_of_beq hP1
  subst this
  simp only [aj] at h
  split at h
  ·rename_i l l' hxv hyv
   rw [hxv] at hx
   rw [hyv] at hy
   obtain ⟨xs,hp,hs,hc⟩:=hx
   obtain ⟨ys,hp',hs',hc'⟩:=hy
   split at h
   ·rename_i b hb'
    have hrun:=CS (P:=P) (μ:=μ) (ok:=ok) (st:=st) 6 9993 t r' xs ys l l' b w hr ⟨by simpa using hs,fun t c ht=>by simpa using hc t c ht⟩ ⟨by simpa using hs',fun t c ht=>by simpa using hc' t c ht⟩ hb'
    have hg:P.eqGuardType P.depth t=false:=by simpa using hP2
    refine aP hm he hk (u:=.bool (bif neg then !b else b)) (v:=bl (bif neg then !b else b)) ?_ rfl h
    cases neg
    ·simp [execOp,ho,AOp.erase,hp,hp',run_eqGuard_agg (P:=P) w .eql t x y xs ys hg,run_eql_struct,hrun]
    ·simp [execOp,ho,AOp.erase,hp,hp',run_eqGuard_agg (P:=P) w .neq t x y xs ys hg,run_neq_struct,hrun]
   ·cases h
  ·cases h
 ·cases hP1
theorem V2 (hm:MR w0 okA μ ok st.heap w) (he:ER df μ ok st.heap w st.env a) (hk:dD df w0 okA a k r fun u w=>next (a.put o.dst u) w)
  {neg:Bool} {t yt:TypeId} {x y:Operand} (ho:o.op=(AOp.eqB neg t x y yt).erase) (hP:(AOp.eqB neg t x y yt).okP P=true) (h:aj C hb st (.eqB neg t x y yt) k=some r):o.wp P a w next Q:=by
 have hx:=aF he x
 have hy:=aF he y
 simp only [AOp.okP] at hP
 split at hP
 ·rename_i hu
  simp only [aj] at h
  split at h
  ·rename_i b1 b2 hxv hyv
   rw [hxv] at hx
   rw [hyv] at hy
   have hx:a.eval x=.bool b1:=hx
   have hy:a.eval y=.bool b2:=hy
   refine aP hm he hk (u:=.bool (bif neg then !(b1==b2) else (b1==b2))) (v:=bl (bif neg then !(b1==b2) else (b1==b2))) ?_ rfl h
   cases neg
   ·simp [execOp,ho,AOp.erase,hx,hy,eqGuard_at_bool,run_eql_bool w t b1 b2 hu]
   ·simp [execOp,ho,AOp.erase,hx,hy,eqGuard_at_bool,run_neq_bool w t b1 b2 hu]
  ·cases h
 ·cases hP
end
end Go.Eng
