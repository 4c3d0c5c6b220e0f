/-
 Operands,and values as closed ones.
-/
import Derived.Test.YtkknnlhhchielaaGreatDoorEngC
set_option linter.all false
namespace Go.Eng
open Go Go.RowKit
variable {df : DF}
theorem aX {α:Type}:∀ {L:List (Option α)} {r:List α},aO L=some r->r.length=L.length/\∀ (t:Nat) (x:α),r[t]?=some x->L[t]?=some (some x)
 | [],r,h=>by simp [aO] at h;subst h;simp
 | none::l,r,h=>by simp [aO] at h
 | some a::l,r,h=>by
  simp only [aO] at h
  cases hq:aO l with
  | none=>rw [hq] at h;cases h
  | some r' =>
   rw [hq] at h;cases h
   obtain ⟨h1,h2⟩:=aX hq
   refine ⟨by simp [h1],fun t x ht=>?_⟩
   cases t with
   | zero=>simp at ht;subst ht;rfl
   | succ t=>simpa using h2 t x (by simpa using ht)
theorem mq {l:List CV} {t:Nat} {c:CV} (h:l[t]?=some c):au l t=c:=by
 simp [au,h]
section
variable {μ : Nat -> Option Nat} {ok okS : Nat -> Prop} {w : World} {H : List Blk}
theorem Lb {d b j:Nat} {c:CV} {v:Value}
  (ih:∀ {y:V0} {c:CV} {v:Value},(∀ b∈dp H d y,b<H.length->∀ g,μ b=some g->okS g)->snap H d y=some c->V0R μ ok w H y v->CR okS w c v)
  (hblk:∀ (b:Nat) (o:Blk),H[b]?=some o->lH μ ok w H b o) (hrefs:∀ b' ∈ dp H (d+1) (.ptr b j),b' < H.length->∀ g,μ b' = some g->okS g)
  (hs:snap H (d+1) (.ptr b j)=some c) (h:jA μ H b j v):CR okS w c v:=by
 simp only [snap] at hs
 simp only [dp] at hrefs
 cases hb:H[b]? with
 | none=>rw [hb] at hs;cases hs
 | some o =>
  rw [hb] at hs hrefs
  cases o with
  | rsv=>cases hs
  | dead=>cases hs
  | arr r n f=>cases hs
  | set sb n f=>cases hs
  | mat κ n ln f=>cases hs
  | box cells =>
   dsimp only at hs hrefs
   cases hq:aO ((cells.drop j).map (snap H d)) with
   | none=>rw [hq] at hs;cases hs
   | some l =>
    rw [hq] at hs
    cases hs
    obtain ⟨h1,h2⟩:=aX hq
    obtain ⟨_,h4⟩:=h
    rw [hb] at h4
    obtain ⟨g,hg,rfl⟩:=h4
    obtain ⟨g',cur,e,hg',hw,hsz,hc⟩:=hblk b _ hb
    rw [hg] at hg';cases hg'
    refine ⟨g,j,rfl,hrefs b (qmZ ..) (qfZ.1 hb).1 g hg,fun t ht=>?_⟩
    rw [CB] at ht
    obtain ⟨x,hx⟩:∃ x,l[t]?=some x:=⟨l[t],by simp [ht]⟩
    rw [CA l t x hx,mq hx]
    refine ⟨CV.kd_ok x,?_⟩
    have h5:=h2 t x hx
    rw [qhZ,List.getElem?_drop] at h5
    cases hq2:cells[j+t]? with
    | none=>rw [hq2] at h5;cases h5
    | some y =>
     rw [hq2] at h5
     simp only [Option.map_some,rbZ] at h5
     obtain ⟨u,hu,hr⟩:=hc (j+t) y hq2
     refine ⟨u,by rw [cell_of_row w g (j+t) cur e (0,0) hw];exact hu,ih (fun b' hb'=>?_) h5 hr⟩
     refine hrefs b' (qjZ _ (qyZ.2 ⟨dp H d y,?_,hb'⟩))
     exact rjZ.2 ⟨y,qrZ (i:=t) (by rw [List.getElem?_drop];exact hq2),rfl⟩
theorem lk (hblk:∀ (b:Nat) (o:Blk),H[b]?=some o->lH μ ok w H b o) (hok:∀ g,ok g->okS g) (d:Nat) :
  ∀ {y:V0} {c:CV} {v:Value},(∀ b∈dp H d y,b<H.length->∀ g,μ b=some g->okS g)->snap H d y=some c->V0R μ ok w H y v->CR okS w c v:=by
 induction d with
 | zero=>intro y c v _ hs _;simp [snap] at hs
 | succ d ih =>
  intro y c v hrefs hs h
  cases y with
  | u=>simp only [snap,rbZ] at hs;subst hs;exact h
  | c x=>simp only [snap,rbZ] at hs;subst hs;exact CR.mono (fun g hg=>⟨hok g hg,rfl⟩) h
  | ptr b j=>exact Lb ih hblk hrefs hs h
  | own b off len =>
   simp only [snap] at hs
   simp only [dp] at hrefs
   cases hb:H[b]? with
   | none=>rw [hb] at hs;cases hs
   | some o =>
    rw [hb] at hs
    cases o with
    | rsv=>cases hs
    | dead=>cases hs
    | box cells=>cases hs
    | set sb n f=>cases hs
    | mat κ n ln f=>cases hs
    | arr r n f =>
     cases hs
     obtain ⟨_,h2⟩:=h
     rw [hb] at h2
     obtain ⟨hle,a,cap,rfl,hc1,hc2,hown⟩:=h2
     refine ⟨a,cap,rfl,hc1,hc2,Bool.noConfusion,?_⟩
     rcases hown with ⟨h3,_⟩ | ⟨g,cur,e,hg,ha,hw,hsz⟩
     ·exact .inl h3
     ·obtain ⟨h0,hbr⟩:=hblk b _ hb
      rcases hbr with ⟨_,h5⟩ | ⟨g',cur',e',hg',hw',hn,hcells⟩
      ·rw [hg] at h5;cases h5
      ·rw [hg] at hg';cases hg'
       rw [hw] at hw';cases hw'
       refine .inr ⟨g,off*r.len,ha,hrefs b (qzZ.2 rfl) (qfZ.1 hb).1 g hg,fun i j hi hj=>?_⟩
       rw [vt]
       obtain ⟨hk,u,hu,hr⟩:=hcells (off+i) j (by omega) hj
       refine ⟨hk,u,?_,CR.mono (fun g hg=>⟨hok g hg,rfl⟩) hr⟩
       rw [cell_of_row w g _ cur e (0,0) hw,<- hu,Nat.add_mul]
  | aptr b i j =>
   simp only [snap] at hs
   simp only [dp] at hrefs
   cases hb:H[b]? with
   | none=>rw [hb] at hs;cases hs
   | some o =>
    rw [hb] at hs
    cases o with
    | rsv=>cases hs
    | dead=>cases hs
    | box cells=>cases hs
    | set sb n f=>cases hs
    | mat κ n ln f=>cases hs
    | arr r n f =>
     cases hs
     obtain ⟨_,h2⟩:=h
     rw [hb] at h2
     obtain ⟨hi,g,hg,rfl⟩:=h2
     obtain ⟨h0,hbr⟩:=hblk b _ hb
     rcases hbr with ⟨_,h5⟩ | ⟨g',cur',e',hg',hw',hn,hcells⟩
     ·rw [hg] at h5;cases h5
     ·rw [hg] at hg';cases hg'
      refine ⟨g,i*r.len+j,rfl,hrefs b (qzZ.2 rfl) (qfZ.1 hb).1 g hg,fun t ht=>?_⟩
      have hlt:=Kd.drop_len' r j t ht
      rw [vq,Kd.drop_nth j r t ht]
      obtain ⟨hk,u,hu,hr⟩:=hcells i (j+t) hi hlt
      refine ⟨hk,u,?_,CR.mono (fun g hg=>⟨hok g hg,rfl⟩) hr⟩
      rw [cell_of_row w g _ cur' e' (0,0) hw',<- hu,Nat.add_assoc]
  | mrow b i=>cases hs
  | mptr b i k=>cases hs
  | fn f caps =>
   simp only [snap] at hs
   simp only [dp] at hrefs
   obtain ⟨cs,rfl,hsz,hc⟩:=h
   split at hs
   ·rename_i l hq
    cases hs
    obtain ⟨h1,h2⟩:=aX hq
    refine ⟨cs,rfl,by rw [hsz,h1,rcZ],fun t ht=>?_⟩
    obtain ⟨x,hx⟩:∃ x,l[t]?=some x:=⟨l[t],by simp [ht]⟩
    rw [mq hx]
    have h5:=h2 t x hx
    rw [qhZ] at h5
    cases hq2:caps[t]? with
    | none=>rw [hq2] at h5;cases h5
    | some cp =>
     rw [hq2] at h5
     simp only [Option.map_some,rbZ] at h5
     obtain ⟨u,hu,hr⟩:=hc t cp hq2
     refine ⟨u,hu,?_⟩
     cases cp with
     | c x'=>cases h5;exact CR.mono (fun g hg=>⟨hok g hg,rfl⟩) hr
     | ptr b j =>
      refine ih (y:=.ptr b j) (fun b' hb'=>hrefs b' (qyZ.2 ⟨dp H d (.ptr b j),?_,hb'⟩)) h5 hr
      exact rjZ.2 ⟨.ptr b j,qrZ hq2,rfl⟩
   ·cases hs
theorem ou (hblk:∀ (b:Nat) (o:Blk),H[b]?=some o->lH μ ok w H b o) (hok:∀ g,ok g->okS g)
  {y:V} {c:A} {v:Value} (hrefs:∀ b∈eJ H y,b<H.length->∀ g,μ b=some g->okS g) (hs:ll H y=some c) (h:VR μ ok w H y v):AR okS w c v:=by
 cases y with
 | u=>cases hs
 | undef=>cases hs
 | tup l=>cases hs
 | x y =>
  simp only [ll] at hs
  split at hs
  ·rename_i x hx;cases hs;exact lk hblk hok depth hrefs hx h
  ·cases hs
 | agg l =>
  simp only [ll] at hs
  split at hs
  ·rename_i r hq
   cases hs
   obtain ⟨h1,h2⟩:=aX hq
   obtain ⟨cs,rfl,hsz,hc⟩:=h
   refine ⟨cs,rfl,by rw [hsz,h1,rcZ],fun t c ht=>?_⟩
   have h5:=h2 t c ht
   rw [qhZ] at h5
   cases hq2:l[t]? with
   | none=>rw [hq2] at h5;cases h5
   | some y =>
    rw [hq2] at h5
    simp only [Option.map_some,rbZ] at h5
    obtain ⟨u,hu,hr⟩:=hc t y hq2
    exact ⟨u,hu,lk hblk hok depth (fun b hb=>hrefs b (qyZ.2 ⟨_,rjZ.2 ⟨y,qrZ hq2,rfl⟩,hb⟩)) h5 hr⟩
  ·cases hs
theorem cz (v:Value) (h:v.oneCell' = true):V0R μ ok w H (cv0 v) v:=by
 unfold cv0
 split
 ·rfl
 ·rfl
 ·rfl
 ·exact ⟨none,0,rfl,rkZ _,Nat.zero_le _,fun _=>rfl,.inl rfl⟩
 ·exact h
theorem Kz (v:Value):VR μ ok w H (cvV v) v:=by
 cases v with
 | agg cs =>
  simp only [cvV]
  cases hq:cs.toList.all Value.oneCell' with
  | false=>trivial
  | true =>
   refine ⟨cs,rfl,by simp,fun t c ht=>?_⟩
   rw [qhZ] at ht
   cases hq2:cs.toList[t]? with
   | none=>rw [hq2] at ht;cases ht
   | some y =>
    rw [hq2] at ht;cases ht
    exact ⟨y,by simpa using hq2,cz y (qiZ.1 hq y (qrZ hq2))⟩
 | tuple vs=>trivial
 | bool b=>exact cz (μ:=μ) (ok:=ok) (w:=w) (H:=H) (.bool b) rfl
 | int k n=>exact cz (μ:=μ) (ok:=ok) (w:=w) (H:=H) (.int k n) rfl
 | float k n=>exact cz (μ:=μ) (ok:=ok) (w:=w) (H:=H) (.float k n) rfl
 | complex k a b=>exact cz (μ:=μ) (ok:=ok) (w:=w) (H:=H) (.complex k a b) rfl
 | string s=>exact cz (μ:=μ) (ok:=ok) (w:=w) (H:=H) (.string s) rfl
 | pointer a=>exact cz (μ:=μ) (ok:=ok) (w:=w) (H:=H) (.pointer a) rfl
 | slice a l c=>exact cz (μ:=μ) (ok:=ok) (w:=w) (H:=H) (.slice a l c) rfl
 | map r=>exact cz (μ:=μ) (ok:=ok) (w:=w) (H:=H) (.map r) rfl
 | chan r=>exact cz (μ:=μ) (ok:=ok) (w:=w) (H:=H) (.chan r) rfl
 | func f a b=>exact cz (μ:=μ) (ok:=ok) (w:=w) (H:=H) (.func f a b) rfl
 | nilFunc=>exact cz (μ:=μ) (ok:=ok) (w:=w) (H:=H) (.nilFunc) rfl
 | iface t v=>exact cz (μ:=μ) (ok:=ok) (w:=w) (H:=H) (.iface t v) rfl
 | nilIface=>exact cz (μ:=μ) (ok:=ok) (w:=w) (H:=H) (.nilIface) rfl
theorem WN {env:List V} {a:Act} (h:ER df μ ok H w env a) (t:Nat):VR μ ok w H (env.getD t .u) (a.tmps.getD t undef):=by
 rw [qdZ]
 cases hq:env[t]? with
 | none=>trivial
 | some v =>
  obtain ⟨u,hu,hr⟩:=h.env t v hq
  simpa [hu] using hr
theorem aF {st:St} {a:Act} (h:ER df μ ok st.heap w st.env a) (x:Operand):VR μ ok w st.heap (st.ev x) (a.eval x):=by
 cases x with
 | tmp t=>exact WN h t
 | const v=>exact Kz v
 | global g =>
  simp only [St.ev]
  cases hg:Wp g with
  | none=>trivial
  | some p=>exact h.glob g p.1 p.2 hg
 | func f=>exact ⟨#[],rfl,rfl,fun t c ht=>by simp at ht⟩
end
end Go.Eng
