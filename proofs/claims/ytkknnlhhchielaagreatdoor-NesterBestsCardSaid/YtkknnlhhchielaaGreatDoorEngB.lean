/-
 What the abstract values say of the model's values and memory.
-/
import Derived.Test.YtkknnlhhchielaaGreatDoorEngA
set_option linter.all false
namespace Go.Eng
open Go Go.RowKit
abbrev DF:=List Deferred × List (Nat × Value)
variable {df : DF}
theorem BA {ρ:Type} {n:Int} {f:Int->Option ρ} {r:ρ}:∀ {m j:Nat},BC n j m f=some r->f n=some r
 | 0,_,h=>by cases h
 | m+1,j,h=>by
  unfold BC at h
  cases hq:n==Int.ofNat j with
  | true=>rw [hq] at h;rw [beq_iff_eq] at hq;rw [hq];exact h
  | false=>rw [hq] at h;exact BA h
theorem eY {ρ:Type} {n:Int} {ln:Nat} {f:Int->Option ρ} {r:ρ} (h:GH n ln f=some r):f n=some r:=BA h
theorem BB {ρ σ:Type} {n:Int} {f:Int->Option ρ} {g:ρ->Option σ}:∀ {m j:Nat},(BC n j m f).bind g=BC n j m fun i=>(f i).bind g
 | 0,_=>rfl
 | m+1,j=>by
  unfold BC
  cases n==Int.ofNat j with
  | true=>rfl
  | false=>exact BB
theorem Ks {ρ σ:Type} {n:Int} {ln:Nat} {f:Int->Option ρ} {g:ρ->Option σ}:(GH n ln f).bind g=GH n ln fun i=>(f i).bind g:=BB
def Kd.okP (κ:Kd) (c:CV):Prop :=
 match κ with
 | .int k=>∃ n,c=.i k n
 | .bool=>∃ x,c=.b x
 | .str=>∃ x,c=.s x
 | .sl r=>∃ fl n f,c=.ro fl r n f
 | _=>True
def CR (ok:Nat->Prop) (w:World):CV->Value->Prop
 | .any,v=>v.oneCell' = true
 | .b x,v=>v=.bool x
 | .i k n,v=>v=.int k n
 | .s x,v=>v=.string x
 | .lit x,v=>v=x/\x.oneCell' = true
 | .ro full r n f,v=>∃ a cap,v=.slice a n cap/\n<=cap/\cap<=maxLen/\(full=true->cap=n) /\
   (n=0\/∃ g off,a=some ⟨g,off,none⟩/\ok g /\
    ∀ i j,i<n->j<r.len->(r.nth j).okP (f i j)/\∃ u,w.cell? ⟨g,off+i*r.len+j,none⟩=some u/\CR ok w (f i j) u)
 | .rp r h,v=>∃ g off,v=.pointer (some ⟨g,off,none⟩)/\ok g /\
   ∀ j,j<r.len->(r.nth j).okP (h j)/\∃ u,w.cell? ⟨g,off+j,none⟩=some u/\CR ok w (h j) u
 | .fn f nc caps,v=>∃ cs:Array Value,v=.func (.func f) #[] cs/\cs.size=nc/\∀ j,j<nc->∃ u,cs[j]?=some u/\CR ok w (caps j) u
 | .mp n f,v=>∃ b es clock,v=.map (some b)/\ok b/\w.heap[b]?=some (.map es clock)/\(∀ x,x∈es.toList->∃ s,x.key=.string s) /\
   ∀ s:ByteArray,(Oi n f s=0/\∀ x,x∈es.toList->x.key≠.string s) \/
    ∃ x a cap,x∈es.toList/\x.key=.string s/\(∀ y,y∈es.toList->y.key=.string s->y=x)/\x.val=.slice a (Oi n f s) cap/\Oi n f s<=cap/\cap<=maxLen /\
     (Oi n f s=0\/∃ g off,a=some ⟨g,off,none⟩/\ok g/\∀ i,i<Oi n f s->w.cell? ⟨g,off+i,none⟩=some (.int .i64 (Int.ofNat ((Ya n f s).getD i 0))))
theorem CR.one {ok:Nat->Prop} {w:World} {c:CV} {v:Value} (h:CR ok w c v):v.oneCell' = true:=by
 cases c<;>simp only [CR] at h
 case any=>exact h
 case ro=>obtain ⟨a,cap,rfl,_⟩:=h;rfl
 case rp=>obtain ⟨g,off,rfl,_⟩:=h;rfl
 case fn=>obtain ⟨cs,rfl,_⟩:=h;rfl
 case mp=>obtain ⟨b,es,clock,rfl,_⟩:=h;rfl
 case lit=>obtain ⟨rfl,h⟩:=h;exact h
 all_goals (subst h;rfl)
theorem CR.mono {ok ok' : Nat->Prop} {w w' : World} (hok:∀ g,ok g->ok' g/\w'.heap[g]?=w.heap[g]?) {c:CV} :
  ∀ {v:Value},CR ok w c v->CR ok' w' c v:=by
 have hcell:∀ g o,ok g->w'.cell? ⟨g,o,none⟩=w.cell? ⟨g,o,none⟩:=fun g o hg=>World.cell?_of_block (hok g hg).2
 induction c with
 | any=>exact fun h=>h
 | b x=>exact fun h=>h
 | i k n=>exact fun h=>h
 | s x=>exact fun h=>h
 | lit x=>exact fun h=>h
 | ro full r n f ih =>
  rintro v ⟨a,cap,hv,h1,h2,h3,h4⟩
  refine ⟨a,cap,hv,h1,h2,h3,?_⟩
  rcases h4 with h4 | ⟨g,off,ha,hg,h5⟩
  ·exact .inl h4
  ·refine .inr ⟨g,off,ha,(hok g hg).1,fun i j hi hj=>?_⟩
   obtain ⟨hk,u,hu,hc⟩:=h5 i j hi hj
   exact ⟨hk,u,(hcell _ _ hg).trans hu,ih i j hc⟩
 | rp r h ih =>
  rintro v ⟨g,off,hv,hg,h5⟩
  refine ⟨g,off,hv,(hok g hg).1,fun j hj=>?_⟩
  obtain ⟨hk,u,hu,hc⟩:=h5 j hj
  exact ⟨hk,u,(hcell _ _ hg).trans hu,ih j hc⟩
 | fn f nc caps ih =>
  rintro v ⟨cs,hv,hs,h⟩
  refine ⟨cs,hv,hs,fun j hj=>?_⟩
  obtain ⟨u,hu,hc⟩:=h j hj
  exact ⟨u,hu,ih j hc⟩
 | mp n f =>
  rintro v ⟨b,es,clock,hv,hb,hes,h1,h2⟩
  refine ⟨b,es,clock,hv,(hok b hb).1,(hok b hb).2.trans hes,h1,fun s=>?_⟩
  rcases h2 s with h2 | ⟨x,a,cap,q1,q2,q3,q4,q5,q6,q7⟩
  ·exact .inl h2
  ·refine .inr ⟨x,a,cap,q1,q2,q3,q4,q5,q6,q7.imp id ?_⟩
   rintro ⟨g,off,r1,r2,r3⟩
   exact ⟨g,off,r1,(hok g r2).1,fun i hi=>(hcell _ _ r2).trans (r3 i hi)⟩
theorem CR.proj {ok:Nat->Prop} {w:World} {κ:Kd} {c:CV} {v:Value} (hk:κ.okP c) (h:CR ok w c v):CR ok w (κ.proj c) v:=by
 cases κ<;>simp only [Kd.okP] at hk<;>simp only [Kd.proj]
 case int=>obtain ⟨n,rfl⟩:=hk;exact h
 case bool=>obtain ⟨n,rfl⟩:=hk;exact h
 case str=>obtain ⟨n,rfl⟩:=hk;exact h
 case sl r =>
  obtain ⟨fl,n,f,rfl⟩:=hk
  obtain ⟨a,cap,hv,h1,h2,h3,h4⟩:=h
  exact ⟨a,cap,hv,h1,h2,Bool.noConfusion,h4⟩
 all_goals exact h
theorem eX {a b:IntKind} (h:jP a b=true):a=b:=of_decide_eq_true h
theorem Kd.eq_of_beq:∀ {a b:Kd},a.beq b=true->a=b:=by
 intro a
 induction a with
 | nil=>intro b h;cases b<;>simp_all [Kd.beq]
 | int k=>intro b h;cases b<;>simp_all [Kd.beq];exact eX h
 | bool=>intro b h;cases b<;>simp_all [Kd.beq]
 | str=>intro b h;cases b<;>simp_all [Kd.beq]
 | oth=>intro b h;cases b<;>simp_all [Kd.beq]
 | sl r ih=>intro b h;cases b<;>simp_all [Kd.beq];exact ih h
 | pr a r ia ir=>intro b h;cases b<;>simp_all [Kd.beq];exact ⟨ia h.1,ir h.2⟩
theorem Kd.fits_ok {κ:Kd} {c:CV} (h:κ.fits c=true):κ.okP c:=by
 cases κ<;>simp only [Kd.okP,Kd.fits] at h ⊢
 case int k =>
  have:=Kd.eq_of_beq h
  cases c<;>simp [CV.kd] at this
  subst this;exact ⟨_,rfl⟩
 case bool=>have:=Kd.eq_of_beq h;cases c<;>simp [CV.kd] at this;exact ⟨_,rfl⟩
 case str=>have:=Kd.eq_of_beq h;cases c<;>simp [CV.kd] at this;exact ⟨_,rfl⟩
 case sl r=>have:=Kd.eq_of_beq h;cases c<;>simp [CV.kd] at this;subst this;exact ⟨_,_,_,rfl⟩
theorem CV.kd_ok (c:CV):c.kd.okP c:=by
 cases c<;>simp [CV.kd,Kd.okP]
theorem CB:∀ l:List CV,(vY l).len=l.length
 | []=>rfl
 | _::l=>by simp [vY,Kd.len,CB l]
theorem CA:∀ (l:List CV) (j:Nat) (c:CV),l[j]?=some c->(vY l).nth j=c.kd
 | [],j,c,h=>by simp at h
 | a::l,0,c,h=>by simp at h;subst h;rfl
 | a::l,j+1,c,h=>by simp at h;simpa [vY,Kd.nth] using CA l j c h
theorem Kd.drop_len:∀ (r:Kd) (n:Nat),n<=r.len->(r.drop n).len=r.len-n
 | r,0,_=>by cases r<;>simp [Kd.drop]
 | .pr a r,n+1,h=>by simp [Kd.len] at h;simp [Kd.drop,Kd.len,Kd.drop_len r n h]
 | .nil,n+1,h=>by simp [Kd.len] at h
 | .int _,n+1,h=>by simp [Kd.len] at h
 | .bool,n+1,h=>by simp [Kd.len] at h
 | .str,n+1,h=>by simp [Kd.len] at h
 | .oth,n+1,h=>by simp [Kd.len] at h
 | .sl _,n+1,h=>by simp [Kd.len] at h
theorem Kd.drop_len' (r:Kd) (n j:Nat) (h:j<(r.drop n).len):n+j<r.len:=by
 induction n generalizing r with
 | zero=>cases r<;>simpa [Kd.drop] using h
 | succ n ih =>
  cases r<;>simp only [Kd.drop] at h
  case pr a r=>have:=ih r h;simp only [Kd.len];omega
  all_goals simp [Kd.len] at h
theorem Kd.drop_nth:∀ (n:Nat) (r:Kd) (j:Nat),j<(r.drop n).len->(r.drop n).nth j=r.nth (n+j)
 | 0,r,j,_=>by cases r<;>simp [Kd.drop]
 | n+1,.pr a r,j,h=>by
  simp only [Kd.drop] at h ⊢
  rw [Kd.drop_nth n r j h,Nat.add_right_comm];rfl
 | n+1,.nil,j,h=>by simp [Kd.drop,Kd.len] at h
 | n+1,.int _,j,h=>by simp [Kd.drop,Kd.len] at h
 | n+1,.bool,j,h=>by simp [Kd.drop,Kd.len] at h
 | n+1,.str,j,h=>by simp [Kd.drop,Kd.len] at h
 | n+1,.oth,j,h=>by simp [Kd.drop,Kd.len] at h
 | n+1,.sl _,j,h=>by simp [Kd.drop,Kd.len] at h
theorem vt (off:Nat) (f:Nat->Nat->CV) (i j:Nat):d9 off f i j=f (off+i) j:=by
 cases off<;>simp [d9]
theorem vq (off:Nat) (g:Nat->CV) (j:Nat):mC off g j=g (off+j):=by
 cases off<;>simp [mC]
def rix (L b i:Nat):Nat:=(i+1)*L+b
theorem DE (L b i:Nat):L<=rix L b i:=by
 unfold rix
 have:(i+1)*L=i*L+L:=by rw [Nat.add_mul,Nat.one_mul]
 omega
theorem sE {L b i c:Nat} (h:c<L):rix L b i≠c:=fun e=>by have:=DE L b i;omega
theorem HY {L b b' i i' : Nat} (hb:b<L) (hb' : b' < L) (h:rix L b i=rix L b' i'):b=b'/\i=i':=by
 unfold rix at h
 have e1:((i+1)*L+b) % L=b:=by rw [Nat.add_comm,Nat.add_mul_mod_self_right];exact Nat.mod_eq_of_lt hb
 have e2:((i'+1)*L+b') % L=b':=by rw [Nat.add_comm,Nat.add_mul_mod_self_right];exact Nat.mod_eq_of_lt hb'
 have e3:b=b':=by rw [<- e1,<- e2,h]
 subst e3
 have e4:(i+1)*L=(i'+1)*L:=by omega
 have:=Nat.eq_of_mul_eq_mul_right (by omega) e4
 exact ⟨rfl,by omega⟩
def KG (μ:Nat->Option Nat) (L b i m:Nat) (v:Value):Prop :=
 ∃ a cap,v=.slice a m cap/\m<=cap/\cap<=maxLen/\(m=0\/∃ h,μ (rix L b i)=some h/\a=some ⟨h,0,none⟩)
section
variable (μ : Nat -> Option Nat) (ok : Nat -> Prop) (w : World) (H : List Blk)
def jA (b j:Nat) (v:Value):Prop :=
 v.oneCell' = true /\
 match H[b]? with
 | some (.box _)=>∃ g,μ b=some g/\v=.pointer (some ⟨g,j,none⟩)
 | some .dead=>True
 | _=>False
def WZ:Cap->Value->Prop
 | .c x,v=>CR ok w x v
 | .ptr b j,v=>jA μ H b j v
def Rs (b off len:Nat) (r:Kd) (v:Value):Prop :=
 ∃ a cap,v=.slice a len cap/\len<=cap/\cap<=maxLen /\
  ((len=0/\cap=0) \/
   ∃ g cur e,μ b=some g/\a=some ⟨g,off*r.len,none⟩/\w.heap[g]?=some (.cells cur e (0,0))/\cur.size=(off+cap)*r.len)
def V0R:V0->Value->Prop
 | .u,v=>v.oneCell' = true
 | .c x,v=>CR ok w x v
 | .own b off len,v=>v.oneCell' = true /\
  match H[b]? with
  | some (.arr r n _)=>off+len<=n/\Rs μ w b off len r v
  | some (.set _ _ _)=>∃ g,μ b=some g/\v=.map (some g)
  | some (.mat _ n _ _)=>off=0/\len=n/\n<=maxLen/\∃ g,μ b=some g/\v=.slice (some ⟨g,0,none⟩) n n
  | some .dead=>True
  | _=>False
 | .ptr b j,v=>jA μ H b j v
 | .aptr b i j,v=>v.oneCell' = true /\
  match H[b]? with
  | some (.arr r n _)=>i<n/\∃ g,μ b=some g/\v=.pointer (some ⟨g,i*r.len+j,none⟩)
  | some (.mat _ n _ _)=>i<n/\∃ g,μ b=some g/\v=.pointer (some ⟨g,i+j,none⟩)
  | some .dead=>True
  | _=>False
 | .mrow b i,v=>v.oneCell' = true /\
  match H[b]? with
  | some (.mat _ n ln _)=>i<n/\KG μ H.length b i (ln i) v
  | some .dead=>True
  | _=>False
 | .mptr b i k,v=>v.oneCell' = true /\
  match H[b]? with
  | some (.mat _ n ln _)=>i<n/\k<ln i/\∃ h,μ (rix H.length b i)=some h/\v=.pointer (some ⟨h,k,none⟩)
  | some .dead=>True
  | _=>False
 | .fn f caps,v=>∃ cs:Array Value,v=.func (.func f) #[] cs/\cs.size=caps.length/\∀ (t:Nat) (c:Cap),caps[t]?=some c->∃ u,cs[t]?=some u/\WZ μ ok w H c u
def AR:A->Value->Prop
 | .v x,v=>CR ok w x v
 | .agg l,v=>∃ cs:Array Value,v=.agg cs/\cs.size=l.length/\∀ (t:Nat) (c:CV),l[t]?=some c->∃ u,cs[t]?=some u/\CR ok w c u
def ARs (l:List A) (vs:Array Value):Prop:=vs.size=l.length/\∀ (t:Nat) (x:A),l[t]?=some x->∃ u,vs[t]?=some u/\AR ok w x u
def om (res:List A) (v:Value):Prop :=
 match res with
 | [a]=>AR ok w a v
 | l=>∃ vs:Array Value,v=.tuple vs/\ARs ok w l vs
def VR:V->Value->Prop
 | .u,_=>True
 | .undef,v=>v=undef
 | .x y,v=>V0R μ ok w H y v
 | .agg l,v=>∃ cs:Array Value,v=.agg cs/\cs.size=l.length/\∀ (t:Nat) (c:V0),l[t]?=some c->∃ u,cs[t]?=some u/\V0R μ ok w H c u
 | .tup l,v=>∃ vs:Array Value,v=.tuple vs/\ARs ok w l vs
def mvV (sb:Nat) (x:Int):Value:=match sb with
 | 2=>.bool (x==1)
 | _=>.int .i64 x
def lH (b:Nat):Blk->Prop
 | .rsv=>μ b=none
 | .dead=>True
 | .box cells=>∃ g cur e,μ b=some g/\w.heap[g]?=some (.cells cur e (0,0))/\cur.size=cells.length /\
   ∀ (j:Nat) (c:V0),cells[j]?=some c->∃ u,cur[j]?=some u/\V0R μ ok w H c u
 | .arr r n f=>0<r.len/\((n=0/\μ b=none)\/∃ g cur e,μ b=some g/\w.heap[g]?=some (.cells cur e (0,0))/\n*r.len<=cur.size /\
   ∀ i j,i<n->j<r.len->(r.nth j).okP (f i j)/\∃ u,cur[i*r.len+j]?=some u/\CR ok w (f i j) u)
 | .set sb n f=>∃ g es,μ b=some g/\w.heap[g]?=some (.map es n)/\es.size=n /\
   (sb=0->∀ i,i<n->∃ x y,f i 0=.i .i64 x/\f i 1=.i .i64 y/\es[i]?=some { key:=.agg #[.int .i64 x,.int .i64 y],val:=.bool true,born:=i }) /\
   (0<sb->(∀ i,i<n->∃ s x,f i 0=.s s/\f i 1=.i .i64 x/\es[i]?=some { key:=.string s,val:=mvV sb x,born:=i })/\∀ i j s,i<n->j<n->f i 0=.s s->f j 0=.s s->i=j)
 | .mat κ n ln f=>κ.scalarK=true/\n<=maxLen/\∃ g cur e,μ b=some g/\w.heap[g]?=some (.cells cur e (0,0))/\cur.size=n /\
   ∀ i,i<n->∃ u,cur[i]?=some u/\KG μ H.length b i (ln i) u/\∀ h,0<ln i->μ (rix H.length b i)=some h->∃ rc e',w.heap[h]?=some (.cells rc e' (0,0))/\ln i<=rc.size /\
    ∀ k,k<ln i->κ.okP (f i k)/\∃ u,rc[k]?=some u/\CR ok w (f i k) u
end
theorem jA.one {μ:Nat->Option Nat} {H:List Blk} {b j:Nat} {v:Value} (h:jA μ H b j v):v.oneCell' = true:=h.1
theorem V0R.one {μ:Nat->Option Nat} {ok:Nat->Prop} {w:World} {H:List Blk} {y:V0} {v:Value} (h:V0R μ ok w H y v):v.oneCell' = true:=by
 cases y<;>simp only [V0R] at h
 case u=>exact h
 case c=>exact h.one
 case own=>exact h.1
 case ptr=>exact h.one
 case aptr=>exact h.1
 case mrow=>exact h.1
 case mptr=>exact h.1
 case fn=>obtain ⟨cs,rfl,_⟩:=h;rfl
theorem Kd.flat_scalar:∀ (r:Kd) (j:Nat) (c:CV),r.flat=true->j<r.len->(r.nth j).okP c->c.scalar=true
 | .pr (.int k) r,0,c,_,_,h=>by obtain ⟨n,rfl⟩:=h;rfl
 | .pr .bool r,0,c,_,_,h=>by obtain ⟨n,rfl⟩:=h;rfl
 | .pr .str r,0,c,_,_,h=>by obtain ⟨n,rfl⟩:=h;rfl
 | .pr (.int k) r,j+1,c,hf,hl,h=>Kd.flat_scalar r j c hf (by simpa [Kd.len] using hl) h
 | .pr .bool r,j+1,c,hf,hl,h=>Kd.flat_scalar r j c hf (by simpa [Kd.len] using hl) h
 | .pr .str r,j+1,c,hf,hl,h=>Kd.flat_scalar r j c hf (by simpa [Kd.len] using hl) h
 | .pr .nil r,_,_,hf,_,_=>by cases hf
 | .pr .oth r,_,_,hf,_,_=>by cases hf
 | .pr (.sl _) r,_,_,hf,_,_=>by cases hf
 | .pr (.pr _ _) r,_,_,hf,_,_=>by cases hf
 | .nil,_,_,_,h,_=>by simp [Kd.len] at h
 | .int _,_,_,hf,_,_=>by cases hf
 | .bool,_,_,hf,_,_=>by cases hf
 | .str,_,_,hf,_,_=>by cases hf
 | .oth,_,_,hf,_,_=>by cases hf
 | .sl _,_,_,hf,_,_=>by cases hf
structure Ext (μ:Nat->Option Nat) (ok:Nat->Prop) (w:World) (H:List Blk) (μ' : Nat->Option Nat) (ok' : Nat->Prop) (w' : World) (H' : List Blk):Prop where
 ok:∀ g,ok g->ok' g/\w'.heap[g]?=w.heap[g]?
 dead:∀ b:Nat,H[b]?=some Blk.dead->H'[b]?=some Blk.dead
 box:∀ (b:Nat) (cs:List V0),H[b]?=some (Blk.box cs)->H'[b]?=some Blk.dead\/((∃ cs',H'[b]?=some (.box cs'))/\μ' b=μ b)
 arr:∀ (b:Nat) (r:Kd) (n:Nat) (f:Nat->Nat->CV),H[b]?=some (Blk.arr r n f)->H'[b]?=some Blk.dead \/
  ((∃ f',H'[b]?=some (.arr r n f'))/\μ' b=μ b/\∀ g cur e,μ b=some g->w.heap[g]?=some (.cells cur e (0,0))->∃ cur' e',w'.heap[g]?=some (.cells cur' e' (0,0))/\cur'.size=cur.size)
 set:∀ (b:Nat) (sb:Nat) (n:Nat) (f:Nat->Nat->CV),H[b]?=some (Blk.set sb n f)->H'[b]?=some Blk.dead\/((∃ n' f',H'[b]?=some (.set sb n' f'))/\μ' b=μ b)
 mat:∀ (b:Nat) (κ:Kd) (n:Nat) (ln:Nat->Nat) (f:Nat->Nat->CV),H[b]?=some (Blk.mat κ n ln f)->H'[b]?=some Blk.dead\/((∃ f',H'[b]?=some (.mat κ n ln f'))/\μ' b=μ b/\∀ i,μ' (rix H'.length b i)=μ (rix H.length b i))
section
variable {μ μ' : Nat -> Option Nat} {ok ok' : Nat -> Prop} {w w' : World} {H H' : List Blk}
theorem Ext.ptr (E:Ext μ ok w H μ' ok' w' H') {b j:Nat} {v:Value} (h:jA μ H b j v):jA μ' H' b j v:=by
 obtain ⟨h1,h2⟩:=h
 refine ⟨h1,?_⟩
 cases hb:H[b]? with
 | none=>rw [hb] at h2;exact h2.elim
 | some o =>
  rw [hb] at h2
  cases o with
  | rsv=>exact h2.elim
  | arr r n f=>exact h2.elim
  | set sb n f=>exact h2.elim
  | mat κ n ln f=>exact h2.elim
  | dead=>rw [E.dead b hb];trivial
  | box cs =>
   obtain ⟨g,hg,hv⟩:=h2
   rcases E.box b cs hb with h | ⟨⟨cs',h⟩,hm⟩
   ·rw [h];trivial
   ·rw [h];exact ⟨g,hm.trans hg,hv⟩
theorem Ext.cap (E:Ext μ ok w H μ' ok' w' H') {c:Cap} {v:Value} (h:WZ μ ok w H c v):WZ μ' ok' w' H' c v:=by
 cases c with
 | c x=>exact CR.mono E.ok h
 | ptr b j=>exact E.ptr h
theorem Ext.v0 (E:Ext μ ok w H μ' ok' w' H') {y:V0} {v:Value} (h:V0R μ ok w H y v):V0R μ' ok' w' H' y v:=by
 cases y with
 | u=>exact h
 | c x=>exact CR.mono E.ok h
 | ptr b j=>exact E.ptr h
 | fn f caps =>
  obtain ⟨cs,hv,hs,hc⟩:=h
  exact ⟨cs,hv,hs,fun t c ht=>let ⟨u,hu,hr⟩:=hc t c ht;⟨u,hu,E.cap hr⟩⟩
 | own b off len =>
  obtain ⟨h1,h2⟩:=h
  refine ⟨h1,?_⟩
  cases hb:H[b]? with
  | none=>rw [hb] at h2;exact h2.elim
  | some o =>
   rw [hb] at h2
   cases o with
   | rsv=>exact h2.elim
   | box cs=>exact h2.elim
   | dead=>rw [E.dead b hb];trivial
   | arr r n f =>
    obtain ⟨hle,a,cap,hv,hc1,hc2,hown⟩:=h2
    rcases E.arr b r n f hb with h | ⟨⟨f',h⟩,hm,hk⟩
    ·rw [h];trivial
    ·rw [h]
     refine ⟨hle,a,cap,hv,hc1,hc2,?_⟩
     rcases hown with h3 | ⟨g,cur,e,hg,ha,hw,hsz⟩
     ·exact .inl h3
     ·obtain ⟨cur',e',hw',hs'⟩:=hk g cur e hg hw
      exact .inr ⟨g,cur',e',hm.trans hg,ha,hw',hs'.trans hsz⟩
   | set sb n f =>
    obtain ⟨g,hg,hv⟩:=h2
    rcases E.set b sb n f hb with h | ⟨⟨n',f',h⟩,hm⟩
    ·rw [h];trivial
    ·rw [h];exact ⟨g,hm.trans hg,hv⟩
   | mat κ n ln f =>
    obtain ⟨h3,h4,h5,g,hg,hv⟩:=h2
    rcases E.mat b κ n ln f hb with h | ⟨⟨f',h⟩,hm,_⟩
    ·rw [h];trivial
    ·rw [h];exact ⟨h3,h4,h5,g,hm.trans hg,hv⟩
 | aptr b i j =>
  obtain ⟨h1,h2⟩:=h
  refine ⟨h1,?_⟩
  cases hb:H[b]? with
  | none=>rw [hb] at h2;exact h2.elim
  | some o =>
   rw [hb] at h2
   cases o with
   | rsv=>exact h2.elim
   | box cs=>exact h2.elim
   | dead=>rw [E.dead b hb];trivial
   | arr r n f =>
    obtain ⟨hi,g,hg,hv⟩:=h2
    rcases E.arr b r n f hb with h | ⟨⟨f',h⟩,hm,_⟩
    ·rw [h];trivial
    ·rw [h];exact ⟨hi,g,hm.trans hg,hv⟩
   | set sb n f=>exact h2.elim
   | mat κ n ln f =>
    obtain ⟨hi,g,hg,hv⟩:=h2
    rcases E.mat b κ n ln f hb with h | ⟨⟨f',h⟩,hm,_⟩
    ·rw [h];trivial
    ·rw [h];exact ⟨hi,g,hm.trans hg,hv⟩
 | mrow b i =>
  obtain ⟨h1,h2⟩:=h
  refine ⟨h1,?_⟩
  cases hb:H[b]? with
  | none=>rw [hb] at h2;exact h2.elim
  | some o =>
   rw [hb] at h2
   cases o with
   | rsv=>exact h2.elim
   | box cs=>exact h2.elim
   | dead=>rw [E.dead b hb];trivial
   | arr r n f=>exact h2.elim
   | set sb n f=>exact h2.elim
   | mat κ n ln f =>
    obtain ⟨hi,a,cap,hv,q1,q2,q3⟩:=h2
    rcases E.mat b κ n ln f hb with h | ⟨⟨f',h⟩,hm,hr⟩
    ·rw [h];trivial
    ·rw [h];exact ⟨hi,a,cap,hv,q1,q2,q3.imp id fun ⟨x,x1,x2⟩=>⟨x,(hr i).trans x1,x2⟩⟩
 | mptr b i k =>
  obtain ⟨h1,h2⟩:=h
  refine ⟨h1,?_⟩
  cases hb:H[b]? with
  | none=>rw [hb] at h2;exact h2.elim
  | some o =>
   rw [hb] at h2
   cases o with
   | rsv=>exact h2.elim
   | box cs=>exact h2.elim
   | dead=>rw [E.dead b hb];trivial
   | arr r n f=>exact h2.elim
   | set sb n f=>exact h2.elim
   | mat κ n ln f =>
    obtain ⟨hi,hk,x,x1,x2⟩:=h2
    rcases E.mat b κ n ln f hb with h | ⟨⟨f',h⟩,hm,hr⟩
    ·rw [h];trivial
    ·rw [h];exact ⟨hi,hk,x,(hr i).trans x1,x2⟩
theorem AR.mono (hok:∀ g,ok g->ok' g/\w'.heap[g]?=w.heap[g]?) {a:A} {v:Value} (h:AR ok w a v):AR ok' w' a v:=by
 cases a with
 | v x=>exact CR.mono hok h
 | agg l =>
  obtain ⟨cs,hv,hs,hc⟩:=h
  exact ⟨cs,hv,hs,fun t c ht=>let ⟨u,hu,hr⟩:=hc t c ht;⟨u,hu,CR.mono hok hr⟩⟩
theorem ARs.mono (hok:∀ g,ok g->ok' g/\w'.heap[g]?=w.heap[g]?) {l:List A} {vs:Array Value} (h:ARs ok w l vs):ARs ok' w' l vs :=
 ⟨h.1,fun t x ht=>let ⟨u,hu,hr⟩:=h.2 t x ht;⟨u,hu,AR.mono hok hr⟩⟩
theorem Ext.v (E:Ext μ ok w H μ' ok' w' H') {y:V} {v:Value} (h:VR μ ok w H y v):VR μ' ok' w' H' y v:=by
 cases y with
 | u=>trivial
 | undef=>exact h
 | x y=>exact E.v0 h
 | agg l =>
  obtain ⟨cs,hv,hs,hc⟩:=h
  exact ⟨cs,hv,hs,fun t c ht=>let ⟨u,hu,hr⟩:=hc t c ht;⟨u,hu,E.v0 hr⟩⟩
 | tup l =>
  obtain ⟨vs,hv,hs⟩:=h
  exact ⟨vs,hv,ARs.mono E.ok hs⟩
end
structure cD where
 w:World
 own:Nat->Prop
structure Below (B:Nat) (w w' : World):Prop extends Go.RowKit.Below B w w' where
 drawn:w.drawn<=w'.drawn
theorem Below.refl (B:Nat) (w:World):Below B w w:=⟨Go.RowKit.Below.refl B w,rkZ _⟩
theorem Below.trans {B:Nat} {a b c:World} (h:Below B a b) (k:Below B b c):Below B a c:=⟨Go.RowKit.Below.trans h.toBelow k.toBelow,Nat.le_trans h.drawn k.drawn⟩
theorem Below.mono {B B' : Nat} {w w' : World} (h:Below B w w') (hB:B'<=B):Below B' w w':=⟨Go.RowKit.Below.mono h.toBelow hB,h.drawn⟩
theorem Below.drew {B:Nat} {a w:World} (h:Below B a w):Below B a w.drew:=⟨Go.RowKit.Below.drew h.toBelow,Nat.le_trans h.drawn (Nat.le_succ _)⟩
theorem Below.alloc {B:Nat} {a w:World} (h:Below B a w) (hB:B<=w.heap.size) (o:Obj):Below B a (w.alloc o):=⟨Go.RowKit.Below.alloc h.toBelow hB o,h.drawn⟩
structure aU (w0:cD) (w' : World):Prop where
 os:w'.os=w0.w.os
 tape:w'.tape=w0.w.tape
 output:w'.output=w0.w.output
 size:w0.w.heap.size<=w'.heap.size
 block:∀ k,k<w0.w.heap.size->¬ w0.own k->w'.heap[k]?=w0.w.heap[k]?
 lent:∀ k,w0.own k->∀ (cur:Array Value) (e:TypeId),w0.w.heap[k]?=some (.cells cur e (0,0))->∃ cur' : Array Value,w'.heap[k]?=some (.cells cur' e (0,0))/\cur'.size=cur.size
 drawn:w0.w.drawn<=w'.drawn
theorem aU.trans {w0:cD} {w w' : World} (h:aU w0 w) (h' : Below w0.w.heap.size w w'):aU w0 w' :=
 ⟨h'.os.trans h.os,h'.tape.trans h.tape,h'.output.trans h.output,Nat.le_trans h.size h'.size,fun k hk ho=>(h'.block k hk).trans (h.block k hk ho),fun k ho cur e hc=>by
  obtain ⟨cur',h1,h2⟩:=h.lent k ho cur e hc
  have hlt:k<w0.w.heap.size:=(qqZ.1 hc).1
  exact ⟨cur',(h'.block k hlt).trans h1,h2⟩,Nat.le_trans h.drawn h'.drawn⟩
theorem aU.turn {w0:cD} {w:World} (h:aU w0 w) {g:Nat} {cur cur' : Array Value} {e:TypeId} (hw:w.heap[g]?=some (.cells cur e (0,0))) (hsz:cur'.size=cur.size) (hg:w0.w.heap.size<=g\/w0.own g)
  (hrow:(w.setRow g cur').heap[g]?=some (.cells cur' e (0,0))) (hoth:∀ k,k≠g->(w.setRow g cur').heap[k]?=w.heap[k]?):aU w0 (w.setRow g cur') :=
 ⟨h.os,h.tape,h.output,by simpa using h.size,fun k hk ho=>(hoth k (fun he=>hg.elim (fun h1=>by omega) (fun h1=>ho (by rw [he];exact h1)))).trans (h.block k hk ho),fun k ho cu e' hc=>by
  obtain ⟨c1,h1,h2⟩:=h.lent k ho cu e' hc
  by_cases hk:k=g
  ·subst hk
   rw [hw] at h1;cases h1
   exact ⟨cur',hrow,hsz.trans h2⟩
  ·exact ⟨c1,(hoth k hk).trans h1,h2⟩,h.drawn⟩
structure MR (w0:cD) (okA:Nat->Prop) (μ:Nat->Option Nat) (ok:Nat->Prop) (H:List Blk) (w:World):Prop where
 below:aU w0 w
 okd:∀ g,ok g->g<w.heap.size/\(okA g\/w0.w.heap.size<=g\/w0.own g)
 keep:∀ g,okA g->ok g
 fresh:∀ b g,μ b=some g->(w0.w.heap.size<=g\/w0.own g)/\g<w.heap.size/\¬ ok g
 inj:∀ b b' g,μ b=some g->μ b' = some g->b=b'
 blk:∀ (b:Nat) (o:Blk),H[b]?=some o->lH μ ok w H b o
 tag:∀ (b g:Nat) (r:Kd) (n:Nat) (f:Nat->Nat->CV),H[b]?=some (.arr r n f)->r.tagged=true->μ b=some g->w0.own g
def eN (ok:Nat->Prop) (w:World):Prop:=∀ g r h,Wp g=some (r,h)->CR ok w (.rp r h) (.pointer (some ⟨g,0,none⟩))
theorem eN.mono {ok ok' : Nat->Prop} {w w' : World} (hok:∀ g,ok g->ok' g/\w'.heap[g]?=w.heap[g]?) (h:eN ok w):eN ok' w' :=
 fun g r f hg=>CR.mono hok (h g r f hg)
structure ER (df:DF) (μ:Nat->Option Nat) (ok:Nat->Prop) (H:List Blk) (w:World) (env:List V) (a:Act):Prop where
 size:a.tmps.size=env.length
 env:∀ (t:Nat) (v:V),env[t]?=some v->∃ u,a.tmps[t]?=some u/\VR μ ok w H v u
 defers:a.defers=df.1/\∀ q,q∈df.2->a.tmps[q.1]?=some q.2
 glob:eN ok w
theorem ER.ext {μ μ' : Nat->Option Nat} {ok ok' : Nat->Prop} {w w' : World} {H H' : List Blk} (E:Ext μ ok w H μ' ok' w' H') {env:List V} {a:Act}
  (h:ER df μ ok H w env a):ER df μ' ok' H' w' env a :=
 ⟨h.size,fun t v ht=>let ⟨u,hu,hr⟩:=h.env t v ht;⟨u,hu,E.v hr⟩,h.defers,h.glob.mono E.ok⟩
theorem ER.put {μ:Nat->Option Nat} {ok:Nat->Prop} {w:World} {H:List Blk} {env:List V} {a:Act} (h:ER df μ ok H w env a) {d:Nat} {v:V} {u:Value} (hd:∀ q,q∈df.2->d≠q.1) (hv:VR μ ok w H v u) :
  ER df μ ok H w (env.set d v) (a.put (some d) u):=by
 refine ⟨by simp [Act.put,h.size],fun t x ht=>?_,⟨h.defers.1,fun q hq=>by simp only [Act.put];rw [Array.getElem?_setIfInBounds_ne (hd q hq)];exact h.defers.2 q hq⟩,h.glob⟩
 simp only [Act.put]
 by_cases htd:d=t
 ·subst htd
  rw [List.getElem?_set] at ht
  simp only [if_true] at ht
  split at ht
  ·rename_i hlt
   simp at ht;subst ht
   exact ⟨u,by simp [Array.getElem?_setIfInBounds,h.size,hlt],hv⟩
  ·cases ht
 ·rw [qoZ htd] at ht
  obtain ⟨u',hu',hr⟩:=h.env t x ht
  exact ⟨u',by rw [Array.getElem?_setIfInBounds_ne htd];exact hu',hr⟩
theorem ER.putO {μ:Nat->Option Nat} {ok:Nat->Prop} {w:World} {st:St} {a:Act} (h:ER df μ ok st.heap w st.env a) {d:Option Nat} {v:V} {u:Value} (hd:∀ q,q∈df.2->d≠some q.1) (hv:VR μ ok w st.heap v u) :
  ER df μ ok (st.putO d v).heap w (st.putO d v).env (a.put d u):=by
 cases d with
 | none=>exact h
 | some d=>exact h.put (fun q hq k=>hd q hq (by rw [k])) hv
@[simp] theorem St.putO_heap (st:St) (d:Option Nat) (v:V):(st.putO d v).heap=st.heap:=by cases d<;>rfl
end Go.Eng
