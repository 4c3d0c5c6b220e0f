/-
 A law's arguments of bounded bulk.
-/
import Derived.Test.YtajhkinnmdlokaaGreatEngS
set_option linter.all false
namespace Go.Eng
open Go Go.RowKit Go.ChangeShapes Go.WideShapes Go.Deep
def CU (B:Nat):CV→Prop
 | .s x=>x.size+1≤B
 | .ro _ r n f=>n≤B∧∀ i j,i<n→j<r.len→(r.nth j).okP (f i j)∧CU B (f i j)
 | _=>True
structure Bulk {H:Type} (B:DataW H→Nat):Prop where
 str:∀ l,l.length+1≤B (.lit (.string l))
 sl:∀ es sp,es.length≤B (.slice es sp)∧∀ e,e∈es→B e≤B (.slice es sp)
 agg:∀ ps p,p∈ps→B p≤B (.agg ps)
section
variable (N : Nat) (ok : Nat → Prop) (w : World)
def RowOkU (r:Kd) (cs:List Value):Prop :=
 cs.length=r.len∧∀ j,j<r.len→∃ c u,cs[j]?=some u∧(r.nth j).okP c∧CU N c∧CR ok w c u
end
section
variable {N : Nat} {ok : Nat → Prop} {w : World}
theorem RowOkU.nil:RowOkU N ok w .nil []:=⟨rfl,fun j h=>by simp [Kd.len] at h⟩
theorem RowOkU.app {r1 r2:Kd} {c1 c2:List Value} (h1:RowOkU N ok w r1 c1) (h2:RowOkU N ok w r2 c2):RowOkU N ok w (r1.app r2) (c1 ++ c2):=by
 refine ⟨by rw [List.length_append,h1.1,h2.1,Kd.app_len],fun j hj=>?_⟩
 rw [Kd.app_len] at hj
 by_cases h:j<r1.len
 ·obtain ⟨c,u,hu,hk⟩:=h1.2 j h
  refine ⟨c,u,?_,?_⟩
  ·rw [List.getElem?_append_left (by rw [h1.1];exact h)];exact hu
  ·rw [Kd.app_nth,if_pos h];exact hk
 ·obtain ⟨c,u,hu,hk⟩:=h2.2 (j-r1.len) (by omega)
  refine ⟨c,u,?_,?_⟩
  ·rw [List.getElem?_append_right (by rw [h1.1];omega),h1.1];exact hu
  ·rw [Kd.app_nth,if_neg h];exact hk
theorem RowOkU.one {κ:Kd} {c:CV} {u:Value} (h1:κ.okP c) (h2:CU N c) (h3:CR ok w c u):RowOkU N ok w (.pr κ .nil) [u] :=
 ⟨rfl,fun j hj=>by
  have:j=0:=by simp [Kd.len] at hj;omega
  subst this
  exact ⟨c,u,rfl,h1,h2,h3⟩⟩
theorem rowFs_okU {P:Program} {rt:TypeId→Option Kd} {cs:List Value}:∀ (fs:List Field) (off:Nat) (r:Kd),rowFs P rt fs off=some r →
  (∀ f∈fs,∀ r1,rt f.type=some r1→RowOkU N ok w r1 ((cs.drop f.offset).take (P.cellsOf f.type)))→RowOkU N ok w r ((cs.drop off).take r.len)
 | [],off,r,h,_=>by
  cases h
  simpa [Kd.len] using RowOkU.nil
 | f :: fs,off,r,h,hf=>by
  unfold rowFs at h
  split at h
  ·rename_i r1 hr1
   obtain ⟨hb,h⟩:=bif_some h
   rw [Bool.and_eq_true] at hb
   have e1:=Nat.eq_of_beq_eq_true hb.1
   have e2:=Nat.eq_of_beq_eq_true hb.2
   split at h
   ·rename_i r2 hr2
    cases h
    have h1:=hf f List.mem_cons_self r1 hr1
    have h2:=rowFs_okU fs _ r2 hr2 (fun g hg=>hf g (List.mem_cons_of_mem _ hg))
    rw [e1,e2] at h1
    rw [Kd.app_len,List.take_add,List.drop_drop]
    exact h1.app h2
   ·cases h
  ·cases h
theorem rowRep_okU {r:Kd} {cs:List Value}:∀ (n k:Nat),(∀ i,i<n→RowOkU N ok w r ((cs.drop ((k+i)*r.len)).take r.len))→RowOkU N ok w (rowRep r n) ((cs.drop (k*r.len)).take (n*r.len))
 | 0,k,_=>by simpa [rowRep] using RowOkU.nil
 | n+1,k,h=>by
  have h1:=h 0 (by omega)
  have h2:=rowRep_okU n (k+1) (fun i hi=>by have:=h (i+1) (by omega);rwa [show k+1+i=k+(i+1) from by omega])
  rw [rowRep,Nat.succ_mul,Nat.add_comm (n*r.len),List.take_add,List.drop_drop]
  rw [Nat.add_zero] at h1
  rw [Nat.succ_mul] at h2
  exact h1.app h2
theorem trod_rowU {H:Type} {B:DataW H→Nat} (hB:Bulk B) {enc:TypeId × Value→H} {P:Program} {W:World} {sp:Nat→Bool} {held:Bool}:∀ (d:Nat) (t:TypeId) (r:Kd),rowT P d t=some r→∀ (fuel:Nat) (cs:List Value) (x:DataW H × List MemPlace),
  DataW.trod enc P W 0 sp held fuel t cs=some x→B x.1≤N→RowOkU N (fun g=>g<W.heap.size) W r cs:=by
 intro d
 induction d with
 | zero=>intro t r h;cases h
 | succ d ih =>
  intro t r h fuel cs x ht hbk
  unfold rowT at h
  split at h
  ·rename_i k hu
   cases h
   obtain ⟨n,rfl,_,hwf⟩:=DataW.trod_int hu ht
   exact RowOkU.one (c:=.i k n) ⟨n,rfl⟩ trivial rfl
  ·rename_i hu
   cases h
   obtain ⟨b,rfl,_⟩:=DataW.trod_bool hu ht
   exact RowOkU.one (c:=.b b) ⟨b,rfl⟩ trivial rfl
  ·rename_i hu
   cases h
   obtain ⟨s,rfl,rfl,hs⟩:=DataW.trod_string hu ht
   have:=hB.str s.data.toList
   exact RowOkU.one (c:=.s s) ⟨s,rfl⟩ (by show s.size+1≤N;have e:s.data.toList.length=s.size:=rfl;dsimp only at hbk;omega) rfl
  ·rename_i e hu
   split at h
   ·rename_i re hre
    obtain ⟨hb,h⟩:=bif_some h
    cases h
    rw [Bool.and_eq_true] at hb
    have e1:=Nat.eq_of_beq_eq_true hb.1
    have e2:0<re.len:=by simpa [Nat.blt_eq] using hb.2
    rcases open_slice hu ht with ⟨rfl,_⟩ | ⟨a,len,cap,m,n,D,Pl,rfl,_,hlc,hcm,hm,rfl,hel⟩
    ·exact RowOkU.one (c:=.ro false re 0 fun _ _=>.any) ⟨_,_,_,rfl⟩ ⟨Nat.zero_le _,fun i j hi=>absurd hi (Nat.not_lt_zero i)⟩ ⟨none,0,rfl,Nat.le_refl _,Nat.zero_le _,(fun h=>by cases h),.inl rfl⟩
    ·have hlm:len≤m:=by rw [hm];split<;>omega
     obtain ⟨hbl,hbe⟩:=hB.sl ((List.range len).map D) ((List.range (m-len)).map fun j=>D (len+j))
     have hlN:len≤N:=by simp only [List.length_map,List.length_range] at hbl;exact Nat.le_trans hbl hbk
     have hDN:∀ i,i<len→B (D i)≤N:=fun i hi=>Nat.le_trans (hbe _ (List.mem_map.2 ⟨i,List.mem_range.2 hi,rfl⟩)) hbk
     have hall:∀ i j,∃ c,i<len→j<re.len→(∃ u,W.cell? (a.add (i*re.len) |>.add j)=some u∧(re.nth j).okP c∧CU N c∧CR (fun g=>g<W.heap.size) W c u):=by
      intro i j
      by_cases hi:i<len
      ·by_cases hj:j<re.len
       ·obtain ⟨cs',hc,htr⟩:=hel i (by omega)
        have hro:=ih e re hre _ _ _ htr (hDN i hi)
        obtain ⟨c,u,hcu,hk⟩:=hro.2 j hj
        rw [e1] at hc
        obtain ⟨_,_,hat⟩:=World.cells?_some hc
        exact ⟨c,fun _ _=>⟨u,by rw [hat j hj];exact hcu,hk⟩⟩
       ·exact ⟨.any,fun _ h=>absurd h hj⟩
      ·exact ⟨.any,fun h=>absurd h hi⟩
     refine RowOkU.one (c:=.ro false re len fun i j=>Classical.choose (hall i j)) ⟨_,_,_,rfl⟩ ⟨hlN,fun i j hi hj=>?_⟩ ⟨some a,cap,rfl,hlc,hcm,(fun h=>by cases h),?_⟩
     ·obtain ⟨u,_,hk,hw,_⟩:=Classical.choose_spec (hall i j) hi hj
      exact ⟨hk,hw⟩
     ·by_cases h0:len=0
      ·exact .inl h0
      ·obtain ⟨g,off,spot⟩:=a
       have hs0:spot=none:=by
        obtain ⟨u,hu',_⟩:=Classical.choose_spec (hall 0 0) (by omega) e2
        simp only [Nat.zero_mul,Addr.add,if_true] at hu'
        exact World.cell?_spot hu'
       subst hs0
       have hadd:∀ i j,((⟨g,off,none⟩:Addr).add (i*re.len)).add j=⟨g,off+i*re.len+j,none⟩:=by
        intro i j
        unfold Addr.add
        by_cases h1:i*re.len=0<;>by_cases h2:j=0<;>simp [h1,h2]
       have hg:g<W.heap.size:=by
        obtain ⟨u,hu',_⟩:=Classical.choose_spec (hall 0 0) (by omega) e2
        rw [hadd] at hu'
        unfold World.cell? at hu'
        split at hu'
        ·rename_i hq
         exact (Array.getElem?_eq_some_iff.1 hq).1
        ·cases hu'
       refine .inr ⟨g,off,rfl,hg,fun i j hi hj=>?_⟩
       obtain ⟨u,hu',hk,hw,hcr⟩:=Classical.choose_spec (hall i j) hi hj
       exact ⟨hk,u,by rw [hadd] at hu';exact hu',hcr⟩
   ·cases h
  ·rename_i fs hu
   split at h
   ·rename_i r' hr'
    obtain ⟨hb,h⟩:=bif_some h
    cases h
    have e1:=Nat.eq_of_beq_eq_true hb
    obtain ⟨xs,n,_,rfl,hlen,hxl,hf⟩:=DataW.trod_struct hu ht
    have:=rowFs_okU (P:=P) (ok:=fun g=>g<W.heap.size) (w:=W) (cs:=cs) fs.toList 0 r hr' (fun f hfm r1 hr1=>by
     obtain ⟨i,hi⟩:=List.getElem?_of_mem hfm
     rw [Array.getElem?_toList] at hi
     have h2:=hf i f hi
     have hil:i<xs.length:=by rw [hxl];exact (Array.getElem?_eq_some_iff.1 hi).1
     rw [List.getElem?_eq_getElem hil] at h2
     exact ih _ _ hr1 _ _ _ h2 (Nat.le_trans (hB.agg _ _ (List.mem_map.2 ⟨xs[i],List.getElem_mem _,rfl⟩)) hbk))
    rw [List.drop_zero,List.take_of_length_le (by omega)] at this
    exact this
   ·cases h
  ·rename_i n e hu
   split at h
   ·rename_i r' hr'
    obtain ⟨hb,h⟩:=bif_some h
    cases h
    rw [Bool.and_eq_true] at hb
    have e1:=Nat.eq_of_beq_eq_true hb.1
    have e2:=Nat.eq_of_beq_eq_true hb.2
    obtain ⟨xs,m,_,rfl,hlen,hxl,hf⟩:=DataW.trod_array hu ht
    have:=rowRep_okU (ok:=fun g=>g<W.heap.size) (w:=W) (r:=r') (cs:=cs) n 0 (fun i hi=>by
     have h2:=hf i hi
     have hil:i<xs.length:=by omega
     rw [List.getElem?_eq_getElem hil,e1] at h2
     rw [Nat.zero_add]
     exact ih _ _ hr' _ _ _ h2 (Nat.le_trans (hB.agg _ _ (List.mem_map.2 ⟨xs[i],List.getElem_mem _,rfl⟩)) hbk))
    rw [Nat.zero_mul,List.drop_zero,List.take_of_length_le (by omega)] at this
    exact this
   ·cases h
  ·cases h
theorem open_argNU {H:Type} {B:DataW H→Nat} (hB:Bulk B) {enc:TypeId × Value→H} {P:Program} {W:World} {sp:Nat→Bool} {held:Bool} {d:Nat} {t:TypeId} {r:Kd} (hr:rowT P d t=some r) {cs:Array Value} {dd:DataW H} {ps:List MemPlace}
  (h:DataW.Trod enc P W 0 sp held t (.agg cs) dd ps) (hbk:B dd≤N):∃ l:List CV,l.length=r.len∧(∀ (j:Nat) (c:CV),l[j]?=some c→(r.nth j).okP c∧CU N c)∧AR (fun g=>g<W.heap.size) W (.agg l) (.agg cs):=by
 obtain ⟨fuel,hf⟩:=h
 obtain ⟨h1,h2⟩:=trod_rowU (N:=N) hB d t _ hr fuel _ _ hf hbk
 have hall:∀ j,∃ c,j<r.len→∃ u,cs[j]?=some u∧(r.nth j).okP c∧CU N c∧CR (fun g=>g<W.heap.size) W c u:=by
  intro j
  by_cases hj:j<r.len
  ·obtain ⟨c,u,hu,hk⟩:=h2 j hj
   exact ⟨c,fun _=>⟨u,by simpa [Value.cells] using hu,hk⟩⟩
  ·exact ⟨.any,fun h=>absurd h hj⟩
 refine ⟨(List.range r.len).map fun j=>Classical.choose (hall j),by simp,fun j c hj=>?_,cs,rfl,by simpa [Value.cells] using h1,fun j c hj=>?_⟩
 ·rw [List.getElem?_map] at hj
  by_cases hl:j<r.len
  ·rw [List.getElem?_range hl] at hj
   cases hj
   obtain ⟨u,_,hk,hw,_⟩:=Classical.choose_spec (hall j) hl
   exact ⟨hk,hw⟩
  ·rw [List.getElem?_eq_none (by simp;omega)] at hj;cases hj
 ·rw [List.getElem?_map] at hj
  by_cases hl:j<r.len
  ·rw [List.getElem?_range hl] at hj
   cases hj
   obtain ⟨u,hu,_,_,hcr⟩:=Classical.choose_spec (hall j) hl
   exact ⟨u,hu,hcr⟩
  ·rw [List.getElem?_eq_none (by simp;omega)] at hj;cases hj
end
end Go.Eng
