/-
 Several texts in one.
-/
import Derived.Test.YtajhkinnmdlokaaGreatEngH2
set_option linter.all false
/-
 Operations,part 7: slices of one's own.
-/
namespace Go.Eng
open Go Go.RowKit
variable {df : DF}
section
variable {ρ : Type} {P : Program} {C : Oracle} {hb : Nat} {w0 : Base} {okA : Nat → Prop} {μ : Nat → Option Nat} {ok : Nat → Prop} {st : St} {a : Act} {w : World}
 {o:Oper} {k:V→St→Option ρ} {r:ρ} {next:Act→World→Prop} {Q:Exit→Act→World→Prop}
theorem getBang (z:Array Value) (t:Nat) (h:t<z.size):z[t]! = z[t]:=by simp [h]
theorem op_buildSlice (hm:MR w0 okA μ ok st.heap w) (he:ER df μ ok st.heap w st.env a) (hk:Owed df w0 okA a k r fun u w=>next (a.put o.dst u) w)
  {q:Nat} {t e:TypeId} {rr:Kd} {ln:Nat} {zs:List V0} {parts:List (Nat × Operand)} (ho:o.op=.buildSlice t ln parts.toArray) (hP:(AOp.buildSlice q t e rr ln zs parts).okP P=true)
  (h:evalOp C hb st (.buildSlice q t e rr ln zs parts) k=some r):o.wp P a w next Q:=by
 simp only [AOp.okP,Bool.and_eq_true] at hP
 obtain ⟨hP,htg⟩:=hP
 obtain ⟨⟨⟨⟨hP1,hP2⟩,hP3⟩,hP4⟩,hP5⟩:=hP
 have hu:=sliceIs_eq hP1
 have hs:=sizeIs_run (w:=w) hP2
 have hpos:0<rr.len:=by simpa using hP3
 have hbig:=Nat.le_of_ble_eq_true hP4
 -- the zero cells
 obtain ⟨z,hz,hzl,hzc⟩:∃ z,(zeroValue e).run P w=.ok z w∧z.cells.size=rr.len∧(zs.length=rr.len∧CsR μ ok w st.heap zs z.cells.toList):=by
  split at hP5
  ·rename_i i hi
   split at hP5
   ·rename_i z hz
    rw [Bool.and_eq_true] at hP5
    have h1:=zerosOk_sound (μ:=μ) (ok:=ok) (w:=w) (H:=st.heap) hP5.1
    have h2:=Nat.eq_of_beq_eq_true hP5.2
    exact ⟨z,by simp [zeroValue,typeInfo,hi,hz],by rw [← h2,← h1.1];simp,h2,h1⟩
   ·cases hP5
  ·cases hP5
 simp only [evalOp] at h
 split at h
 ·cases h
 ·rename_i l hl
  split at h
  ·cases h
  ·rename_i cs hcsn
   obtain ⟨hfit,h⟩:=bif_some h
   have hbase:CsR μ ok w st.heap ((List.range (ln*rr.len)).map fun t=>zs.getD (t % rr.len) .u) ((Array.range (ln*rr.len)).map (z.cells[· % z.cells.size]!)).toList:=by
    refine ⟨by simp,fun t c ht=>?_⟩
    rw [List.getElem?_map] at ht
    cases hq:(List.range (ln*rr.len))[t]? with
    | none=>rw [hq] at ht;cases ht
    | some t' =>
     have hlt:t<ln*rr.len:=by have:=(List.getElem?_eq_some_iff.1 hq).1;simpa using this
     rw [List.getElem?_range hlt] at hq;cases hq
     rw [List.getElem?_range hlt] at ht
     simp only [Option.map_some,Option.some.injEq] at ht
     have hmod:t % rr.len<rr.len:=Nat.mod_lt _ hpos
     have hget:zs[t % rr.len]?=some c:=by
      rw [← ht,List.getD_eq_getElem?_getD,List.getElem?_eq_getElem (by rw [hzc.1];exact hmod)];rfl
     obtain ⟨u,hu',hr⟩:=hzc.2.2 _ c hget
     refine ⟨u,?_,hr⟩
     have hu2:z.cells[t % rr.len]?=some u:=by simpa using hu'
     have hu3:=Array.getElem?_eq_some_iff.1 hu2
     simp only [Array.toList_map,Array.toList_range,List.getElem?_map,List.getElem?_range hlt,Option.map_some,Option.some.injEq]
     rw [hzl,getBang _ _ (by rw [hzl];exact hmod)]
     exact hu3.2
   obtain ⟨cells,hf1,hf2,hf3⟩:=fill_sound hl hbase (by simp) (parts_sound he parts)
   have hcsz:cells.size=ln*rr.len:=by rw [hf3];simp
   have hll:l.length=ln*rr.len:=by rw [← hf2.1];simp [hcsz]
   obtain ⟨hcl,hcg⟩:=allSome_get hcsn
   rw [List.length_map,hll] at hcl
   have hrun:(execOp a.eval o).run P w=.ok (.value (.slice (some ⟨w.heap.size,0,none⟩) ln ln)) (w.alloc (.cells cells e)):=by
    have hpp:(parts.toArray.map fun (p:Nat × Operand)=>(p.1,a.eval p.2)).toList=parts.map fun p=>(p.1,a.eval p.2):=by simp
    simp only [execOp,ho,Instr.buildSlice,Sem.run_bind,run_underlying hu,Result.andThen_ok,hs,Sem.run_ite,if_neg (show ¬ ln*rr.len>2 ^ 24 by omega),Sem.run_pure,Result.andThen_ite]
    by_cases h0:ln*rr.len=0
    ·have hA:∀ f:Nat→Value,(Array.range (ln*rr.len)).map f=(Array.range (ln*rr.len)).map (z.cells[· % z.cells.size]!):=fun f=>by simp [h0]
     rw [if_pos h0,hA,hpp,hf1]
     simp [newRow]
    ·rw [if_neg h0,hz,Result.andThen_ok,hpp,hf1]
     simp [newRow]
   -- what is let go
   obtain ⟨μ1,ok1,hm1,E1,hok1,hkill,hμ1,hH1⟩:=hm.freeze ((l.map (refs st.heap depth)).flatten)
   obtain ⟨hm1,he1⟩:=thaw_sound hm he ((l.map (refs st.heap depth)).flatten) hm1 E1 hkill hH1
   unfold newB at h
   dsimp only at h
   split at h
   ·rename_i hres
    have hcont:∀ (t:Nat) (c:CV),cs[t]?=some c→∃ u,cells[t]?=some u∧CR ok1 w c u:=by
     intro t c ht
     have h6:=hcg t c ht
     rw [List.getElem?_map] at h6
     cases hq2:l[t]? with
     | none=>rw [hq2] at h6;cases h6
     | some y0 =>
      rw [hq2] at h6
      simp only [Option.map_some,Option.some.injEq] at h6
      obtain ⟨u,hu',hr⟩:=hf2.2 t y0 hq2
      exact ⟨u,by simpa using hu',snap_sound hm.blk (fun g hg=>(E1.ok g hg).1) depth (fun b hb hlt=>hkill b (List.mem_flatten.2 ⟨_,List.mem_map.2 ⟨y0,List.mem_of_getElem? hq2,rfl⟩,hb⟩) hlt) h6 hr⟩
    obtain ⟨μ2,h1,h2,h3,h4,h5,E⟩:=new_step (st:=st.thaw ((l.map (refs st.heap depth)).flatten)) hm1 he1 hres (.arr rr ln (fun i j=>listF cs (i*rr.len+j))) cells e ⟨rfl,below_alloc (st:=st.thaw ((l.map (refs st.heap depth)).flatten)) hm1 _⟩ (fun _ _ _ hh ht=>by cases hh;simp [ht] at htg)
     (fun μ' E hμ hw=>⟨hpos,.inr ⟨w.heap.size,cells,e,hμ,hw,by omega,fun i j hi hj=>by
      have hidx:i*rr.len+j<ln*rr.len:=by
       have:(i+1)*rr.len≤ln*rr.len:=Nat.mul_le_mul_right _ hi
       rw [Nat.add_mul,Nat.one_mul] at this
       omega
      obtain ⟨c,hc'⟩:∃ c,cs[i*rr.len+j]?=some c:=⟨cs[i*rr.len+j]'(by omega),by simp⟩
      obtain ⟨u,hu',hr⟩:=hcont _ c hc'
      show (rr.nth j).okP (listF cs (i*rr.len+j))∧∃ u,cells[i*rr.len+j]?=some u∧CR ok1 _ (listF cs (i*rr.len+j)) u
      rw [listF_at hc']
      refine ⟨?_,u,hu',CR.mono E.ok hr⟩
      have hfi:=List.all_eq_true.1 hfit i (by simpa using hi)
      have:=allFit_at (t:=j) (c:=c) hfi (by rw [List.getElem?_take_of_lt hj,List.getElem?_drop];exact hc')
      rw [Nat.zero_add] at this
      exact Kd.fits_ok this⟩⟩)
    have hv:V0R μ2 ok1 (w.alloc (.cells cells e)) (St.setB (st.thaw ((l.map (refs st.heap depth)).flatten)) (hb+q) (.arr rr ln (fun i j=>listF cs (i*rr.len+j)))).heap (.own (hb+q) 0 ln) (.slice (some ⟨w.heap.size,0,none⟩) ln ln):=by
     refine ⟨rfl,?_⟩
     rw [h4]
     refine ⟨by omega,_,ln,rfl,Nat.le_refl _,?_,.inr ⟨w.heap.size,cells,e,h3,by simp,h5,by rw [hcsz];simp⟩⟩
     have:ln≤ln*rr.len:=Nat.le_mul_of_pos_right _ hpos
     simp only [maxLen];omega
    exact wp_value hrun (hk μ2 ok1 (.x (.own (hb+q) 0 ln)) _ _ _ h1 h2 hv h)
   ·cases h
theorem op_makeSlice (hm:MR w0 okA μ ok st.heap w) (he:ER df μ ok st.heap w st.env a) (hk:Owed df w0 okA a k r fun u w=>next (a.put o.dst u) w)
  {q:Nat} {t e:TypeId} {rr:Kd} {bytes:Nat} {zs:List CV} {l c:Operand} (ho:o.op=.makeSlice t l c) (hP:(AOp.makeSlice q t e rr bytes zs l c).okP P=true)
  (h:evalOp C hb st (.makeSlice q t e rr bytes zs l c) k=some r):o.wp P a w next Q:=by
 have hl:=ev_sound he l
 have hc:=ev_sound he c
 simp only [AOp.okP,Bool.and_eq_true] at hP
 obtain ⟨hP,htg⟩:=hP
 obtain ⟨⟨⟨⟨hP1,hP2⟩,hP3⟩,hP4⟩,hP5⟩:=hP
 have hu:=sliceIs_eq hP1
 have hpos:0<rr.len:=by simpa using hP2
 have hbytes:=Nat.le_of_ble_eq_true hP3
 have hzlen:=Nat.eq_of_beq_eq_true hP4
 split at hP5
 ·rename_i i hi
  simp only [Bool.and_eq_true] at hP5
  obtain ⟨⟨h1,h2⟩,h3⟩:=hP5
  have hisz:=Nat.eq_of_beq_eq_true h1
  have hib:=Nat.eq_of_beq_eq_true h2
  split at h3
  ·rename_i z hz
   have hzc:=fun (w' : World) (μ' : Nat→Option Nat) (ok' : Nat→Prop) (H' : List Blk)=>zerosOk_sound (μ:=μ') (ok:=ok') (w:=w') (H:=H') h3
   have hzsz:z.cells.size=rr.len:=by have:=(hzc w μ ok st.heap).1;simpa [hzlen] using this
   simp only [evalOp] at h
   split at h
   ·rename_i k1 n1 k2 n2 hlv hcv
    rw [hlv] at hl
    rw [hcv] at hc
    have hl:a.eval l=.int k1 n1:=hl
    have hc:a.eval c=.int k2 n2:=hc
    obtain ⟨h4,h⟩:=bif_some h
    simp only [Bool.and_eq_true,decide_eq_true_eq] at h4
    obtain ⟨⟨⟨h5,h6⟩,h7⟩,hfit⟩:=h4
    have hbb:(i.bytes:Int)*n2≤281474976710656:=by
     have e1:(i.bytes:Int)≤4096:=by omega
     have e2:(i.bytes:Int)*n2≤4096*n2:=Int.mul_le_mul_of_nonneg_right e1 (by omega)
     omega
    have hrun0:=run_make (P:=P) w t e i z hu hi hz k1 k2 n1 n2 h5 h6 hbb (by omega)
    have hrun:(execOp a.eval o).run P w=.ok (.value (.slice (some ⟨w.heap.size,0,none⟩) n1.toNat n2.toNat)) (w.alloc (.cells (madeCells z.cells (n2.toNat*i.size)) e)):=by
     simp [execOp,ho,hl,hc,hrun0]
    have hmsz:=size_madeCells z.cells (n2.toNat*i.size)
    unfold newB at h
    split at h
    ·rename_i hres
     obtain ⟨μ2,g1,g2,g3,g4,g5,E⟩:=new_step hm he hres (.arr rr n1.toNat (fun _ j=>listF zs j)) (madeCells z.cells (n2.toNat*i.size)) e ⟨rfl,below_alloc hm _⟩ (fun _ _ _ hh ht=>by cases hh;simp [ht] at htg)
      (fun μ' E hμ hw=>⟨hpos,.inr ⟨w.heap.size,_,e,hμ,hw,by rw [hmsz,hisz];exact Nat.mul_le_mul_right _ (by omega),fun i' j hi' hj=>by
       obtain ⟨c',hc'⟩:∃ c',zs[j]?=some c':=⟨zs[j]'(by omega),by simp⟩
       have hidx:i'*rr.len+j<n2.toNat*i.size:=by
        have:(i'+1)*rr.len≤n2.toNat*rr.len:=Nat.mul_le_mul_right _ (by omega)
        rw [Nat.add_mul,Nat.one_mul] at this
        rw [hisz];omega
       obtain ⟨u,hu',hr⟩:=(hzc (w.alloc (.cells (madeCells z.cells (n2.toNat*i.size)) e)) μ' ok (st.heap.set (hb+q) (.arr rr n1.toNat (fun _ j=>listF zs j)))).2 j (.c c') (by simp [hc'])
       show (rr.nth j).okP (listF zs j)∧∃ u,(madeCells z.cells (n2.toNat*i.size))[i'*rr.len+j]?=some u∧CR ok _ (listF zs j) u
       rw [listF_at hc']
       refine ⟨?_,u,?_,hr⟩
       ·have:=allFit_at hfit hc'
        rw [Nat.zero_add] at this
        exact Kd.fits_ok this
       ·have hu2:z.cells[j]?=some u:=by simpa using hu'
        have hmod:(i'*rr.len+j) % z.cells.size=j:=by
         rw [hzsz,Nat.mul_comm,Nat.mul_add_mod,Nat.mod_eq_of_lt hj]
        have hu3:=Array.getElem?_eq_some_iff.1 hu2
        rw [Array.getElem?_eq_getElem (by rw [hmsz];exact hidx)]
        simp only [madeCells,Array.getElem_map,Array.getElem_range,hmod]
        rw [getBang _ _ hu3.1,hu3.2]⟩⟩)
     have hv:V0R μ2 ok (w.alloc (.cells (madeCells z.cells (n2.toNat*i.size)) e)) (st.setB (hb+q) (.arr rr n1.toNat (fun _ j=>listF zs j))).heap (.own (hb+q) 0 n1.toNat) (.slice (some ⟨w.heap.size,0,none⟩) n1.toNat n2.toNat):=by
      refine ⟨rfl,?_⟩
      rw [g4]
      exact ⟨by omega,_,n2.toNat,rfl,by omega,by simp only [maxLen];omega,.inr ⟨w.heap.size,_,e,g3,by simp,g5,by rw [hmsz,hisz];simp⟩⟩
     exact wp_value hrun (hk μ2 ok (.x (.own (hb+q) 0 n1.toNat)) _ _ _ g1 g2 hv h)
    ·cases h
   ·cases h
  ·cases h3
 ·cases hP5
end
end Go.Eng
/-
 Operations,part 8: append.
-/
namespace Go.Eng
open Go Go.RowKit
variable {df : DF}
section
variable {ρ : Type} {P : Program} {C : Oracle} {hb : Nat} {w0 : Base} {okA : Nat → Prop} {μ : Nat → Option Nat} {ok : Nat → Prop} {st : St} {a : Act} {w : World}
 {o:Oper} {k:V→St→Option ρ} {r:ρ} {next:Act→World→Prop} {Q:Exit→Act→World→Prop}
def RowsL (ok:Nat→Prop) (w:World) (r:Kd) (f:Nat→Nat→CV) (n:Nat) (l:List Value):Prop :=
 l.length=n*r.len∧∀ i j,i<n→j<r.len→(r.nth j).okP (f i j)∧∃ u,l[i*r.len+j]?=some u∧CR ok w (f i j) u
theorem row_lt {i j n m:Nat} (hi:i<n) (hj:j<m):i*m+j<n*m:=by
 have:(i+1)*m≤n*m:=Nat.mul_le_mul_right _ hi
 rw [Nat.add_mul,Nat.one_mul] at this
 omega
theorem RowsL.one {rr:Kd} {f:Nat→Nat→CV} {n:Nat} {l:List Value} (h:RowsL ok w rr f n l) (hpos:0<rr.len):∀ x∈l,x.oneCell' = true:=by
 intro x hx
 obtain ⟨t,ht⟩:=List.mem_iff_getElem?.1 hx
 have hlt:t<n*rr.len:=by rw [← h.1];exact (List.getElem?_eq_some_iff.1 ht).1
 have hi:t / rr.len<n:=by rw [Nat.div_lt_iff_lt_mul hpos];exact hlt
 obtain ⟨_,u,hu,hr⟩:=h.2 (t / rr.len) (t % rr.len) hi (Nat.mod_lt _ hpos)
 rw [Nat.mul_comm,Nat.div_add_mod,ht] at hu
 cases hu
 exact hr.one
theorem RowsL.append {rr:Kd} {f g:Nat→Nat→CV} {n m:Nat} {l l' : List Value} (h:RowsL ok w rr f n l) (h' : RowsL ok w rr g m l'):RowsL ok w rr (joinF n f g) (n+m) (l ++ l'):=by
 refine ⟨by rw [List.length_append,h.1,h'.1,Nat.add_mul],fun i j hi hj=>?_⟩
 by_cases hin:i<n
 ·have e:joinF n f g i j=f i j:=by
   have:Nat.blt i n=true:=by simpa using hin
   simp only [joinF,this,cond_true]
  rw [e]
  obtain ⟨hk,u,hu,hr⟩:=h.2 i j hin hj
  exact ⟨hk,u,by rw [List.getElem?_append_left (by rw [h.1];exact row_lt hin hj)];exact hu,hr⟩
 ·have e:joinF n f g i j=g (i-n) j:=by
   have:Nat.blt i n=false:=by rw [Bool.eq_false_iff];intro h;exact hin (by simpa using h)
   simp only [joinF,this,cond_false]
  rw [e]
  obtain ⟨hk,u,hu,hr⟩:=h'.2 (i-n) j (by omega) hj
  refine ⟨hk,u,?_,hr⟩
  have hle:n*rr.len≤i*rr.len:=Nat.mul_le_mul_right _ (by omega)
  rw [List.getElem?_append_right (by rw [h.1];omega),h.1,show i*rr.len+j-n*rr.len=(i-n)*rr.len+j by rw [Nat.sub_mul];omega]
  exact hu
theorem rows_list {rr:Kd} {f:Nat→Nat→CV} {n b off:Nat} (hpos:0<rr.len)
  (h:∀ i j,i<n→j<rr.len→(rr.nth j).okP (f i j)∧∃ u,w.cell? ⟨b,off+i*rr.len+j,none⟩=some u∧CR ok w (f i j) u) :
  ∃ l:List Value,RowsL ok w rr f n l∧∀ (t:Nat) (v:Value),l[t]?=some v→w.cell? ((⟨b,off,none⟩:Addr).add t)=some v:=by
 obtain ⟨l,hl,hc⟩:=choose_list (m:=n*rr.len) (Pr:=fun t u=>w.cell? ⟨b,off+t,none⟩=some u∧CR ok w (f (t / rr.len) (t % rr.len)) u) (fun t ht=>by
  have hi:t / rr.len<n:=by rw [Nat.div_lt_iff_lt_mul hpos];exact ht
  obtain ⟨_,u,hu,hr⟩:=h (t / rr.len) (t % rr.len) hi (Nat.mod_lt _ hpos)
  rw [Nat.add_assoc,Nat.mul_comm,Nat.div_add_mod] at hu
  exact ⟨u,hu,hr⟩)
 refine ⟨l,⟨hl,fun i j hi hj=>?_⟩,fun t v ht=>?_⟩
 ·obtain ⟨u,hu,_,hr⟩:=hc (i*rr.len+j) (row_lt hi hj)
  have e1:(i*rr.len+j) / rr.len=i:=by
   rw [Nat.mul_comm,Nat.mul_add_div hpos,Nat.div_eq_of_lt hj,Nat.add_zero]
  have e2:(i*rr.len+j) % rr.len=j:=by rw [Nat.mul_comm,Nat.mul_add_mod,Nat.mod_eq_of_lt hj]
  rw [e1,e2] at hr
  exact ⟨(h i j hi hj).1,u,hu,hr⟩
 ·have hlt:=(List.getElem?_eq_some_iff.1 ht).1
  obtain ⟨u,hu,hcell,_⟩:=hc t (by omega)
  rw [ht] at hu;cases hu
  rw [add_at];exact hcell
theorem src_sound {rr:Kd} {y:V} {m:Nat} {g:Nat→Nat→CV} {v:Value} (hblk:∀ (b:Nat) (o:Blk),st.heap[b]?=some o→BlkR μ ok w st.heap b o) (hpos:0<rr.len)
  (h:srcOf st.heap rr y=some (m,g)) (hv:VR μ ok w st.heap y v) :
  ∃ ad c news,v=.slice ad m c∧RowsL ok w rr g m news∧(m=0∨∃ a0,ad=some a0∧∀ (t:Nat) (x:Value),news[t]?=some x→w.cell? (a0.add t)=some x):=by
 unfold srcOf at h
 split at h
 ·rename_i fl r' n f
  obtain ⟨h1,h2⟩:=bif_some h
  cases h2
  obtain ⟨ad,cap,rfl,hc1,hc2,_,hc4⟩:=hv
  by_cases hm0:m=0
  ·subst hm0
   exact ⟨ad,cap,[],rfl,⟨by simp,fun i j hi=>by omega⟩,.inl rfl⟩
  ·rcases hc4 with h5 | ⟨b,off,rfl,hg,hrow⟩
   ·exact absurd h5 hm0
   ·rw [Bool.or_eq_true] at h1
    have:=Kd.eq_of_beq (h1.resolve_right (fun h=>hm0 (Nat.eq_of_beq_eq_true h)))
    subst this
    obtain ⟨l,hl1,hl2⟩:=rows_list hpos hrow
    exact ⟨_,cap,l,rfl,hl1,.inr ⟨_,rfl,hl2⟩⟩
 ·rename_i b off len
  obtain ⟨_,hp⟩:=hv
  split at h
  ·rename_i r' n f hq
   rw [hq] at hp
   obtain ⟨h1,h2⟩:=bif_some h
   cases h2
   have:=Kd.eq_of_beq h1
   subst this
   obtain ⟨hle,ad,cap,rfl,hc1,hc2,hown⟩:=hp
   by_cases hm0:m=0
   ·subst hm0
    exact ⟨ad,cap,[],rfl,⟨by simp,fun i j hi=>by omega⟩,.inl rfl⟩
   ·rcases hown with ⟨h5,_⟩ | ⟨gg,cur,e,hg,rfl,hw,hsz⟩
    ·exact absurd h5 hm0
    ·obtain ⟨h0,hbr⟩:=hblk b _ hq
     rcases hbr with ⟨h6,_⟩ | ⟨g',cur',e',hg',hw',hn,hcells⟩
     ·omega
     ·rw [hg] at hg';cases hg'
      rw [hw] at hw';cases hw'
      obtain ⟨l,hl1,hl2⟩:=rows_list (w:=w) (ok:=ok) (f:=shiftF off f) (n:=m) (b:=gg) (off:=off*rr.len) hpos (fun i j hi hj=>by
       rw [shiftF_eq]
       obtain ⟨hk,u,hu,hr⟩:=hcells (off+i) j (by omega) hj
       refine ⟨hk,u,?_,hr⟩
       rw [cell_of_row w gg _ cur e (0,0) hw,← hu,Nat.add_mul])
      exact ⟨_,cap,l,rfl,hl1,.inr ⟨_,rfl,hl2⟩⟩
  ·cases h
 ·cases h
theorem append_fits {t ty e:TypeId} {i:TypeInfo} (ht:P.underlying t=some (.slice e)) (hi:P.info? e=some i) {base ad:Option Addr} {n cap m c:Nat} {news:List Value}
  (hl:news.length=m*i.size) (hn:m=0∨∃ a0,ad=some a0∧∀ (t:Nat) (x:Value),news[t]?=some x→w.cell? (a0.add t)=some x) (hle:n+m≤cap) :
  (Builtin.append_ #[t,t] ty #[.slice base n cap,.slice ad m c]).run P w =
   (match base with
    | some a=>((storeCells (a.add (n*i.size)) news).run P w).andThen fun _ w'=>.ok (.slice base (n+m) cap) w'
    | none=>.ok (.slice none (n+m) cap) w):=by
 have hf:(Builtin.firstCells i.size m (.slice ad m c)).run P w=.ok news.toArray w:=by
  rcases hn with rfl | ⟨a0,rfl,hc⟩
  ·have:news = []:=List.eq_nil_of_length_eq_zero (by simpa using hl)
   subst this
   cases ad with
   | none=>simp [Builtin.firstCells]
   | some a0=>simp [Builtin.firstCells,loadCells,loadCellsFrom]
  ·exact run_firstCells_some (P:=P) w i.size m a0 m c news hl hc
 cases base with
 | none=>simp [Builtin.append_,run_underlying ht,sizeOf,typeInfo,hi,Builtin.lenOf,hle,hf]
 | some b=>simp [Builtin.append_,run_underlying ht,sizeOf,typeInfo,hi,Builtin.lenOf,hle,hf]
theorem append_grows {t ty e:TypeId} {i:TypeInfo} {z:Value} (ht:P.underlying t=some (.slice e)) (hi:P.info? e=some i) (hz:i.zero=some z) (hzs:z.cells.size=i.size) (hpos:0<i.size) {base ad:Option Addr} {n cap m c:Nat} {olds news:List Value}
  (hl:news.length=m*i.size) (hn:∃ a0,ad=some a0∧∀ (t:Nat) (x:Value),news[t]?=some x→w.cell? (a0.add t)=some x)
  (hlo:olds.length=n*i.size) (ho:base=none∧n=0∧cap=0∨∃ b0,base=some b0∧∀ (t:Nat) (x:Value),olds[t]?=some x→w.cell? (b0.add t)=some x)
  (hg:cap<n+m) (hsmall:n+m≤1073741824) (hb:i.bytes≤4096) :
  ∃ nc rest,n+m≤nc∧nc≤maxLen∧(olds ++ news ++ rest).length=nc*i.size ∧
   (Builtin.append_ #[t,t] ty #[.slice base n cap,.slice ad m c]).run P w=.ok (.slice (some ⟨w.heap.size,0,none⟩) (n+m) nc) (w.drew.alloc (.cells (olds ++ news ++ rest).toArray e)):=by
 obtain ⟨a0,rfl,hc⟩:=hn
 have hbytes:(n+m)*i.bytes≤140737488355328:=by
  have:(n+m)*i.bytes≤1073741824*4096:=Nat.mul_le_mul hsmall hb
  omega
 have hge:=grownCap_ge w (n+m) cap e
 have hcm:grownCap w (n+m) cap e≤maxLen:=grownCap_le_maxLen w (n+m) cap e (by simp only [maxLen];omega)
 refine ⟨grownCap w (n+m) cap e,(Builtin.zeroCells z.cells (grownCap w (n+m) cap e-(n+m))).toList,hge,hcm,?_,?_⟩
 ·simp only [List.length_append,hl,hlo,Array.length_toList,size_zeroCells,hzs,← Nat.add_mul]
  congr 1;omega
 ·rcases ho with ⟨rfl,rfl,rfl⟩ | ⟨b0,rfl,hoc⟩
  ·have ho0:olds = []:=List.eq_nil_of_length_eq_zero (by simpa using hlo)
   subst ho0
   have hr:=run_append_nil (P:=P) w t ty e i z ht hi hz a0 m c news hl hc (by omega) (by omega) (by simp only [Nat.zero_add] at hbytes;omega)
   simp only [Nat.zero_add,List.nil_append] at hr ⊢
   rw [hr]
   congr 4
   apply Array.ext'
   simp
  ·have hr:=run_append_grow (P:=P) w t ty e i z ht hi hz b0 n cap olds hlo hoc a0 m c news hl hc hg (by omega) (growslice_fits hg hbytes)
   rw [hr]
   congr 4
   apply Array.ext'
   simp
theorem MR.install0 {H:List Blk} (h:MR w0 okA μ ok H w) {b:Nat} (hb:H[b]?=some .rsv) {rr:Kd} (hpos:0<rr.len) (f:Nat→Nat→CV) :
  MR w0 okA μ ok (H.set b (.arr rr 0 f)) w∧Ext μ ok w H μ ok w (H.set b (.arr rr 0 f)):=by
 have hmu:μ b=none:=h.blk b _ hb
 have hlt:b<H.length:=(List.getElem?_eq_some_iff.1 hb).1
 have hne:∀ b' (x:Blk),H[b']?=some x→x≠.rsv→b'≠b:=fun b' x hx hr hbb=>by
  subst hbb;rw [hb] at hx;cases hx;exact hr rfl
 have hset:∀ b',b'≠b→(H.set b (.arr rr 0 f))[b']?=H[b']?:=fun b' hn=>List.getElem?_set_ne (Ne.symm hn)
 have E:Ext μ ok w H μ ok w (H.set b (.arr rr 0 f)):=by
  refine ⟨fun k hk=>⟨hk,rfl⟩,fun b' hb'=>?_,fun b' cs hb'=>?_,fun b' r n f hb'=>?_,fun b' n f hb'=>?_,fun b' κ n ln f hb'=>.inr ⟨⟨f,by rw [hset b' (hne b' _ hb' (by simp))];exact hb'⟩,rfl,fun i=>by rw [List.length_set]⟩⟩
  ·rw [hset b' (hne b' _ hb' (by simp))];exact hb'
  ·exact .inr ⟨⟨cs,by rw [hset b' (hne b' _ hb' (by simp))];exact hb'⟩,rfl⟩
  ·exact .inr ⟨⟨f,by rw [hset b' (hne b' _ hb' (by simp))];exact hb'⟩,rfl,fun k cur e hk hw=>⟨cur,e,hw,rfl⟩⟩
  ·exact .inr ⟨⟨n,f,by rw [hset b' (hne b' _ hb' (by simp))];exact hb'⟩,rfl⟩
 refine ⟨⟨h.below,h.okd,h.keep,h.fresh,h.inj,fun b' x hx=>?_,fun b' g' r n f' hx ht hm=>by
  by_cases hbb:b' = b
  ·subst hbb;rw [hmu] at hm;cases hm
  ·rw [hset b' hbb] at hx;exact h.tag b' g' r n f' hx ht hm⟩,E⟩
 by_cases hbb:b' = b
 ·subst hbb
  rw [List.getElem?_set_self hlt] at hx
  cases hx
  exact ⟨hpos,.inl ⟨rfl,hmu⟩⟩
 ·rw [hset b' hbb] at hx
  exact E.blk (List.length_set ..) (fun k hk=>rfl) (fun _ _ _ _=>rfl) (h.blk b' x hx)
theorem ER.drop (he:ER df μ ok st.heap w st.env a) {b:Nat} {rr:Kd} {n:Nat} {f:Nat→Nat→CV} (hb:st.heap[b]?=some (.arr rr n f)) :
  ER df (upd μ b none) ok ((st.heap.map (Blk.drop b)).set b .rsv) w (st.env.map (V.drop b)) a:=by
 refine ⟨by rw [he.size];simp,fun t v ht=>?_,he.defers,he.glob⟩
 rw [List.getElem?_map] at ht
 cases hq:st.env[t]? with
 | none=>rw [hq] at ht;cases ht
 | some v0 =>
  rw [hq] at ht;cases ht
  obtain ⟨u,hu,hr⟩:=he.env t v0 hq
  exact ⟨u,hu,VR.drop hb hr⟩
theorem op_append (hm:MR w0 okA μ ok st.heap w) (he:ER df μ ok st.heap w st.env a) (hk:Owed df w0 okA a k r fun u w=>next (a.put o.dst u) w)
  {q:Nat} {t e:TypeId} {rr:Kd} {bytes:Nat} {x y:Operand} (ho:o.op=(AOp.append q t e rr bytes x y).erase) (hP:(AOp.append q t e rr bytes x y).okP P=true)
  (h:evalOp C hb st (.append q t e rr bytes x y) k=some r):o.wp P a w next Q:=by
 have hx:=ev_sound he x
 have hy:=ev_sound he y
 simp only [AOp.okP,Bool.and_eq_true] at hP
 obtain ⟨hP,htg⟩:=hP
 obtain ⟨⟨⟨hP1,hP2⟩,hP3⟩,hP4⟩:=hP
 have hu:=sliceIs_eq hP1
 have hpos:0<rr.len:=by simpa using hP2
 have hbytes:=Nat.le_of_ble_eq_true hP3
 split at hP4
 ·rename_i i hi
  simp only [Bool.and_eq_true] at hP4
  obtain ⟨⟨h1,h2⟩,h3⟩:=hP4
  have hisz:=Nat.eq_of_beq_eq_true h1
  have hib:=Nat.eq_of_beq_eq_true h2
  split at h3
  ·rename_i z hz
   have hzs:=Nat.eq_of_beq_eq_true h3
   simp only [evalOp] at h
   split at h
   ·cases h
   ·rename_i m g hsrc
    obtain ⟨ad,c,news,hyv,hnews,hsr⟩:=src_sound hm.blk hpos hsrc hy
    have hexec:∀ (u:Value) (w' : World),(∀ ty,(Builtin.append_ #[t,t] ty #[a.eval x,a.eval y]).run P w=.ok u w')→(execOp a.eval o).run P w=.ok (.value u) w':=by
     intro u w' hh
     simp [execOp,ho,AOp.erase,resolve,invoke,builtin,hh]
    split at h
    ·rename_i b off len hxv
     rw [hxv] at hx
     split at h
     ·rename_i hb0 r' n f hq
      obtain ⟨_,hp⟩:=hx
      rw [hq] at hp
      obtain ⟨hle,ab,cap,hxp,hc1,hc2,hown⟩:=hp
      obtain ⟨h4,h0'⟩:=bif_some h
      rw [Bool.and_eq_true] at h4
      have hrr:=Kd.eq_of_beq h4.1
      clear h
      subst hrr
      have h:=h0'
      have hsmall:=Nat.le_of_ble_eq_true h4.2
      have hqlt:b<st.heap.length:=(List.getElem?_eq_some_iff.1 hq).1
      -- the block and all that refers to it is forgotten first
      have hm1:=hm.drop hq
      have he1:=he.drop hq
      have hres:((st.heap.map (Blk.drop b)).set b .rsv)[b]?=some .rsv:=List.getElem?_set_self (by simpa using hqlt)
      have hheap:∀ ob,((st.drop b).setB b ob).heap=((st.heap.map (Blk.drop b)).set b .rsv).set b ob:=fun ob=>by
       show (st.heap.map (Blk.drop b)).set b ob=_
       rw [List.set_set]
      have hgot:∀ ob,((st.drop b).setB b ob).heap[b]?=some ob:=fun ob=>by
       show ((st.heap.map (Blk.drop b)).set b ob)[b]?=_
       exact List.getElem?_set_self (by simpa using hqlt)
      -- what the slice holds
      have holds:∃ olds,RowsL ok w rr f len olds∧(ab=none∧len=0∧cap=0∨∃ b0,ab=some b0∧∀ (t:Nat) (x:Value),olds[t]?=some x→w.cell? (b0.add t)=some x):=by
       rcases hown with ⟨rfl,rfl⟩ | ⟨gg,cur,e',hg,hab,hw,hsz⟩
       ·refine ⟨[],⟨by simp,fun i j hi=>by omega⟩,?_⟩
        cases ab with
        | none=>exact .inl ⟨rfl,rfl,rfl⟩
        | some b0=>exact .inr ⟨b0,rfl,fun t x ht=>by simp at ht⟩
       ·obtain ⟨h0,hbr⟩:=hm.blk b _ hq
        rcases hbr with ⟨_,h6⟩ | ⟨g',cur',e'',hg',hw',hn',hcells⟩
        ·rw [hg] at h6;cases h6
        ·rw [hg] at hg';cases hg'
         rw [hw] at hw';cases hw'
         obtain ⟨l,hl1,hl2⟩:=rows_list (w:=w) (ok:=ok) (f:=f) (n:=len) (b:=gg) (off:=0) hpos (fun i j hi hj=>by
          obtain ⟨hk,u,hu,hr⟩:=hcells i j (by omega) hj
          refine ⟨hk,u,?_,hr⟩
          rw [cell_of_row w gg _ cur e' (0,0) hw,← hu,Nat.zero_add])
         exact ⟨l,hl1,.inr ⟨_,by rw [hab];simp,hl2⟩⟩
      obtain ⟨olds,holds,hob⟩:=holds
      by_cases hroom:len+m≤cap
      ·
       have hf:=fun ty=>append_fits (P:=P) (ty:=ty) hu hi (base:=ab) (n:=len) (c:=c) (by rw [hnews.1,hisz]) hsr hroom
       rcases hown with ⟨rfl,rfl⟩ | ⟨gg,cur,e',hg,rfl,hw,hsz⟩
       ·
        have hm0:m=0:=by omega
        subst hm0
        have hn0:news = []:=List.eq_nil_of_length_eq_zero (by simpa using hnews.1)
        subst hn0
        obtain ⟨g1,E⟩:=hm1.install0 hres hpos (joinF 0 f g)
        refine wp_value (u:=.slice ab 0 0) (w':=w) (hexec _ _ fun ty=>?_) (hk (upd μ b none) ok (.x (.own b 0 (0+0))) _ _ _ (by rw [hheap];exact g1) (by rw [hheap];exact he1.ext E) ?_ h)
        ·rw [hxp,hyv,hf ty]
         cases ab with
         | none=>rfl
         | some b0=>simp [storeCells]
        ·exact ⟨rfl,by rw [hgot];exact ⟨by omega,ab,0,rfl,by omega,by simp [maxLen],.inl ⟨rfl,rfl⟩⟩⟩
       ·have hcap:cur.size=cap*rr.len:=by rw [hsz];simp
        have hfit:len*rr.len+news.length≤cur.size:=by rw [hnews.1,hcap,← Nat.add_mul];exact Nat.mul_le_mul_right _ hroom
        have hst:=run_storeCells_at (P:=P) gg (len*rr.len) e' news 0 cur w hw (by simpa using hfit) (hnews.one hpos)
        simp only [Nat.add_zero] at hst
        have hlen:(splice cur.toList (len*rr.len) news).length=cur.size:=by rw [splice_length _ _ _ (by simpa using hfit)];simp
        have hfr:=hm.fresh b gg hg
        have hoth:∀ k,k≠gg→(w.setRow gg (splice cur.toList (len*rr.len) news).toArray).heap[k]?=w.heap[k]?:=fun k hk=>setRow_other w gg k _ hk
        have hrow:(w.setRow gg (splice cur.toList (len*rr.len) news).toArray).heap[gg]?=some (.cells (splice cur.toList (len*rr.len) news).toArray e' (0,0)):=setRow_heap w gg cur _ e' _ hw
        obtain ⟨g1,E⟩:=hm1.install (b:=b) (g:=gg) (w':=w.setRow gg (splice cur.toList (len*rr.len) news).toArray) (.arr rr (len+m) (joinF len f g)) hres
         (hm.below.turn hw (by simp only [List.size_toArray,hlen]) hfr.1 hrow hoth)
         (by simp)
         (fun k hk=>hoth k (fun ee=>hfr.2.2 (ee ▸ hk)))
         (fun b' k hk=>hoth k (fun ee=>by
          by_cases hbb:b' = b
          ·subst hbb;simp at hk
          ·rw [upd_other hbb] at hk;exact hbb (hm.inj b' b gg (ee ▸ hk) hg)))
         ⟨hfr.1,by simpa using hfr.2.1,hfr.2.2⟩
         (fun b' hk=>by
          by_cases hbb:b' = b
          ·subst hbb;simp at hk
          ·rw [upd_other hbb] at hk;exact hbb (hm.inj b' b gg hk hg))
         (fun _ _ _ hh ht=>by cases hh;simp [ht] at htg)
         (fun E=>⟨hpos,.inr ⟨gg,_,e',upd_same _ _ _,hrow,by simp only [List.size_toArray,hlen,hcap];exact Nat.mul_le_mul_right _ hroom,fun i' j hi' hj=>by
          have hall:=holds.append hnews
          obtain ⟨hk1,u,hu1,hr⟩:=hall.2 i' j hi' hj
          refine ⟨hk1,u,?_,CR.mono E.ok hr⟩
          simp only [List.getElem?_toArray]
          rw [splice_get _ _ _ _ (by simpa using hfit)]
          by_cases hin:i' < len
          ·have hlt:=row_lt hin hj
           rw [if_neg (by omega)]
           rw [List.getElem?_append_left (by rw [holds.1];exact hlt)] at hu1
           obtain ⟨b0,hb0,hoc⟩:=hob.resolve_left (by simp)
           cases hb0
           have:=hoc _ _ hu1
           simp only [Nat.zero_mul] at this
           rw [add_at,Nat.zero_add,cell_of_row w gg _ cur e' (0,0) hw] at this
           simpa using this
          ·have hge:len*rr.len≤i'*rr.len:=Nat.mul_le_mul_right _ (by omega)
           have hlt:=row_lt hi' hj
           rw [if_pos ⟨by omega,by rw [hnews.1,← Nat.add_mul];exact hlt⟩]
           rw [List.getElem?_append_right (by rw [holds.1];omega),holds.1] at hu1
           exact hu1⟩⟩)
        refine wp_value (u:=.slice (some ⟨gg,0*rr.len,none⟩) (len+m) cap) (w':=w.setRow gg (splice cur.toList (len*rr.len) news).toArray) (hexec _ _ fun ty=>?_)
         (hk _ ok (.x (.own b 0 (len+m))) _ _ _ (by rw [hheap];exact g1) (by rw [hheap];exact he1.ext E) ?_ h)
        ·rw [hxp,hyv,hf ty]
         simp only [add_at,hisz,Nat.zero_mul,Nat.zero_add,hst,Result.andThen_ok]
         rfl
        ·exact ⟨rfl,by rw [hgot];exact ⟨by omega,_,cap,rfl,hroom,hc2,.inr ⟨gg,_,e',upd_same _ _ _,rfl,hrow,by simp only [List.size_toArray,hlen,hcap];simp⟩⟩⟩
      ·
       have hm0:m≠0:=by omega
       obtain ⟨nc,rest,hnc1,hnc2,hnc3,hg⟩:∃ nc rest,len+m≤nc∧nc≤maxLen∧(olds ++ news ++ rest).length=nc*i.size∧∀ ty,(Builtin.append_ #[t,t] ty #[.slice ab len cap,.slice ad m c]).run P w =
         .ok (.slice (some ⟨w.heap.size,0,none⟩) (len+m) nc) (w.drew.alloc (.cells (olds ++ news ++ rest).toArray e)) :=
        append_grows (P:=P) (ty:=0) hu hi hz (by rw [hzs,hisz]) (by omega) (by rw [hnews.1,hisz]) (hsr.resolve_left hm0) (by rw [holds.1,hisz]) hob (by omega) hsmall (by omega) |>.imp fun nc h=>h.imp fun rest h=>⟨h.1,h.2.1,h.2.2.1,fun ty=>h.2.2.2⟩
       have hw' : (w.drew.alloc (.cells (olds ++ news ++ rest).toArray e)).heap=(w.alloc (.cells (olds ++ news ++ rest).toArray e)).heap:=rfl
       have hbel:Below w0.w.heap.size w (w.drew.alloc (.cells (olds ++ news ++ rest).toArray e)):=((Below.refl _ w).drew).alloc hm.below.size _
       obtain ⟨μ2,g1,g2,g3,g4,g5,E⟩:=new_step (st:=⟨st.env.map (V.drop b),(st.heap.map (Blk.drop b)).set b .rsv⟩) hm1 he1 hres (.arr rr (len+m) (joinF len f g)) (olds ++ news ++ rest).toArray e ⟨hw',hbel⟩ (fun _ _ _ hh ht=>by cases hh;simp [ht] at htg)
        (fun μ' E hμ hww=>⟨hpos,.inr ⟨w.heap.size,_,e,hμ,hww,by simp only [List.size_toArray,hnc3,hisz];exact Nat.mul_le_mul_right _ hnc1,fun i' j hi' hj=>by
         obtain ⟨hk1,u,hu1,hr⟩:=(holds.append hnews).2 i' j hi' hj
         refine ⟨hk1,u,?_,CR.mono E.ok hr⟩
         simp only [List.getElem?_toArray]
         rw [List.getElem?_append_left (by rw [(holds.append hnews).1];exact row_lt hi' hj)]
         exact hu1⟩⟩)
       refine wp_value (hexec _ _ fun ty=>by rw [hxp,hyv];exact hg ty) (hk μ2 ok (.x (.own b 0 (len+m))) _ _ _ (by rw [hheap];exact g1) (by rw [hheap];exact g2) ?_ h)
       exact ⟨rfl,by rw [hgot];exact ⟨by omega,_,nc,rfl,hnc1,hnc2,.inr ⟨w.heap.size,_,e,g3,by simp,g5,by simp only [List.size_toArray,hnc3,hisz];simp⟩⟩⟩
     ·cases h
    ·rename_i full r' n f hxv
     rw [hxv] at hx
     obtain ⟨ab,cap,hxp,hc1,hc2,hfull,hc4⟩:=hx
     obtain ⟨h4,h⟩:=bif_some h
     simp only [Bool.and_eq_true] at h4
     obtain ⟨⟨⟨h5,h6⟩,h7⟩,h8⟩:=h4
     have hcap:=hfull h5
     subst hcap
     have hsmall:=Nat.le_of_ble_eq_true h8
     by_cases hmz:m=0
     ·subst hmz
      have hn0:cap=0:=by
       rw [Bool.or_eq_true] at h6
       rcases h6 with h6 | h6
       ·exact Nat.eq_of_beq_eq_true h6
       ·simp at h6
      subst hn0
      have hf:=fun ty=>append_fits (P:=P) (ty:=ty) hu hi (base:=ab) (n:=0) (c:=c) (by rw [hnews.1,hisz]) hsr (Nat.le_refl 0)
      have hn0:news = []:=List.eq_nil_of_length_eq_zero (by simpa using hnews.1)
      subst hn0
      unfold newB at h
      split at h
      ·rename_i hres
       obtain ⟨g1,E⟩:=hm.install0 hres hpos (joinF 0 f g)
       have hlt:hb+q<st.heap.length:=(List.getElem?_eq_some_iff.1 hres).1
       refine wp_value (u:=.slice ab 0 0) (w':=w) (hexec _ _ fun ty=>?_) (hk μ ok (.x (.own (hb+q) 0 (0+0))) (st.setB (hb+q) (.arr rr 0 (joinF 0 f g))) _ _ g1 (he.ext E) ?_ h)
       ·rw [hxp,hyv,hf ty]
        cases ab with
        | none=>rfl
        | some b0=>simp [storeCells]
       ·refine ⟨rfl,?_⟩
        rw [show (st.setB (hb+q) (.arr rr 0 (joinF 0 f g))).heap[hb+q]?=some (.arr rr 0 (joinF 0 f g)) from List.getElem?_set_self hlt]
        exact ⟨by omega,ab,0,rfl,by omega,by simp [maxLen],.inl ⟨rfl,rfl⟩⟩
      ·cases h
     have hm0:0<m:=by omega
     have holds:∃ olds,RowsL ok w rr f cap olds∧(ab=none∧cap=0∧cap=0∨∃ b0,ab=some b0∧∀ (t:Nat) (x:Value),olds[t]?=some x→w.cell? (b0.add t)=some x):=by
      by_cases hn0:cap=0
      ·subst hn0
       refine ⟨[],⟨by simp,fun i j hi=>by omega⟩,?_⟩
       cases ab with
       | none=>exact .inl ⟨rfl,rfl,rfl⟩
       | some b0=>exact .inr ⟨b0,rfl,fun t x ht=>by simp at ht⟩
      ·rcases hc4 with h9 | ⟨b0,off,rfl,hg,hrow⟩
       ·exact absurd h9 hn0
       ·rw [Bool.or_eq_true] at h7
        have:=Kd.eq_of_beq (h7.resolve_right (fun h=>hn0 (Nat.eq_of_beq_eq_true h)))
        subst this
        obtain ⟨l,hl1,hl2⟩:=rows_list hpos hrow
        exact ⟨l,hl1,.inr ⟨_,rfl,hl2⟩⟩
     obtain ⟨olds,holds,hob⟩:=holds
     obtain ⟨nc,rest,hnc1,hnc2,hnc3,hg⟩:∃ nc rest,cap+m≤nc∧nc≤maxLen∧(olds ++ news ++ rest).length=nc*i.size∧∀ ty,(Builtin.append_ #[t,t] ty #[.slice ab cap cap,.slice ad m c]).run P w =
       .ok (.slice (some ⟨w.heap.size,0,none⟩) (cap+m) nc) (w.drew.alloc (.cells (olds ++ news ++ rest).toArray e)) :=
      append_grows (P:=P) (ty:=0) hu hi hz (by rw [hzs,hisz]) (by omega) (by rw [hnews.1,hisz]) (hsr.resolve_left (by omega)) (by rw [holds.1,hisz]) hob (by omega) hsmall (by omega) |>.imp fun nc h=>h.imp fun rest h=>⟨h.1,h.2.1,h.2.2.1,fun ty=>h.2.2.2⟩
     have hw' : (w.drew.alloc (.cells (olds ++ news ++ rest).toArray e)).heap=(w.alloc (.cells (olds ++ news ++ rest).toArray e)).heap:=rfl
     have hbel:Below w0.w.heap.size w (w.drew.alloc (.cells (olds ++ news ++ rest).toArray e)):=((Below.refl _ w).drew).alloc hm.below.size _
     unfold newB at h
     split at h
     ·rename_i hres
      obtain ⟨μ2,g1,g2,g3,g4,g5,E⟩:=new_step hm he hres (.arr rr (cap+m) (joinF cap f g)) (olds ++ news ++ rest).toArray e ⟨hw',hbel⟩ (fun _ _ _ hh ht=>by cases hh;simp [ht] at htg)
       (fun μ' E hμ hww=>⟨hpos,.inr ⟨w.heap.size,_,e,hμ,hww,by simp only [List.size_toArray,hnc3,hisz];exact Nat.mul_le_mul_right _ hnc1,fun i' j hi' hj=>by
        obtain ⟨hk1,u,hu1,hr⟩:=(holds.append hnews).2 i' j hi' hj
        refine ⟨hk1,u,?_,CR.mono E.ok hr⟩
        simp only [List.getElem?_toArray]
        rw [List.getElem?_append_left (by rw [(holds.append hnews).1];exact row_lt hi' hj)]
        exact hu1⟩⟩)
      refine wp_value (hexec _ _ fun ty=>by rw [hxp,hyv];exact hg ty) (hk μ2 ok (.x (.own (hb+q) 0 (cap+m))) _ _ _ g1 g2 ?_ h)
      exact ⟨rfl,by rw [g4];exact ⟨by omega,_,nc,rfl,hnc1,hnc2,.inr ⟨w.heap.size,_,e,g3,by simp,g5,by simp only [List.size_toArray,hnc3,hisz];simp⟩⟩⟩
     ·cases h
    ·cases h
  ·cases h3
 ·cases hP4
end
end Go.Eng
/-
 Operations,part 8a: matrices: rows of one's own in a slice of one's own.
-/
namespace Go.Eng
open Go Go.RowKit
variable {df : DF}
section
variable {ρ : Type} {P : Program} {C : Oracle} {hb : Nat} {w0 : Base} {okA : Nat → Prop} {μ : Nat → Option Nat} {ok : Nat → Prop} {st : St} {a : Act} {w : World}
 {o:Oper} {k:V→St→Option ρ} {r:ρ} {next:Act→World→Prop} {Q:Exit→Act→World→Prop}
end
end Go.Eng
/-
 Operations,part 7: arrays of one kind of cells,with places that are not told apart.
-/
namespace Go.Eng
open Go Go.RowKit
variable {df : DF}
theorem Kd.homog_nth {κ:Kd}:∀ {r:Kd} {j:Nat},Kd.homog κ r=true→j<r.len→r.nth j=κ
 | .pr a r,0,h,_=>by
  unfold Kd.homog at h
  rw [Bool.and_eq_true] at h
  exact Kd.eq_of_beq h.1
 | .pr a r,j+1,h,hj=>by
  unfold Kd.homog at h
  rw [Bool.and_eq_true] at h
  exact Kd.homog_nth (r:=r) (j:=j) h.2 (by simp only [Kd.len] at hj;omega)
 | .nil,j,_,hj=>by simp [Kd.len] at hj
 | .int _,j,h,_=>by cases h
 | .bool,j,h,_=>by cases h
 | .str,j,h,_=>by cases h
 | .oth,j,h,_=>by cases h
 | .sl _,j,h,_=>by cases h
section
variable {ρ : Type} {P : Program} {C : Oracle} {hb : Nat} {w0 : Base} {okA : Nat → Prop} {μ : Nat → Option Nat} {ok : Nat → Prop} {st : St} {a : Act} {w : World}
 {o:Oper} {k:V→St→Option ρ} {r:ρ} {next:Act→World→Prop} {Q:Exit→Act→World→Prop}
theorem op_allocA (hm:MR w0 okA μ ok st.heap w) (he:ER df μ ok st.heap w st.env a) (hk:Owed df w0 okA a k r fun u w=>next (a.put o.dst u) w)
  {q:Nat} {t:TypeId} {rr:Kd} {zs:List CV} (ho:o.op=.alloc t) (hP:(AOp.allocA q t rr zs).okP P=true) (h:evalOp C hb st (.allocA q t rr zs) k=some r):o.wp P a w next Q:=by
 simp only [AOp.okP,Bool.and_eq_true] at hP
 obtain ⟨⟨⟨hP1,hP2⟩,hP3⟩,htg⟩:=hP
 obtain ⟨i,z,hi,hz,hrunz,hc⟩:=zero_run (w:=w) hP1
 have hzlen:=Nat.eq_of_beq_eq_true hP2
 have hpos:0<rr.len:=by simpa using hP3
 simp only [evalOp] at h
 obtain ⟨hfit,h⟩:=bif_some h
 have hzsz:z.cells.size=rr.len:=by have:=(hc μ ok w st.heap).1;simpa [hzlen] using this
 have hrun:(execOp a.eval o).run P w=.ok (.value (.pointer (some ⟨w.heap.size,0,none⟩))) (w.alloc (.cells z.cells t)):=by
  simp [execOp,ho,Instr.alloc,hrunz,newVar,newRow]
 unfold newB at h
 split at h
 ·rename_i hres
  obtain ⟨μ2,g1,g2,g3,g4,g5,E⟩:=new_step hm he hres (.arr rr 1 (fun _ j=>listF zs j)) z.cells t ⟨rfl,below_alloc hm _⟩ (fun _ _ _ hh ht=>by cases hh;simp [ht] at htg)
   (fun μ' E hμ hw=>⟨hpos,.inr ⟨w.heap.size,_,t,hμ,hw,by rw [hzsz,Nat.one_mul];exact Nat.le_refl _,fun i' j hi' hj=>by
    have h0:i' = 0:=by omega
    subst h0
    obtain ⟨c',hc'⟩:∃ c',zs[j]?=some c':=⟨zs[j]'(by omega),by simp⟩
    obtain ⟨u,hu',hr⟩:=(hc μ' ok (w.alloc (.cells z.cells t)) (st.heap.set (hb+q) (.arr rr 1 (fun _ j=>listF zs j)))).2 j (.c c') (by simp [hc'])
    show (rr.nth j).okP (listF zs j)∧∃ u,z.cells[0*rr.len+j]?=some u∧CR ok _ (listF zs j) u
    rw [listF_at hc']
    refine ⟨?_,u,by rw [Nat.zero_mul,Nat.zero_add];simpa using hu',hr⟩
    have:=allFit_at hfit hc'
    rw [Nat.zero_add] at this
    exact Kd.fits_ok this⟩⟩)
  have hv:V0R μ2 ok (w.alloc (.cells z.cells t)) (st.setB (hb+q) (.arr rr 1 (fun _ j=>listF zs j))).heap (.aptr (hb+q) 0 0) (.pointer (some ⟨w.heap.size,0,none⟩)):=by
   refine ⟨rfl,?_⟩
   rw [g4]
   exact ⟨by omega,_,g3,by rw [Nat.zero_mul]⟩
  exact wp_value hrun (hk μ2 ok (.x (.aptr (hb+q) 0 0)) _ _ _ g1 g2 hv h)
 ·cases h
theorem op_indexAddrR (hm:MR w0 okA μ ok st.heap w) (he:ER df μ ok st.heap w st.env a) (hk:Owed df w0 okA a k r fun u w=>next (a.put o.dst u) w)
  {t e:TypeId} {ln esz:Nat} {x i:Operand} (ho:o.op=.indexAddr t x i) (hP:(AOp.indexAddrR t e ln esz x i).okP P=true) (h:evalOp C hb st (.indexAddrR t e ln esz x i) k=some r):o.wp P a w next Q:=by
 have hx:=ev_sound he x
 have hi:=ev_sound he i
 simp only [AOp.okP,Bool.and_eq_true] at hP
 obtain ⟨hP1,hP2⟩:=hP
 have hsz:=sizeIs_run (w:=w) hP2
 split at hP1
 ·rename_i n0 e0 hu
  rw [Bool.and_eq_true] at hP1
  have hn:=Nat.eq_of_beq_eq_true hP1.1
  have hee:=Nat.eq_of_beq_eq_true hP1.2
  subst hn hee
  simp only [evalOp] at h
  split at h
  ·rename_i kd n hiv
   rw [hiv] at hi
   have hi:a.eval i=.int kd n:=hi
   split at h
   ·rename_i b i' j hxv
    rw [hxv] at hx
    obtain ⟨_,hp⟩:=hx
    obtain ⟨h1,h⟩:=bif_some h
    rw [Bool.and_eq_true] at h1
    obtain ⟨hlive,h1⟩:=h1
    unfold liveArr at hlive
    split at hlive
    ·rename_i rr n' f hq
     rw [hq] at hp
     obtain ⟨hi',g,hg,hp⟩:=hp
     obtain ⟨h5,h6⟩:=inb_spec h1
     have hv' : V0R μ ok w st.heap (.aptr b i' (j+n.toNat*esz)) (.pointer (some ⟨g,i'*rr.len+j+n.toNat*esz,none⟩)):=⟨rfl,by rw [hq];exact ⟨hi',g,hg,by rw [Nat.add_assoc]⟩⟩
     exact wp_quiet hm he hk (u:=.pointer (some ⟨g,i'*rr.len+j+n.toNat*esz,none⟩)) (v:=.x (.aptr b i' (j+n.toNat*esz)))
      (by simp [execOp,ho,hp,hi,Instr.indexAt,run_underlying hu,asIntOf,Instr.sureAddr,h5,h6,hsz,add_at]) hv' h
    ·cases hlive
   ·cases h
  ·cases h
 ·cases hP1
theorem op_loadR (hm:MR w0 okA μ ok st.heap w) (he:ER df μ ok st.heap w st.env a) (hk:Owed df w0 okA a k r fun u w=>next (a.put o.dst u) w)
  {t:TypeId} {κ:Kd} {x:Operand} (ho:o.op=.load t x) (hP:aggOk P t none=true) (h:evalOp C hb st (.loadR t κ x) k=some r):o.wp P a w next Q:=by
 have hx:=ev_sound he x
 simp only [evalOp] at h
 split at h
 ·rename_i b i j hv
  rw [hv] at hx
  split at h
  ·rename_i rr n f hb'
   obtain ⟨_,hp⟩:=hx
   rw [hb'] at hp
   obtain ⟨hi,g,hg,hp⟩:=hp
   obtain ⟨h0,hbr⟩:=hm.blk b _ hb'
   obtain ⟨h1,h⟩:=bif_some h
   rw [Bool.and_eq_true] at h1
   have hj:j<rr.len:=by simpa using h1.2
   rcases hbr with ⟨_,h5⟩ | ⟨g',cur,e,hg',hw,hn,hc⟩
   ·rw [hg] at h5;cases h5
   ·rw [hg] at hg';cases hg'
    obtain ⟨hkk,u,hu,hr⟩:=hc i j hi hj
    rw [Kd.homog_nth h1.1 hj] at hkk
    exact wp_quiet hm he hk (u:=u) (v:=.x (.c (κ.proj (f i j))))
     (by simp [execOp,ho,hp,Instr.loadAt,Instr.sureAddr,run_loadVar_one hP (show w.cell? ⟨g,i*rr.len+j,none⟩=some u by rw [cell_of_row w g _ cur e (0,0) hw];exact hu)]) (CR.proj hkk hr) h
  ·cases h
 ·cases h
end
end Go.Eng
