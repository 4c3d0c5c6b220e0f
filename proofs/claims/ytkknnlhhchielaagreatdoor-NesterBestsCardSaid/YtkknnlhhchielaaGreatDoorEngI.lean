/-
 Operations,part 7: slices of one's own.
-/
import Derived.Test.YtkknnlhhchielaaGreatDoorEngH2
set_option linter.all false
namespace Go.Eng
open Go Go.RowKit
variable {df : DF}
section
variable {ρ : Type} {P : Program} {C : ao} {hb : Nat} {w0 : cD} {okA : Nat -> Prop} {μ : Nat -> Option Nat} {ok : Nat -> Prop} {st : St} {a : Act} {w : World}
 {o:Oper} {k:V->St->Option ρ} {r:ρ} {next:Act->World->Prop} {Q:Exit->Act->World->Prop}
theorem DV (z:Array Value) (t:Nat) (h:t<z.size):z[t]! = z[t]:=by simp [h]
theorem GO {r:Kd} {v:V} {u:Value} (h:VR μ ok w st.heap v u):VR μ ok w st.heap (Fq r v) u:=by
 unfold Fq
 split
 ·split
  ·rename_i full n f k _
   cases hc:Nat.beq n 0 with
   | false=>exact h
   | true =>
    obtain ⟨a',cap,hv,h1,h2,h3,_⟩:=h
    exact ⟨a',cap,hv,h1,h2,h3,.inl (qbZ hc)⟩
  ·exact h
 ·exact h
theorem J0 (he:ER df μ ok st.heap w st.env a) (r:Kd) (parts:List (Nat × Operand)) (t:Nat) (p:Nat × V) (h:(parts.map fun p=>(p.1,Fq r (st.ev p.2)))[t]?=some p) :
  ∃ u,(parts.map fun p=>(p.1,a.eval p.2))[t]?=some (p.1,u)/\VR μ ok w st.heap p.2 u:=by
 rw [qhZ] at h
 cases hq:parts[t]? with
 | none=>rw [hq] at h;cases h
 | some x =>
  rw [hq] at h;cases h
  exact ⟨a.eval x.2,by rw [qhZ,hq];rfl,GO (aF he x.2)⟩
theorem Ck (hm:MR w0 okA μ ok st.heap w) (he:ER df μ ok st.heap w st.env a) (hk:dD df w0 okA a k r fun u w=>next (a.put o.dst u) w)
  {q:Nat} {t e:TypeId} {rr:Kd} {ln:Nat} {zs:List V0} {parts:List (Nat × Operand)} (ho:o.op=.buildSlice t ln parts.toArray) (hP:(AOp.buildSlice q t e rr ln zs parts).okP P=true)
  (h:aj C hb st (.buildSlice q t e rr ln zs parts) k=some r):o.wp P a w next Q:=by
 simp only [AOp.okP,qaZ] at hP
 obtain ⟨hP,htg⟩:=hP
 obtain ⟨⟨⟨⟨hP1,hP2⟩,hP3⟩,hP4⟩,hP5⟩:=hP
 have hu:=ju hP1
 have hs:=jv (w:=w) hP2
 have hpos:0<rr.len:=by simpa using hP3
 have hbig:=qpZ hP4
 -- the zero cells
 obtain ⟨z,hz,hzl,hzc⟩:∃ z,(zeroValue e).run P w=.ok z w/\z.cells.size=rr.len/\(zs.length=rr.len/\CsR μ ok w st.heap zs z.cells.toList):=by
  split at hP5
  ·rename_i i hi
   split at hP5
   ·rename_i z hz
    rw [qaZ] at hP5
    have h1:=eG (μ:=μ) (ok:=ok) (w:=w) (H:=st.heap) hP5.1
    have h2:=qbZ hP5.2
    exact ⟨z,by simp [zeroValue,typeInfo,hi,hz],by rw [<- h2,<- h1.1];simp,h2,h1⟩
   ·cases hP5
  ·cases hP5
 simp only [aj] at h
 split at h
 ·cases h
 ·rename_i l hl
  split at h
  ·cases h
  ·rename_i cs hcsn
   obtain ⟨hfit,h⟩:=ah h
   have hbase:CsR μ ok w st.heap ((List.range (ln*rr.len)).map fun t=>zs.getD (t % rr.len) .u) ((Array.range (ln*rr.len)).map (z.cells[· % z.cells.size]!)).toList:=by
    refine ⟨by simp,fun t c ht=>?_⟩
    rw [qhZ] at ht
    cases hq:(List.range (ln*rr.len))[t]? with
    | none=>rw [hq] at ht;cases ht
    | some t' =>
     have hlt:t<ln*rr.len:=by have:=(qfZ.1 hq).1;simpa using this
     rw [raZ hlt] at hq;cases hq
     rw [raZ hlt] at ht
     simp only [Option.map_some,rbZ] at ht
     have hmod:t % rr.len<rr.len:=Nat.mod_lt _ hpos
     have hget:zs[t % rr.len]?=some c:=by
      rw [<- ht,qdZ,qgZ (by rw [hzc.1];exact hmod)];rfl
     obtain ⟨u,hu',hr⟩:=hzc.2.2 _ c hget
     refine ⟨u,?_,hr⟩
     have hu2:z.cells[t % rr.len]?=some u:=by simpa using hu'
     have hu3:=qqZ.1 hu2
     simp only [Array.toList_map,Array.toList_range,qhZ,raZ hlt,Option.map_some,rbZ]
     rw [hzl,DV _ _ (by rw [hzl];exact hmod)]
     exact hu3.2
   obtain ⟨cells,hf1,hf2,hf3⟩:=sM hl hbase (by simp) (J0 he rr parts)
   have hcsz:cells.size=ln*rr.len:=by rw [hf3];simp
   have hll:l.length=ln*rr.len:=by rw [<- hf2.1];simp [hcsz]
   obtain ⟨hcl,hcg⟩:=aX hcsn
   rw [rcZ,hll] at hcl
   have hrun:(execOp a.eval o).run P w=.ok (.value (.slice (some ⟨w.heap.size,0,none⟩) ln ln)) (w.alloc (.cells cells e)):=by
    have hpp:(parts.toArray.map fun (p:Nat × Operand)=>(p.1,a.eval p.2)).toList=parts.map fun p=>(p.1,a.eval p.2):=by simp
    simp only [execOp,ho,Instr.buildSlice,Sem.run_bind,run_underlying hu,Result.andThen_ok,hs,Sem.run_ite,if_neg (show ¬ ln*rr.len>2 ^ 24 by omega),Sem.run_pure,Result.andThen_ite]
    by_cases h0:ln*rr.len=0
    ·have hA:∀ f:Nat->Value,(Array.range (ln*rr.len)).map f=(Array.range (ln*rr.len)).map (z.cells[· % z.cells.size]!):=fun f=>by simp [h0]
     rw [if_pos h0,hA,hpp,hf1]
     simp [newRow]
    ·rw [if_neg h0,hz,Result.andThen_ok,hpp,hf1]
     simp [newRow]
   -- what is let go
   obtain ⟨μ1,ok1,hm1,E1,hok1,hkill,hμ1,hH1⟩:=hm.freeze ((l.map (dp st.heap depth)).flatten)
   obtain ⟨hm1,he1⟩:=li hm he ((l.map (dp st.heap depth)).flatten) hm1 E1 hkill hH1
   unfold jO at h
   dsimp only at h
   split at h
   ·rename_i hres
    have hcont:∀ (t:Nat) (c:CV),cs[t]?=some c->∃ u,cells[t]?=some u/\CR ok1 w c u:=by
     intro t c ht
     have h6:=hcg t c ht
     rw [qhZ] at h6
     cases hq2:l[t]? with
     | none=>rw [hq2] at h6;cases h6
     | some y0 =>
      rw [hq2] at h6
      simp only [Option.map_some,rbZ] at h6
      obtain ⟨u,hu',hr⟩:=hf2.2 t y0 hq2
      exact ⟨u,by simpa using hu',lk hm.blk (fun g hg=>(E1.ok g hg).1) depth (fun b hb hlt=>hkill b (qyZ.2 ⟨_,rjZ.2 ⟨y0,qrZ hq2,rfl⟩,hb⟩) hlt) h6 hr⟩
    obtain ⟨μ2,h1,h2,h3,h4,h5,E⟩:=mn (st:=st.thaw ((l.map (dp st.heap depth)).flatten)) hm1 he1 hres (.arr rr ln (fun i j=>au cs (i*rr.len+j))) cells e ⟨rfl,lS (st:=st.thaw ((l.map (dp st.heap depth)).flatten)) hm1 _⟩ (fun _ _ _ hh ht=>by cases hh;simp [ht] at htg)
     (fun μ' E hμ hw=>⟨hpos,.inr ⟨w.heap.size,cells,e,hμ,hw,by omega,fun i j hi hj=>by
      have hidx:i*rr.len+j<ln*rr.len:=by
       have:(i+1)*rr.len<=ln*rr.len:=quZ _ hi
       rw [Nat.add_mul,Nat.one_mul] at this
       omega
      obtain ⟨c,hc'⟩:∃ c,cs[i*rr.len+j]?=some c:=⟨cs[i*rr.len+j]'(by omega),by simp⟩
      obtain ⟨u,hu',hr⟩:=hcont _ c hc'
      show (rr.nth j).okP (au cs (i*rr.len+j))/\∃ u,cells[i*rr.len+j]?=some u/\CR ok1 _ (au cs (i*rr.len+j)) u
      rw [mq hc']
      refine ⟨?_,u,hu',CR.mono E.ok hr⟩
      have hfi:=qiZ.1 hfit i (by simpa using hi)
      have:=lg (t:=j) (c:=c) hfi (by rw [rnZ hj,List.getElem?_drop];exact hc')
      rw [rlZ] at this
      exact Kd.fits_ok this⟩⟩)
    have hv:V0R μ2 ok1 (w.alloc (.cells cells e)) (St.setB (st.thaw ((l.map (dp st.heap depth)).flatten)) (hb+q) (.arr rr ln (fun i j=>au cs (i*rr.len+j)))).heap (.own (hb+q) 0 ln) (.slice (some ⟨w.heap.size,0,none⟩) ln ln):=by
     refine ⟨rfl,?_⟩
     rw [h4]
     refine ⟨by omega,_,ln,rfl,rkZ _,?_,.inr ⟨w.heap.size,cells,e,h3,by simp,h5,by rw [hcsz];simp⟩⟩
     have:ln<=ln*rr.len:=Nat.le_mul_of_pos_right _ hpos
     simp only [maxLen];omega
    exact dK hrun (hk μ2 ok1 (.x (.own (hb+q) 0 ln)) _ _ _ h1 h2 hv h)
   ·cases h
theorem DJ (hm:MR w0 okA μ ok st.heap w) (he:ER df μ ok st.heap w st.env a) (hk:dD df w0 okA a k r fun u w=>next (a.put o.dst u) w)
  {q:Nat} {t e:TypeId} {rr:Kd} {bytes:Nat} {zs:List CV} {l c:Operand} (ho:o.op=.makeSlice t l c) (hP:(AOp.makeSlice q t e rr bytes zs l c).okP P=true)
  (h:aj C hb st (.makeSlice q t e rr bytes zs l c) k=some r):o.wp P a w next Q:=by
 have hl:=aF he l
 have hc:=aF he c
 simp only [AOp.okP,qaZ] at hP
 obtain ⟨hP,htg⟩:=hP
 obtain ⟨⟨⟨⟨hP1,hP2⟩,hP3⟩,hP4⟩,hP5⟩:=hP
 have hu:=ju hP1
 have hpos:0<rr.len:=by simpa using hP2
 have hbytes:=qpZ hP3
 have hzlen:=qbZ hP4
 split at hP5
 ·rename_i i hi
  simp only [qaZ] at hP5
  obtain ⟨⟨h1,h2⟩,h3⟩:=hP5
  have hisz:=qbZ h1
  have hib:=qbZ h2
  split at h3
  ·rename_i z hz
   have hzc:=fun (w' : World) (μ' : Nat->Option Nat) (ok' : Nat->Prop) (H' : List Blk)=>eG (μ:=μ') (ok:=ok') (w:=w') (H:=H') h3
   have hzsz:z.cells.size=rr.len:=by have:=(hzc w μ ok st.heap).1;simpa [hzlen] using this
   simp only [aj] at h
   split at h
   ·rename_i k1 n1 k2 n2 hlv hcv
    rw [hlv] at hl
    rw [hcv] at hc
    have hl:a.eval l=.int k1 n1:=hl
    have hc:a.eval c=.int k2 n2:=hc
    obtain ⟨h4,h⟩:=ah h
    simp only [qaZ,decide_eq_true_eq] at h4
    obtain ⟨⟨⟨h5,h6⟩,h7⟩,hfit⟩:=h4
    have hbb:(i.bytes:Int)*n2<=281474976710656:=by
     have e1:(i.bytes:Int)<=4096:=by omega
     have e2:(i.bytes:Int)*n2<=4096*n2:=Int.mul_le_mul_of_nonneg_right e1 (by omega)
     omega
    have hrun0:=run_make (P:=P) w t e i z hu hi hz k1 k2 n1 n2 h5 h6 hbb (by omega)
    have hrun:(execOp a.eval o).run P w=.ok (.value (.slice (some ⟨w.heap.size,0,none⟩) n1.toNat n2.toNat)) (w.alloc (.cells (madeCells z.cells (n2.toNat*i.size)) e)):=by
     simp [execOp,ho,hl,hc,hrun0]
    have hmsz:=size_madeCells z.cells (n2.toNat*i.size)
    unfold jO at h
    split at h
    ·rename_i hres
     obtain ⟨μ2,g1,g2,g3,g4,g5,E⟩:=mn hm he hres (.arr rr n1.toNat (fun _ j=>au zs j)) (madeCells z.cells (n2.toNat*i.size)) e ⟨rfl,lS hm _⟩ (fun _ _ _ hh ht=>by cases hh;simp [ht] at htg)
      (fun μ' E hμ hw=>⟨hpos,.inr ⟨w.heap.size,_,e,hμ,hw,by rw [hmsz,hisz];exact quZ _ (by omega),fun i' j hi' hj=>by
       obtain ⟨c',hc'⟩:∃ c',zs[j]?=some c':=⟨zs[j]'(by omega),by simp⟩
       have hidx:i'*rr.len+j<n2.toNat*i.size:=by
        have:(i'+1)*rr.len<=n2.toNat*rr.len:=quZ _ (by omega)
        rw [Nat.add_mul,Nat.one_mul] at this
        rw [hisz];omega
       obtain ⟨u,hu',hr⟩:=(hzc (w.alloc (.cells (madeCells z.cells (n2.toNat*i.size)) e)) μ' ok (st.heap.set (hb+q) (.arr rr n1.toNat (fun _ j=>au zs j)))).2 j (.c c') (by simp [hc'])
       show (rr.nth j).okP (au zs j)/\∃ u,(madeCells z.cells (n2.toNat*i.size))[i'*rr.len+j]?=some u/\CR ok _ (au zs j) u
       rw [mq hc']
       refine ⟨?_,u,?_,hr⟩
       ·have:=lg hfit hc'
        rw [rlZ] at this
        exact Kd.fits_ok this
       ·have hu2:z.cells[j]?=some u:=by simpa using hu'
        have hmod:(i'*rr.len+j) % z.cells.size=j:=by
         rw [hzsz,Nat.mul_comm,Nat.mul_add_mod,Nat.mod_eq_of_lt hj]
        have hu3:=qqZ.1 hu2
        rw [Array.getElem?_eq_getElem (by rw [hmsz];exact hidx)]
        simp only [madeCells,Array.getElem_map,Array.getElem_range,hmod]
        rw [DV _ _ hu3.1,hu3.2]⟩⟩)
     have hv:V0R μ2 ok (w.alloc (.cells (madeCells z.cells (n2.toNat*i.size)) e)) (st.setB (hb+q) (.arr rr n1.toNat (fun _ j=>au zs j))).heap (.own (hb+q) 0 n1.toNat) (.slice (some ⟨w.heap.size,0,none⟩) n1.toNat n2.toNat):=by
      refine ⟨rfl,?_⟩
      rw [g4]
      exact ⟨by omega,_,n2.toNat,rfl,by omega,by simp only [maxLen];omega,.inr ⟨w.heap.size,_,e,g3,by simp,g5,by rw [hmsz,hisz];simp⟩⟩
     exact dK hrun (hk μ2 ok (.x (.own (hb+q) 0 n1.toNat)) _ _ _ g1 g2 hv h)
    ·cases h
   ·cases h
  ·cases h3
 ·cases hP5
end
end Go.Eng
