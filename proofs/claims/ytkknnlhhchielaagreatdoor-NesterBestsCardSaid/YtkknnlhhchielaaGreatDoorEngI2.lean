/-
 Operations: the capacity of a full slice;rows of zeros appended to nothing.
-/
import Derived.Test.YtkknnlhhchielaaGreatDoorEngJ
import Derived.Lib.AppendZerosOnto
set_option linter.all false
namespace Go.Eng
open Go Go.RowKit
variable {df : DF}
section
variable {ρ : Type} {P : Program} {C : ao} {hb : Nat} {w0 : cD} {okA : Nat -> Prop} {μ : Nat -> Option Nat} {ok : Nat -> Prop} {st : St} {a : Act} {w : World}
 {o:Oper} {k:V->St->Option ρ} {r:ρ} {next:Act->World->Prop} {Q:Exit->Act->World->Prop}
theorem QI (hm:MR w0 okA μ ok st.heap w) (he:ER df μ ok st.heap w st.env a) (hk:dD df w0 okA a k r fun u w=>next (a.put o.dst u) w)
  {t:TypeId} {x:Operand} (ho:o.op=(AOp.capN t x).erase) (hP:(AOp.capN t x).okP P=true) (h:aj C hb st (.capN t x) k=some r):o.wp P a w next Q:=by
 have hx:=aF he x
 simp only [AOp.okP] at hP
 split at hP
 ·rename_i e hu
  simp only [aj] at h
  split at h
  ·rename_i r' n f hxv
   rw [hxv] at hx
   obtain ⟨ab,cap,hxp,hc1,hc2,hfull,hc4⟩:=hx
   have hcap:=hfull rfl
   subst hcap
   have hw:IntKind.i64.wrap (cap:Int)=cap:=by
    rw [IntKind.wrap_i64]
    have hq:cap<=maxLen:=hc2
    simp only [maxLen] at hq
    omega
   exact aP hm he hk (u:=.int .i64 cap) (v:=i64 cap) (by simp [execOp,ho,AOp.erase,resolve,invoke,builtin,Builtin.cap_,hxp,run_underlying hu,goInt,hw]) rfl h
  ·cases h
 ·cases hP
theorem Gw (hm:MR w0 okA μ ok st.heap w) (he:ER df μ ok st.heap w st.env a) (hk:dD df w0 okA a k r fun u w=>next (a.put o.dst u) w)
  {q:Nat} {t ti e:TypeId} {rr:Kd} {bytes:Nat} {zs:List CV} {x y:Operand} (ho:o.op=(AOp.appendZ q t ti e rr bytes zs x y).erase) (hP:(AOp.appendZ q t ti e rr bytes zs x y).okP P=true)
  (h:aj C hb st (.appendZ q t ti e rr bytes zs x y) k=some r):o.wp P a w next Q:=by
 have hx:=aF he x
 have hy:=aF he y
 simp only [AOp.okP,qaZ] at hP
 obtain ⟨hP,htg⟩:=hP
 obtain ⟨⟨⟨⟨⟨hP1,hP2⟩,hP3⟩,hP4⟩,hPi⟩,hP5⟩:=hP
 have hu:=ju hP1
 have hpos:0<rr.len:=by simpa using hP2
 have hbytes:=qpZ hP3
 have hzlen:=qbZ hP4
 split at hPi
 ·rename_i kn hti
  split at hP5
  ·rename_i i hi
   simp only [qaZ] at hP5
   obtain ⟨⟨h1,h2⟩,h3⟩:=hP5
   have hisz:=qbZ h1
   have hib:=qbZ h2
   split at h3
   ·rename_i z hz
    have hzc:=fun (w' : World) (μ' : Nat->Option Nat) (ok' : Nat->Prop) (H' : List Blk)=>eG (μ:=μ') (ok:=ok') (w:=w') (H:=H') h3
    have hzsz:z.cells.size=rr.len:=by have:=(hzc w μ ok st.heap).1;simpa [hzlen] using this
    simp only [aj] at h
    split at h
    ·rename_i r' f l hxv hyv
     rw [hxv] at hx
     rw [hyv] at hy
     obtain ⟨ab,cap,hxp,hc1,hc2,hfull,hc4⟩:=hx
     have hcap:=hfull rfl
     subst hcap
     have hy:a.eval y=.int .i64 l:=hy
     obtain ⟨h4,h⟩:=ah h
     simp only [qaZ,decide_eq_true_eq] at h4
     obtain ⟨⟨h5,h6⟩,hfit⟩:=h4
     obtain ⟨n,rfl⟩:∃ n:Nat,l=n:=⟨l.toNat,by omega⟩
     have hn:0<n:=by omega
     have hn2:n<=1073741824:=by omega
     rw [Int.toNat_natCast] at h
     have hnb:n*i.bytes<=281474976710656:=by
      have:n*i.bytes<=1073741824*4096:=Nat.mul_le_mul hn2 (by omega)
      omega
     have hgc:n<=grownCap w n 0 e:=grownCap_ge w n 0 e
     have hgm:grownCap w n 0 e<=maxLen:=grownCap_le_maxLen w n 0 e (by simp only [maxLen];omega)
     have hrun0:∀ ty,(Builtin.append_ #[t,ti] ty #[.slice ab 0 0,.int .i64 n]).run P w=.ok (.slice (some ⟨w.heap.size,0,none⟩) n (grownCap w n 0 e)) (w.drew.alloc (.cells (Builtin.zeroCells z.cells n ++ Builtin.zeroCells z.cells (grownCap w n 0 e-n)) e)):=fun ty=>by
      have:=Lib.run_append_grow_zeros (P:=P) w t ti ty e i z .i64 kn hu hti hi hz ab 0 0 [] (by cases ab<;>simp [Builtin.firstCells,loadCells,loadCellsFrom]) n hn (by omega) (by omega) (by omega) hnb (by rw [rlZ,nextslicecap_zero hn];exact hnb)
      simpa using this
     obtain ⟨cs,hcs⟩:∃ cs,cs=Builtin.zeroCells z.cells n ++ Builtin.zeroCells z.cells (grownCap w n 0 e-n):=⟨_,rfl⟩
     rw [<- hcs] at hrun0
     have hcsz:cs.size=grownCap w n 0 e*rr.len:=by
      rw [hcs,Array.size_append,size_zeroCells,size_zeroCells,hzsz,<- Nat.add_mul]
      congr 1;omega
     have hrun:(execOp a.eval o).run P w=.ok (.value (.slice (some ⟨w.heap.size,0,none⟩) n (grownCap w n 0 e))) (w.drew.alloc (.cells cs e)):=by
      simp [execOp,ho,AOp.erase,resolve,invoke,builtin,hxp,hy,hrun0]
     have hw' : (w.drew.alloc (.cells cs e)).heap=(w.alloc (.cells cs e)).heap:=rfl
     have hbel:Below w0.w.heap.size w (w.drew.alloc (.cells cs e)):=((Below.refl _ w).drew).alloc hm.below.size _
     unfold jO at h
     split at h
     ·rename_i hres
      obtain ⟨μ2,g1,g2,g3,g4,g5,E⟩:=mn hm he hres (.arr rr n (fun _ j=>au zs j)) cs e ⟨hw',hbel⟩ (fun _ _ _ hh ht=>by cases hh;simp [ht] at htg)
       (fun μ' E hμ hw=>⟨hpos,.inr ⟨w.heap.size,_,e,hμ,hw,by rw [hcsz];exact quZ _ hgc,fun i' j hi' hj=>by
        obtain ⟨c',hc'⟩:∃ c',zs[j]?=some c':=⟨zs[j]'(by omega),by simp⟩
        have hidx:i'*rr.len+j<n*rr.len:=sD hi' hj
        obtain ⟨u,hu',hr⟩:=(hzc (w.drew.alloc (.cells cs e)) μ' ok (st.heap.set (hb+q) (.arr rr n (fun _ j=>au zs j)))).2 j (.c c') (by simp [hc'])
        show (rr.nth j).okP (au zs j)/\∃ u,cs[i'*rr.len+j]?=some u/\CR ok _ (au zs j) u
        rw [mq hc']
        refine ⟨?_,u,?_,hr⟩
        ·have:=lg hfit hc'
         rw [rlZ] at this
         exact Kd.fits_ok this
        ·have hu2:z.cells[j]?=some u:=by simpa using hu'
         have hmod:(i'*rr.len+j) % z.cells.size=j:=by
          rw [hzsz,Nat.mul_comm,Nat.mul_add_mod,Nat.mod_eq_of_lt hj]
         have hu3:=qqZ.1 hu2
         rw [hcs,qlZ (by rw [size_zeroCells,hzsz];exact hidx),Array.getElem?_eq_getElem (by rw [size_zeroCells,hzsz];exact hidx)]
         simp only [Builtin.zeroCells,Array.getElem_map,Array.getElem_range,hmod]
         rw [DV _ _ hu3.1,hu3.2]⟩⟩)
      have hv:V0R μ2 ok (w.drew.alloc (.cells cs e)) (st.setB (hb+q) (.arr rr n (fun _ j=>au zs j))).heap (.own (hb+q) 0 n) (.slice (some ⟨w.heap.size,0,none⟩) n (grownCap w n 0 e)):=by
       refine ⟨rfl,?_⟩
       rw [g4]
       exact ⟨by omega,_,_,rfl,hgc,hgm,.inr ⟨w.heap.size,_,e,g3,by simp,g5,by rw [hcsz];simp⟩⟩
      exact dK hrun (hk μ2 ok (.x (.own (hb+q) 0 n)) _ _ _ g1 g2 hv h)
     ·cases h
    ·cases h
   ·cases h3
  ·cases hP5
 ·cases hPi
end
end Go.Eng
