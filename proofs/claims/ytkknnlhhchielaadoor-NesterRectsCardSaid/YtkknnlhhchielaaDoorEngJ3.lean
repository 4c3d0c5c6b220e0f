/-
 Operations, part 7: arrays of one kind of cells, with places that are not told apart.
-/
import Derived.Test.YtkknnlhhchielaaDoorEngJ2
set_option linter.all false
namespace Go.Eng
open Go Go.RowKit
variable {df : DF}
theorem Kd.homog_nth {κ : Kd} : ∀ {r : Kd} {j : Nat}, Kd.homog κ r = true → j < r.len → r.nth j = κ
 | .pr a r, 0, h, _ => by
  unfold Kd.homog at h
  rw [Bool.and_eq_true] at h
  exact Kd.eq_of_beq h.1
 | .pr a r, j + 1, h, hj => by
  unfold Kd.homog at h
  rw [Bool.and_eq_true] at h
  exact Kd.homog_nth (r := r) (j := j) h.2 (by simp only [Kd.len] at hj; omega)
 | .nil, j, _, hj => by simp [Kd.len] at hj
 | .int _, j, h, _ => by cases h
 | .bool, j, h, _ => by cases h
 | .str, j, h, _ => by cases h
 | .oth, j, h, _ => by cases h
 | .sl _, j, h, _ => by cases h
section
variable {ρ : Type} {P : Program} {C : Oracle} {hb : Nat} {w0 : Base} {okA : Nat → Prop} {μ : Nat → Option Nat} {ok : Nat → Prop} {st : St} {a : Act} {w : World}
 {o : Oper} {k : V → St → Option ρ} {r : ρ} {next : Act → World → Prop} {Q : Exit → Act → World → Prop}
theorem op_allocA (hm : MR w0 okA μ ok st.heap w) (he : ER df μ ok st.heap w st.env a) (hk : Owed df w0 okA a k r fun u w => next (a.put o.dst u) w)
  {q : Nat} {t : TypeId} {rr : Kd} {zs : List CV} (ho : o.op = .alloc t) (hP : (AOp.allocA q t rr zs).okP P = true) (h : evalOp C hb st (.allocA q t rr zs) k = some r) : o.wp P a w next Q := by
 simp only [AOp.okP, Bool.and_eq_true] at hP
 obtain ⟨⟨⟨hP1, hP2⟩, hP3⟩, htg⟩ := hP
 obtain ⟨i, z, hi, hz, hrunz, hc⟩ := zero_run (w := w) hP1
 have hzlen := Nat.eq_of_beq_eq_true hP2
 have hpos : 0 < rr.len := by simpa using hP3
 simp only [evalOp] at h
 obtain ⟨hfit, h⟩ := bif_some h
 have hzsz : z.cells.size = rr.len := by have := (hc μ ok w st.heap).1; simpa [hzlen] using this
 have hrun : (execOp a.eval o).run P w = .ok (.value (.pointer (some ⟨w.heap.size, 0, none⟩))) (w.alloc (.cells z.cells t)) := by
  simp [execOp, ho, Instr.alloc, hrunz, newVar, newRow]
 unfold newB at h
 split at h
 ·rename_i hres
  obtain ⟨μ2, g1, g2, g3, g4, g5, E⟩ := new_step hm he hres (.arr rr 1 (fun _ j => listF zs j)) z.cells t ⟨rfl, below_alloc hm _⟩ (fun _ _ _ hh ht => by cases hh; simp [ht] at htg)
   (fun μ' E hμ hw => ⟨hpos, .inr ⟨w.heap.size, _, t, hμ, hw, by rw [hzsz, Nat.one_mul]; exact Nat.le_refl _, fun i' j hi' hj => by
    have h0 : i' = 0 := by omega
    subst h0
    obtain ⟨c', hc'⟩ : ∃ c', zs[j]? = some c' := ⟨zs[j]'(by omega), by simp⟩
    obtain ⟨u, hu', hr⟩ := (hc μ' ok (w.alloc (.cells z.cells t)) (st.heap.set (hb + q) (.arr rr 1 (fun _ j => listF zs j)))).2 j (.c c') (by simp [hc'])
    show (rr.nth j).okP (listF zs j) ∧ ∃ u, z.cells[0 * rr.len + j]? = some u ∧ CR ok _ (listF zs j) u
    rw [listF_at hc']
    refine ⟨?_, u, by rw [Nat.zero_mul, Nat.zero_add]; simpa using hu', hr⟩
    have := allFit_at hfit hc'
    rw [Nat.zero_add] at this
    exact Kd.fits_ok this⟩⟩)
  have hv : V0R μ2 ok (w.alloc (.cells z.cells t)) (st.setB (hb + q) (.arr rr 1 (fun _ j => listF zs j))).heap (.aptr (hb + q) 0 0) (.pointer (some ⟨w.heap.size, 0, none⟩)) := by
   refine ⟨rfl, ?_⟩
   rw [g4]
   exact ⟨by omega, _, g3, by rw [Nat.zero_mul]⟩
  exact wp_value hrun (hk μ2 ok (.x (.aptr (hb + q) 0 0)) _ _ _ g1 g2 hv h)
 ·cases h
theorem op_indexAddrR (hm : MR w0 okA μ ok st.heap w) (he : ER df μ ok st.heap w st.env a) (hk : Owed df w0 okA a k r fun u w => next (a.put o.dst u) w)
  {t e : TypeId} {ln esz : Nat} {x i : Operand} (ho : o.op = .indexAddr t x i) (hP : (AOp.indexAddrR t e ln esz x i).okP P = true) (h : evalOp C hb st (.indexAddrR t e ln esz x i) k = some r) : o.wp P a w next Q := by
 have hx := ev_sound he x
 have hi := ev_sound he i
 simp only [AOp.okP, Bool.and_eq_true] at hP
 obtain ⟨hP1, hP2⟩ := hP
 have hsz := sizeIs_run (w := w) hP2
 split at hP1
 ·rename_i n0 e0 hu
  rw [Bool.and_eq_true] at hP1
  have hn := Nat.eq_of_beq_eq_true hP1.1
  have hee := Nat.eq_of_beq_eq_true hP1.2
  subst hn hee
  simp only [evalOp] at h
  split at h
  ·rename_i kd n hiv
   rw [hiv] at hi
   have hi : a.eval i = .int kd n := hi
   split at h
   ·rename_i b i' j hxv
    rw [hxv] at hx
    obtain ⟨_, hp⟩ := hx
    obtain ⟨h1, h⟩ := bif_some h
    rw [Bool.and_eq_true] at h1
    obtain ⟨hlive, h1⟩ := h1
    unfold liveArr at hlive
    split at hlive
    ·rename_i rr n' f hq
     rw [hq] at hp
     obtain ⟨hi', g, hg, hp⟩ := hp
     obtain ⟨h5, h6⟩ := inb_spec h1
     have hv' : V0R μ ok w st.heap (.aptr b i' (j + n.toNat * esz)) (.pointer (some ⟨g, i' * rr.len + j + n.toNat * esz, none⟩)) := ⟨rfl, by rw [hq]; exact ⟨hi', g, hg, by rw [Nat.add_assoc]⟩⟩
     exact wp_quiet hm he hk (u := .pointer (some ⟨g, i' * rr.len + j + n.toNat * esz, none⟩)) (v := .x (.aptr b i' (j + n.toNat * esz)))
      (by simp [execOp, ho, hp, hi, Instr.indexAt, run_underlying hu, asIntOf, Instr.sureAddr, h5, h6, hsz, add_at]) hv' h
    ·cases hlive
   ·cases h
  ·cases h
 ·cases hP1
theorem op_loadR (hm : MR w0 okA μ ok st.heap w) (he : ER df μ ok st.heap w st.env a) (hk : Owed df w0 okA a k r fun u w => next (a.put o.dst u) w)
  {t : TypeId} {κ : Kd} {x : Operand} (ho : o.op = .load t x) (hP : aggOk P t none = true) (h : evalOp C hb st (.loadR t κ x) k = some r) : o.wp P a w next Q := by
 have hx := ev_sound he x
 simp only [evalOp] at h
 split at h
 ·rename_i b i j hv
  rw [hv] at hx
  split at h
  ·rename_i rr n f hb'
   obtain ⟨_, hp⟩ := hx
   rw [hb'] at hp
   obtain ⟨hi, g, hg, hp⟩ := hp
   obtain ⟨h0, hbr⟩ := hm.blk b _ hb'
   obtain ⟨h1, h⟩ := bif_some h
   rw [Bool.and_eq_true] at h1
   have hj : j < rr.len := by simpa using h1.2
   rcases hbr with ⟨_, h5⟩ | ⟨g', cur, e, hg', hw, hn, hc⟩
   ·rw [hg] at h5; cases h5
   ·rw [hg] at hg'; cases hg'
    obtain ⟨hkk, u, hu, hr⟩ := hc i j hi hj
    rw [Kd.homog_nth h1.1 hj] at hkk
    exact wp_quiet hm he hk (u := u) (v := .x (.c (κ.proj (f i j))))
     (by simp [execOp, ho, hp, Instr.loadAt, Instr.sureAddr, run_loadVar_one hP (show w.cell? ⟨g, i * rr.len + j, none⟩ = some u by rw [cell_of_row w g _ cur e (0, 0) hw]; exact hu)]) (CR.proj hkk hr) h
  ·cases h
 ·cases h
end
end Go.Eng
