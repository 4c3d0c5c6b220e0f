/-
 Operations, part 3: those that leave the memory alone.
-/
import Derived.Test.YtdhhkbnmfabnaaaEngF
set_option linter.all false
namespace Go.Eng
open Go Go.RowKit
variable {df : DF}
section
variable {ρ : Type} {P : Program} {C : Oracle} {hb : Nat} {w0 : Base} {okA : Nat → Prop} {μ : Nat → Option Nat} {ok : Nat → Prop} {st : St} {a : Act} {w : World}
 {o : Oper} {k : V → St → Option ρ} {r : ρ} {next : Act → World → Prop} {Q : Exit → Act → World → Prop}
theorem inb_spec {i : Int} {n : Nat} (h : inb i n = true) : 0 ≤ i ∧ i < (n : Int) := by
 simpa [inb] using h
theorem inbe_spec {i : Int} {n : Nat} (h : inbe i n = true) : 0 ≤ i ∧ i ≤ (n : Int) := by
 simpa [inbe] using h
theorem part_one {t : TypeId} {cs : Array Value} {off : Nat} {u : Value} (h : aggOk P t none = true) (hu : cs[off]? = some u) : (part t cs off).run P w = .ok u w := by
 simp [part, aggOk_none h, hu]
theorem part_many {t : TypeId} {cs : Array Value} {off m : Nat} (h : aggOk P t (some m) = true) : (part t cs off).run P w = .ok (.agg (cs.extract off (off + m))) w := by
 simp [part, (aggOk_some h).1, (aggOk_some h).2]
theorem part_sound {t : TypeId} {cs : Array Value} {off : Nat} {m : Option Nat} {l : List V0} {v : V} (hagg : aggOk P t m = true) (hs : cs.size = l.length)
  (hc : ∀ (t : Nat) (c : V0), l[t]? = some c → ∃ u, cs[t]? = some u ∧ V0R μ ok w st.heap c u) (h : partV l off m = some v) :
  ∃ u, (part t cs off).run P w = .ok u w ∧ VR μ ok w st.heap v u := by
 unfold partV at h
 cases m with
 | none =>
  dsimp only at h
  split at h
  ·rename_i y hy
   cases h
   obtain ⟨u, hu, hr⟩ := hc off y hy
   exact ⟨u, part_one hagg hu, hr⟩
  ·cases h
 | some m =>
  obtain ⟨h1, h2⟩ := bif_some h
  cases h2
  have h1 := Nat.le_of_ble_eq_true h1
  refine ⟨.agg (cs.extract off (off + m)), part_many hagg, _, rfl, by simp; omega, fun t c ht => ?_⟩
  rw [List.getElem?_take] at ht
  split at ht
  ·rename_i htm
   rw [List.getElem?_drop] at ht
   obtain ⟨u, hu, hr⟩ := hc _ c ht
   refine ⟨u, ?_, hr⟩
   rw [Array.getElem?_extract]
   have := (Array.getElem?_eq_some_iff.1 hu).1
   rw [if_pos (by omega)]; exact hu
  ·cases ht
theorem op_field (hm : MR w0 okA μ ok st.heap w) (he : ER df μ ok st.heap w st.env a) (hk : Owed df w0 okA a k r fun u w => next (a.put o.dst u) w)
  {t : TypeId} {x : Operand} {fi off : Nat} {m : Option Nat} (ho : o.op = .field t x fi) (hP : (AOp.field t x fi off m).okP P = true) (h : evalOp C hb st (.field t x fi off m) k = some r) : o.wp P a w next Q := by
 have hx := ev_sound he x
 simp only [evalOp] at h
 split at h
 ·rename_i l hv
  rw [hv] at hx
  obtain ⟨cs, hp, hs, hc⟩ := hx
  simp only [AOp.okP] at hP
  split at hP
  ·rename_i fields hu
   split at hP
   ·rename_i f hf
    rw [Bool.and_eq_true] at hP
    have hoff := Nat.eq_of_beq_eq_true hP.1
    split at h
    ·rename_i v hpv
     obtain ⟨u, h1, h2⟩ := part_sound hP.2 hs hc hpv
     exact wp_quiet hm he hk (u := u) (by simp [execOp, ho, hp, Instr.field, run_underlying hu, hf, asAgg, hoff, h1]) h2 h
    ·cases h
   ·cases hP
  ·cases hP
 ·cases h
theorem op_indexAddr (hm : MR w0 okA μ ok st.heap w) (he : ER df μ ok st.heap w st.env a) (hk : Owed df w0 okA a k r fun u w => next (a.put o.dst u) w)
  {t e : TypeId} {esz : Nat} {x i : Operand} (ho : o.op = .indexAddr t x i) (hP : (AOp.indexAddr t e esz x i).okP P = true) (h : evalOp C hb st (.indexAddr t e esz x i) k = some r) : o.wp P a w next Q := by
 have hx := ev_sound he x
 have hi := ev_sound he i
 simp only [AOp.okP, Bool.and_eq_true] at hP
 have hu := sliceIs_eq hP.1
 have hsz := sizeIs_run (w := w) hP.2
 simp only [evalOp] at h
 split at h
 ·rename_i kd n hiv
  rw [hiv] at hi
  have hi : a.eval i = .int kd n := hi
  split at h
  ·rename_i fl rr len f hxv
   rw [hxv] at hx
   obtain ⟨ad, cap, hp, hc1, hc2, _, hc4⟩ := hx
   obtain ⟨h1, h⟩ := bif_some h
   obtain ⟨h2, h⟩ := bif_some h
   have h1 := Nat.eq_of_beq_eq_true h1
   obtain ⟨h3, h4⟩ := inb_spec h2
   rcases hc4 with h5 | ⟨g, off, rfl, hg, hrow⟩
   ·omega
   ·have hv' : CR ok w (.rp rr (f n.toNat)) (.pointer (some ⟨g, off + n.toNat * esz, none⟩)) := by
     refine ⟨g, _, rfl, hg, fun j hj => ?_⟩
     obtain ⟨hk, u, hu, hr⟩ := hrow n.toNat j (by omega) hj
     exact ⟨hk, u, by rw [← h1]; exact hu, hr⟩
    exact wp_quiet hm he hk (u := .pointer (some ⟨g, off + n.toNat * esz, none⟩)) (v := .x (.c (.rp rr (f n.toNat))))
     (by simp [execOp, ho, hp, hi, Instr.indexAt, run_underlying hu, asIntOf, h3, h4, hsz, add_at]) hv' h
  ·rename_i b off len hxv
   rw [hxv] at hx
   obtain ⟨h1, hp⟩ := hx
   split at h
   ·rename_i rr n' f hq
    rw [hq] at hp
    obtain ⟨hle, ad, cap, hp, hc1, hc2, hown⟩ := hp
    obtain ⟨h1, h⟩ := bif_some h
    obtain ⟨h2, h⟩ := bif_some h
    have h1 := Nat.eq_of_beq_eq_true h1
    obtain ⟨h3, h4⟩ := inb_spec h2
    rcases hown with ⟨h5, _⟩ | ⟨g, cur, e', hg, rfl, hw, hsz'⟩
    ·omega
    ·have hv' : V0R μ ok w st.heap (.aptr b (off + n.toNat) 0) (.pointer (some ⟨g, off * rr.len + n.toNat * esz, none⟩)) :=
      ⟨rfl, by rw [hq]; exact ⟨by omega, g, hg, by rw [← h1, Nat.add_mul]; rfl⟩⟩
     exact wp_quiet hm he hk (u := .pointer (some ⟨g, off * rr.len + n.toNat * esz, none⟩)) (v := .x (.aptr b (off + n.toNat) 0))
      (by simp [execOp, ho, hp, hi, Instr.indexAt, run_underlying hu, asIntOf, h3, h4, hsz, add_at]) hv' h
   ·cases h
  ·cases h
 ·cases h
theorem op_indexAddrA (hm : MR w0 okA μ ok st.heap w) (he : ER df μ ok st.heap w st.env a) (hk : Owed df w0 okA a k r fun u w => next (a.put o.dst u) w)
  {t e : TypeId} {ln esz : Nat} {x i : Operand} (ho : o.op = .indexAddr t x i) (hP : (AOp.indexAddrA t e ln esz x i).okP P = true) (h : evalOp C hb st (.indexAddrA t e ln esz x i) k = some r) : o.wp P a w next Q := by
 have hx := ev_sound he x
 have hi := ev_sound he i
 simp only [AOp.okP, Bool.and_eq_true] at hP
 obtain ⟨hP1, hP2⟩ := hP
 have hsz := sizeIs_run (w := w) hP2
 split at hP1
 ·rename_i n0 e0 hu
  rw [Bool.and_eq_true] at hP1
  have hn := Nat.eq_of_beq_eq_true hP1.1
  have hee := Nat.eq_of_beq_eq_true hP1.2
  subst hn hee
  have main : ∀ (g j : Nat) (v : V) (kd : IntKind) (n : Int), a.eval i = .int kd n → inb n ln = true → a.eval x = .pointer (some ⟨g, j, none⟩) → VR μ ok w st.heap v (.pointer (some ⟨g, j + n.toNat * esz, none⟩)) → k v st = some r → o.wp P a w next Q := by
   intro g j v kd n hi hin h1 h3 h4
   obtain ⟨h5, h6⟩ := inb_spec hin
   exact wp_quiet hm he hk (u := .pointer (some ⟨g, j + n.toNat * esz, none⟩))
     (by simp [execOp, ho, h1, hi, Instr.indexAt, run_underlying hu, asIntOf, Instr.sureAddr, h5, h6, hsz, add_at]) h3 h4
  simp only [evalOp] at h
  split at h
  ·rename_i kd n hiv
   rw [hiv] at hi
   have hi : a.eval i = .int kd n := hi
   split at h
   ·rename_i b j hxv
    rw [hxv] at hx
    have h := idxK_some h
    obtain ⟨_, hp⟩ := hx
    obtain ⟨h1, h⟩ := bif_some h
    rw [Bool.and_eq_true] at h1
    obtain ⟨hlive, h1⟩ := h1
    unfold liveBox at hlive
    split at hlive
    ·rename_i cs hq
     rw [hq] at hp
     obtain ⟨g, hg, hp⟩ := hp
     have hv' : V0R μ ok w st.heap (.ptr b (j + n.toNat * esz)) (.pointer (some ⟨g, j + n.toNat * esz, none⟩)) := ⟨rfl, by rw [hq]; exact ⟨g, hg, rfl⟩⟩
     exact main g j (.x (.ptr b (j + n.toNat * esz))) kd n hi h1 hp hv' h
    ·cases hlive
   ·rename_i b i' j hxv
    rw [hxv] at hx
    have h := idxK_some h
    obtain ⟨_, hp⟩ := hx
    obtain ⟨h1, h⟩ := bif_some h
    rw [Bool.and_eq_true] at h1
    obtain ⟨hlive, h1⟩ := h1
    unfold liveArr at hlive
    split at hlive
    ·rename_i rr n' f hq
     rw [hq] at hp
     obtain ⟨hi', g, hg, hp⟩ := hp
     have hv' : V0R μ ok w st.heap (.aptr b i' (j + n.toNat * esz)) (.pointer (some ⟨g, i' * rr.len + j + n.toNat * esz, none⟩)) := ⟨rfl, by rw [hq]; exact ⟨hi', g, hg, by rw [Nat.add_assoc]⟩⟩
     exact main g _ (.x (.aptr b i' (j + n.toNat * esz))) kd n hi h1 hp hv' h
    ·cases hlive
   ·rename_i rr f hxv
    rw [hxv] at hx
    have h := idxK_some h
    obtain ⟨g, base, hp, hg, hrow⟩ := hx
    obtain ⟨h1, h⟩ := bif_some h
    have hv' : CR ok w (.rp (rr.drop (n.toNat * esz)) (shiftG (n.toNat * esz) f)) (.pointer (some ⟨g, base + n.toNat * esz, none⟩)) := by
     refine ⟨g, _, rfl, hg, fun j hj => ?_⟩
     rw [shiftG_eq, Kd.drop_nth _ rr j hj]
     obtain ⟨hk, u, hu, hr⟩ := hrow (n.toNat * esz + j) (Kd.drop_len' rr _ j hj)
     exact ⟨hk, u, by rw [Nat.add_assoc]; exact hu, hr⟩
    exact main g base (.x (.c (.rp (rr.drop (n.toNat * esz)) (shiftG (n.toNat * esz) f)))) kd n hi h1 hp hv' h
   ·cases h
  ·cases h
 ·cases hP1
theorem op_index (hm : MR w0 okA μ ok st.heap w) (he : ER df μ ok st.heap w st.env a) (hk : Owed df w0 okA a k r fun u w => next (a.put o.dst u) w)
  {t e : TypeId} {ln esz : Nat} {m : Option Nat} {x i : Operand} (ho : o.op = .index t x i) (hP : (AOp.index t e ln esz m x i).okP P = true) (h : evalOp C hb st (.index t e ln esz m x i) k = some r) : o.wp P a w next Q := by
 have hx := ev_sound he x
 have hi := ev_sound he i
 simp only [AOp.okP, Bool.and_eq_true] at hP
 obtain ⟨⟨hP1, hP2⟩, hP3⟩ := hP
 have hsz := sizeIs_run (w := w) hP2
 split at hP1
 ·rename_i n0 e0 hu
  rw [Bool.and_eq_true] at hP1
  have hn := Nat.eq_of_beq_eq_true hP1.1
  have hee := Nat.eq_of_beq_eq_true hP1.2
  subst hn hee
  simp only [evalOp] at h
  split at h
  ·rename_i kd n hiv
   rw [hiv] at hi
   have hi : a.eval i = .int kd n := hi
   split at h
   ·rename_i l hxv
    rw [hxv] at hx
    have h := idxK_some h
    obtain ⟨cs, hp, hs, hc⟩ := hx
    obtain ⟨h1, h⟩ := bif_some h
    obtain ⟨h5, h6⟩ := inb_spec h1
    split at h
    ·rename_i v hpv
     obtain ⟨u, h2, h3⟩ := part_sound hP3 hs hc hpv
     exact wp_quiet hm he hk (u := u) (by simp [execOp, ho, hp, hi, Instr.index, run_underlying hu, asIntOf, h5, h6, hsz, h2]) h3 h
    ·cases h
   ·cases h
  ·cases h
 ·cases hP1
theorem op_indexS (hm : MR w0 okA μ ok st.heap w) (he : ER df μ ok st.heap w st.env a) (hk : Owed df w0 okA a k r fun u w => next (a.put o.dst u) w)
  {t : TypeId} {x i : Operand} (ho : o.op = .index t x i) (hP : (AOp.indexS t x i).okP P = true) (h : evalOp C hb st (.indexS t x i) k = some r) : o.wp P a w next Q := by
 have hx := ev_sound he x
 have hi := ev_sound he i
 simp only [AOp.okP] at hP
 split at hP
 ·rename_i hu
  simp only [evalOp] at h
  split at h
  ·rename_i kd n hiv
   rw [hiv] at hi
   have hi : a.eval i = .int kd n := hi
   split at h
   ·rename_i s hxv
    rw [hxv] at hx
    have hx : a.eval x = .string s := hx
    obtain ⟨h1, h⟩ := bif_some h
    obtain ⟨h5, h6⟩ := inb_spec h1
    have hlt : n.toNat < s.size := by omega
    have hget : s[n.toNat]? = some s[n.toNat] := ByteArray.getElem?_lt' s _ hlt
    have hval : (s.data.toList.getD n.toNat 0) = s[n.toNat] := by
     rw [List.getD_eq_getElem?_getD]
     have : n.toNat < s.data.size := hlt
     simp only [Array.getElem?_toList, Array.getElem?_eq_getElem this, Option.getD_some]; rfl
    have hv' : CR ok w (.i .u8 ((s.data.toList.getD n.toNat 0).toNat : Int)) (.int .u8 (s[n.toNat].toNat : Int)) := by rw [hval]; rfl
    exact wp_quiet hm he hk (u := .int .u8 (s[n.toNat].toNat : Int)) (v := .x (.c (.i .u8 ((s.data.toList.getD n.toNat 0).toNat : Int))))
     (by simp [execOp, ho, hx, hi, Instr.index, run_underlying hu, asIntOf, h5, hget]) hv' h
   ·cases h
  ·cases h
 ·cases hP
theorem intOp_run {op : BinOp} {kd : IntKind} {x y : Int} {v : V} {t : TypeId} (h : intOp op kd x y = some v) :
  ∃ u, (binOp op t (.int kd x) (.int kd y)).run P w = .ok u w ∧ VR μ ok w st.heap v u := by
 unfold intOp at h
 split at h <;> first | cases h | skip
 all_goals refine ⟨_, ?_, rfl⟩
 all_goals first
  | (rw [binOp_and, intBits_and]; rfl)
  | (rw [binOp_or, intBits_or]; rfl)
  | (rw [binOp_xor, intBits_xor]; rfl)
  | simp [binOp, Op.intArith, Op.intCmp]
theorem strOp_run {op : BinOp} {x y : ByteArray} {v : V} {t : TypeId} (h : strOp op x y = some v) :
  ∃ u, (binOp op t (.string x) (.string y)).run P w = .ok u w ∧ VR μ ok w st.heap v u := by
 unfold strOp at h
 split at h <;> first | cases h | skip
 all_goals exact ⟨_, by simp [binOp, Op.stringOp], rfl⟩
theorem op_binOp (hm : MR w0 okA μ ok st.heap w) (he : ER df μ ok st.heap w st.env a) (hk : Owed df w0 okA a k r fun u w => next (a.put o.dst u) w)
  {op : BinOp} {t yt : TypeId} {x y : Operand} (ho : o.op = .binOp op t x y yt) (h : evalOp C hb st (.binOp op t x y yt) k = some r) : o.wp P a w next Q := by
 have hx := ev_sound he x
 have hy := ev_sound he y
 simp only [evalOp] at h
 split at h
 ·rename_i k1 n1 k2 n2 hxv hyv
  rw [hxv] at hx
  rw [hyv] at hy
  have hx : a.eval x = .int k1 n1 := hx
  have hy : a.eval y = .int k2 n2 := hy
  obtain ⟨h1, h0⟩ := bif_some h
  clear h
  have := kindEq_eq h1
  subst this
  have h := h0
  clear h0
  have main : ∀ (v : V) (u : Value), (binOp op t (.int k1 n1) (.int k1 n2)).run P w = .ok u w → VR μ ok w st.heap v u → k v st = some r → o.wp P a w next Q := by
   intro v u h1 h2 h3
   refine wp_quiet hm he hk (u := u) ?_ h2 h3
   have hg : eqGuard op t x y (.int k1 n1) (.int k1 n2) = pure () := eqGuard_at_int ..
   simp [execOp, ho, hx, hy, hg, h1]
  split at h
  ·cases hz : (n2 == 0) with
   | true => rw [hz] at h; cases h
   | false =>
    rw [hz] at h
    have hz : n2 ≠ 0 := by simpa using hz
    exact main (.x (.c (.i k1 (k1.wrap (n1.tdiv n2))))) (.int k1 (k1.wrap (n1.tdiv n2))) (by simp [binOp, Op.intDiv, hz]) rfl h
  ·cases hz : (n2 == 0) with
   | true => rw [hz] at h; cases h
   | false =>
    rw [hz] at h
    have hz : n2 ≠ 0 := by simpa using hz
    exact main (.x (.c (.i k1 (n1.tmod n2)))) (.int k1 (n1.tmod n2)) (by simp [binOp, Op.intDiv, hz]) rfl h
  ·obtain ⟨h2, h⟩ := bif_some h
   simp only [Bool.and_eq_true, decide_eq_true_eq] at h2
   exact main (.x (.c (.i k1 (k1.wrap (n1 * 2 ^ n2.toNat))))) _ (by rw [binOp_shl, shift_shl _ _ _ _ h2.1 h2.2]; rfl) rfl h
  ·split at h
   ·rename_i v hv
    obtain ⟨u, h2, h3⟩ := intOp_run (P := P) (μ := μ) (ok := ok) (st := st) (w := w) (t := t) hv
    exact main v u h2 h3 h
   ·cases h
 ·rename_i s1 s2 hxv hyv
  rw [hxv] at hx
  rw [hyv] at hy
  have hx : a.eval x = .string s1 := hx
  have hy : a.eval y = .string s2 := hy
  split at h
  ·rename_i v hv
   obtain ⟨u, h2, h3⟩ := strOp_run (P := P) (μ := μ) (ok := ok) (st := st) (w := w) (t := t) hv
   refine wp_quiet hm he hk (u := u) ?_ h3 h
   have hg : eqGuard op t x y (.string s1) (.string s2) = pure () := eqGuard_at_string ..
   simp [execOp, ho, hx, hy, hg, h2]
  ·cases h
 ·cases h
theorem op_unOp (hm : MR w0 okA μ ok st.heap w) (he : ER df μ ok st.heap w st.env a) (hk : Owed df w0 okA a k r fun u w => next (a.put o.dst u) w)
  {op : UnOp} {t : TypeId} {x : Operand} (ho : o.op = .unOp op t x) (h : evalOp C hb st (.unOp op t x) k = some r) : o.wp P a w next Q := by
 have hx := ev_sound he x
 simp only [evalOp] at h
 split at h
 ·rename_i t' hxv
  rw [hxv] at hx
  have hx : a.eval x = .bool t' := hx
  exact wp_quiet hm he hk (u := .bool (!t')) (v := bl (!t')) (by simp [execOp, ho, hx, Op.unary]) rfl h
 ·rename_i kd n hxv
  rw [hxv] at hx
  have hx : a.eval x = .int kd n := hx
  exact wp_quiet hm he hk (u := .int kd (kd.wrap (0 - n))) (v := .x (.c (.i kd (kd.wrap (0 - n))))) (by simp [execOp, ho, hx, Op.unary, Op.intArith]) rfl h
 ·cases h
theorem AR.toV {y : A} {u : Value} (h : AR ok w y u) : VR μ ok w st.heap y.toV u := by
 cases y with
 | v x => exact h
 | agg l =>
  obtain ⟨cs, rfl, hs, hc⟩ := h
  refine ⟨cs, rfl, by simpa using hs, fun t c ht => ?_⟩
  rw [List.getElem?_map] at ht
  cases hq : l[t]? with
  | none => rw [hq] at ht; cases ht
  | some c0 =>
   rw [hq] at ht; cases ht
   exact hc t c0 hq
theorem op_extract (hm : MR w0 okA μ ok st.heap w) (he : ER df μ ok st.heap w st.env a) (hk : Owed df w0 okA a k r fun u w => next (a.put o.dst u) w)
  {x : Operand} {n : Nat} (ho : o.op = .extract x n) (h : evalOp C hb st (.extract x n) k = some r) : o.wp P a w next Q := by
 have hx := ev_sound he x
 simp only [evalOp] at h
 split at h
 ·rename_i l hxv
  rw [hxv] at hx
  obtain ⟨vs, hp, hs, hc⟩ := hx
  split at h
  ·rename_i y hy
   obtain ⟨u, hu, hr⟩ := hc n y hy
   exact wp_quiet hm he hk (u := u) (by simp [execOp, ho, hp, Instr.extract, hu]) hr.toV h
  ·cases h
 ·cases h
theorem op_len (hm : MR w0 okA μ ok st.heap w) (he : ER df μ ok st.heap w st.env a) (hk : Owed df w0 okA a k r fun u w => next (a.put o.dst u) w)
  {t : TypeId} {str : Bool} {x : Operand} (ho : o.op = .call { callee := .builtin .len, args := #[x], argTypes := #[t] }) (hP : (AOp.len t str x).okP P = true) (h : evalOp C hb st (.len t str x) k = some r) : o.wp P a w next Q := by
 have hx := ev_sound he x
 have main : ∀ (n : Nat), (∀ ty, (Builtin.len_ #[t] ty #[a.eval x]).run P w = .ok (.int .i64 n) w) → k (i64 n) st = some r → o.wp P a w next Q := by
  intro n h1 h2
  exact wp_quiet hm he hk (u := .int .i64 n) (v := i64 n) (by simp [execOp, ho, resolve, invoke, builtin, h1]) rfl h2
 have mainS : ∀ (n cap : Nat) (ad : Option Addr), a.eval x = .slice ad n cap → str = false → k (i64 n) st = some r → o.wp P a w next Q := by
  intro n cap ad h1 h2 h3
  subst h2
  refine main n (fun ty => ?_) h3
  simp only [AOp.okP] at hP
  split at hP
  ·cases hP
  ·rename_i e hu
   simp [Builtin.len_, run_underlying hu, h1, goInt]
  ·cases hP
 simp only [evalOp] at h
 split at h
 ·rename_i fl rr n f hxv
  rw [hxv] at hx
  obtain ⟨ad, cap, hp, hc⟩ := hx
  cases str with
  | true => cases h
  | false => exact mainS n cap ad hp rfl h
 ·rename_i b off len hxv
  rw [hxv] at hx
  obtain ⟨h1, h⟩ := bif_some h
  rw [Bool.and_eq_true] at h1
  obtain ⟨hlive, hstr⟩ := h1
  unfold liveArr at hlive
  split at hlive
  ·rename_i rr n' f hq
   obtain ⟨_, hp⟩ := hx
   rw [hq] at hp
   obtain ⟨hle, ad, cap, hp, _⟩ := hp
   exact mainS len cap ad hp (by simpa using hstr) h
  ·cases hlive
 ·rename_i s hxv
  rw [hxv] at hx
  have hx : a.eval x = .string s := hx
  obtain ⟨h1, h⟩ := bif_some h
  subst h1
  refine main s.size (fun ty => ?_) h
  simp only [AOp.okP] at hP
  split at hP
  ·rename_i hu
   simp [Builtin.len_, run_underlying hu, hx, goInt]
  ·cases hP
  ·cases hP
 ·cases h
theorem mm_run {mx : Bool} {kd : IntKind} : ∀ {l : List V} {us : List Value} {x y : Int}, mmInt mx kd x l = some y → l.length = us.length → (∀ (t : Nat) (v : V), l[t]? = some v → ∃ u, us[t]? = some u ∧ VR μ ok w st.heap v u) →
  (us.foldlM (if mx then Builtin.max2 else Builtin.min2) (.int kd x)).run P w = .ok (.int kd y) w
 | [], us, x, y, h, hl, _ => by
  have : us = [] := List.eq_nil_of_length_eq_zero (by simpa using hl.symm)
  subst this
  simp only [mmInt, Option.some.injEq] at h; subst h
  rfl
 | v :: l, us, x, y, h, hl, hv => by
  obtain ⟨u, hu, hr⟩ := hv 0 v rfl
  cases us with
  | nil => simp at hu
  | cons q us =>
   simp only [List.getElem?_cons_zero, Option.some.injEq] at hu
   subst hu
   unfold mmInt at h
   split at h
   ·rename_i heq; cases heq
   ·rename_i k' n l' heq
    cases heq
    obtain ⟨h1, h0⟩ := bif_some h
    clear h
    have := kindEq_eq h1
    subst this
    have hr : q = .int kd n := hr
    have ih := mm_run h0 (us := us) (by simpa using hl) (fun t v ht => hv (t + 1) v (by simpa using ht))
    rw [List.foldlM_cons, Sem.run_bind, hr]
    cases mx
    ·simpa [Builtin.min2] using ih
    ·simpa [Builtin.max2] using ih
   ·cases h
theorem op_mm (hm : MR w0 okA μ ok st.heap w) (he : ER df μ ok st.heap w st.env a) (hk : Owed df w0 okA a k r fun u w => next (a.put o.dst u) w)
  {mx : Bool} {args : List Operand} {ts : List TypeId} (ho : o.op = (AOp.mm mx args ts).erase) (h : evalOp C hb st (.mm mx args ts) k = some r) : o.wp P a w next Q := by
 simp only [evalOp] at h
 split at h
 ·rename_i kd n l hl
  split at h
  ·rename_i y hy
   cases args with
   | nil => simp at hl
   | cons x args =>
    simp only [List.map_cons, List.cons.injEq] at hl
    obtain ⟨hxv, hl⟩ := hl
    have hx := ev_sound he x
    rw [hxv] at hx
    have hx : a.eval x = .int kd n := hx
    have hrun := mm_run (P := P) (μ := μ) (ok := ok) (w := w) (st := st) hy (us := args.map a.eval) (by rw [← hl]; simp) (fun t v ht => by
     rw [← hl, List.getElem?_map] at ht
     cases hq : args[t]? with
     | none => rw [hq] at ht; cases ht
     | some x' =>
      rw [hq] at ht; cases ht
      exact ⟨a.eval x', by rw [List.getElem?_map, hq]; rfl, ev_sound he x'⟩)
    refine wp_quiet hm he hk (u := .int kd y) (v := .x (.c (.i kd y))) ?_ rfl h
    cases mx
    ·simp only [Bool.false_eq_true, if_false] at hrun
     simp [execOp, ho, AOp.erase, resolve, invoke, builtin, Builtin.min_, hx, hrun]
    ·simp only [if_true] at hrun
     simp [execOp, ho, AOp.erase, resolve, invoke, builtin, Builtin.max_, hx, hrun]
  ·cases h
 ·cases h
theorem op_convert (hm : MR w0 okA μ ok st.heap w) (he : ER df μ ok st.heap w st.env a) (hk : Owed df w0 okA a k r fun u w => next (a.put o.dst u) w)
  {src dst : TypeId} {kd : IntKind} {x : Operand} (ho : o.op = .convert src dst x) (hP : (AOp.convert src dst kd x).okP P = true) (h : evalOp C hb st (.convert src dst kd x) k = some r) : o.wp P a w next Q := by
 have hx := ev_sound he x
 simp only [AOp.okP, Bool.and_eq_true] at hP
 obtain ⟨hs, hd⟩ := hP
 split at hd
 ·rename_i k' hu
  have := kindEq_eq hd
  subst this
  simp only [evalOp] at h
  split at h
  ·rename_i k1 n hxv
   rw [hxv] at hx
   have hx : a.eval x = .int k1 n := hx
   obtain ⟨d, hd'⟩ := Option.isSome_iff_exists.mp hs
   exact wp_quiet hm he hk (u := .int kd (kd.wrap n)) (v := .x (.c (.i kd (kd.wrap n)))) (by simp [execOp, ho, hx, convert, run_underlying hd', run_underlying hu, Conv.intToInt]) rfl h
  ·cases h
 ·cases hd
theorem op_mkfn (hm : MR w0 okA μ ok st.heap w) (he : ER df μ ok st.heap w st.env a) (hk : Owed df w0 okA a k r fun u w => next (a.put o.dst u) w)
  {f : FuncId} {caps : List Operand} (ho : o.op = (AOp.mkfn f caps).erase) (h : evalOp C hb st (.mkfn f caps) k = some r) : o.wp P a w next Q := by
 simp only [evalOp] at h
 split at h
 ·rename_i l hl
  obtain ⟨h1, h2⟩ := allSome_get hl
  have hv : V0R μ ok w st.heap (.fn f l) (.func (.func f) #[] (caps.map a.eval).toArray) := by
   refine ⟨_, rfl, by simp [h1], fun t c ht => ?_⟩
   have h3 := h2 t c ht
   rw [List.getElem?_map] at h3
   cases hq : caps[t]? with
   | none => rw [hq] at h3; cases h3
   | some x =>
    rw [hq] at h3
    simp only [Option.map_some, Option.some.injEq] at h3
    refine ⟨a.eval x, by simp [hq], ?_⟩
    have hx := ev_sound he x
    split at h3
    ·rename_i c' hc'; cases h3; rw [hc'] at hx; exact hx
    ·rename_i b j hc'; cases h3; rw [hc'] at hx; exact hx
    ·cases h3
  exact wp_quiet hm he hk (v := .x (.fn f l)) (by simp [execOp, ho, AOp.erase, Instr.makeFunc]) hv h
 ·cases h
end
end Go.Eng
