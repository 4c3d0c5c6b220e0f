/-
 Operations, part 8: append.
-/
import Derived.Test.YtbjfmobjdipehaaGreatDoorEngI
set_option linter.all false
namespace Go.Eng
open Go Go.RowKit
section
variable {ρ : Type} {P : Program} {C : Oracle} {hb : Nat} {w0 : Base} {okA : Nat → Prop} {μ : Nat → Option Nat} {ok : Nat → Prop} {st : St} {a : Act} {w : World}
 {o : Oper} {k : V → St → Option ρ} {r : ρ} {next : Act → World → Prop} {Q : Exit → Act → World → Prop}
def RowsL (ok : Nat → Prop) (w : World) (r : Kd) (f : Nat → Nat → CV) (n : Nat) (l : List Value) : Prop :=
 l.length = n * r.len ∧ ∀ i j, i < n → j < r.len → (r.nth j).okP (f i j) ∧ ∃ u, l[i * r.len + j]? = some u ∧ CR ok w (f i j) u
theorem row_lt {i j n m : Nat} (hi : i < n) (hj : j < m) : i * m + j < n * m := by
 have : (i + 1) * m ≤ n * m := Nat.mul_le_mul_right _ hi
 rw [Nat.add_mul, Nat.one_mul] at this
 omega
theorem RowsL.one {rr : Kd} {f : Nat → Nat → CV} {n : Nat} {l : List Value} (h : RowsL ok w rr f n l) (hpos : 0 < rr.len) : ∀ x ∈ l, x.oneCell' = true := by
 intro x hx
 obtain ⟨t, ht⟩ := List.mem_iff_getElem?.1 hx
 have hlt : t < n * rr.len := by rw [← h.1]; exact (List.getElem?_eq_some_iff.1 ht).1
 have hi : t / rr.len < n := by rw [Nat.div_lt_iff_lt_mul hpos]; exact hlt
 obtain ⟨_, u, hu, hr⟩ := h.2 (t / rr.len) (t % rr.len) hi (Nat.mod_lt _ hpos)
 rw [Nat.mul_comm, Nat.div_add_mod, ht] at hu
 cases hu
 exact hr.one
theorem RowsL.append {rr : Kd} {f g : Nat → Nat → CV} {n m : Nat} {l l' : List Value} (h : RowsL ok w rr f n l) (h' : RowsL ok w rr g m l') : RowsL ok w rr (joinF n f g) (n + m) (l ++ l') := by
 refine ⟨by rw [List.length_append, h.1, h'.1, Nat.add_mul], fun i j hi hj => ?_⟩
 by_cases hin : i < n
 ·have e : joinF n f g i j = f i j := by
   have : Nat.blt i n = true := by simpa using hin
   simp only [joinF, this, cond_true]
  rw [e]
  obtain ⟨hk, u, hu, hr⟩ := h.2 i j hin hj
  exact ⟨hk, u, by rw [List.getElem?_append_left (by rw [h.1]; exact row_lt hin hj)]; exact hu, hr⟩
 ·have e : joinF n f g i j = g (i - n) j := by
   have : Nat.blt i n = false := by rw [Bool.eq_false_iff]; intro h; exact hin (by simpa using h)
   simp only [joinF, this, cond_false]
  rw [e]
  obtain ⟨hk, u, hu, hr⟩ := h'.2 (i - n) j (by omega) hj
  refine ⟨hk, u, ?_, hr⟩
  have hle : n * rr.len ≤ i * rr.len := Nat.mul_le_mul_right _ (by omega)
  rw [List.getElem?_append_right (by rw [h.1]; omega), h.1, show i * rr.len + j - n * rr.len = (i - n) * rr.len + j by rw [Nat.sub_mul]; omega]
  exact hu
theorem rows_list {rr : Kd} {f : Nat → Nat → CV} {n b off : Nat} (hpos : 0 < rr.len)
  (h : ∀ i j, i < n → j < rr.len → (rr.nth j).okP (f i j) ∧ ∃ u, w.cell? ⟨b, off + i * rr.len + j, none⟩ = some u ∧ CR ok w (f i j) u) :
  ∃ l : List Value, RowsL ok w rr f n l ∧ ∀ (t : Nat) (v : Value), l[t]? = some v → w.cell? ((⟨b, off, none⟩ : Addr).add t) = some v := by
 obtain ⟨l, hl, hc⟩ := choose_list (m := n * rr.len) (Pr := fun t u => w.cell? ⟨b, off + t, none⟩ = some u ∧ CR ok w (f (t / rr.len) (t % rr.len)) u) (fun t ht => by
  have hi : t / rr.len < n := by rw [Nat.div_lt_iff_lt_mul hpos]; exact ht
  obtain ⟨_, u, hu, hr⟩ := h (t / rr.len) (t % rr.len) hi (Nat.mod_lt _ hpos)
  rw [Nat.add_assoc, Nat.mul_comm, Nat.div_add_mod] at hu
  exact ⟨u, hu, hr⟩)
 refine ⟨l, ⟨hl, fun i j hi hj => ?_⟩, fun t v ht => ?_⟩
 ·obtain ⟨u, hu, _, hr⟩ := hc (i * rr.len + j) (row_lt hi hj)
  have e1 : (i * rr.len + j) / rr.len = i := by
   rw [Nat.mul_comm, Nat.mul_add_div hpos, Nat.div_eq_of_lt hj, Nat.add_zero]
  have e2 : (i * rr.len + j) % rr.len = j := by rw [Nat.mul_comm, Nat.mul_add_mod, Nat.mod_eq_of_lt hj]
  rw [e1, e2] at hr
  exact ⟨(h i j hi hj).1, u, hu, hr⟩
 ·have hlt := (List.getElem?_eq_some_iff.1 ht).1
  obtain ⟨u, hu, hcell, _⟩ := hc t (by omega)
  rw [ht] at hu; cases hu
  rw [add_at]; exact hcell
theorem src_sound {rr : Kd} {y : V} {m : Nat} {g : Nat → Nat → CV} {v : Value} (hblk : ∀ (b : Nat) (o : Blk), st.heap[b]? = some o → BlkR μ ok w st.heap b o) (hpos : 0 < rr.len)
  (h : srcOf st.heap rr y = some (m, g)) (hv : VR μ ok w st.heap y v) :
  ∃ ad c news, v = .slice ad m c ∧ RowsL ok w rr g m news ∧ (m = 0 ∨ ∃ a0, ad = some a0 ∧ ∀ (t : Nat) (x : Value), news[t]? = some x → w.cell? (a0.add t) = some x) := by
 unfold srcOf at h
 split at h
 ·rename_i fl r' n f
  obtain ⟨h1, h2⟩ := bif_some h
  cases h2
  obtain ⟨ad, cap, rfl, hc1, hc2, _, hc4⟩ := hv
  by_cases hm0 : m = 0
  ·subst hm0
   exact ⟨ad, cap, [], rfl, ⟨by simp, fun i j hi => by omega⟩, .inl rfl⟩
  ·rcases hc4 with h5 | ⟨b, off, rfl, hg, hrow⟩
   ·exact absurd h5 hm0
   ·rw [Bool.or_eq_true] at h1
    have := Kd.eq_of_beq (h1.resolve_right (fun h => hm0 (Nat.eq_of_beq_eq_true h)))
    subst this
    obtain ⟨l, hl1, hl2⟩ := rows_list hpos hrow
    exact ⟨_, cap, l, rfl, hl1, .inr ⟨_, rfl, hl2⟩⟩
 ·rename_i b off len
  obtain ⟨_, hp⟩ := hv
  split at h
  ·rename_i r' n f hq
   rw [hq] at hp
   obtain ⟨h1, h2⟩ := bif_some h
   cases h2
   have := Kd.eq_of_beq h1
   subst this
   obtain ⟨hle, ad, cap, rfl, hc1, hc2, hown⟩ := hp
   by_cases hm0 : m = 0
   ·subst hm0
    exact ⟨ad, cap, [], rfl, ⟨by simp, fun i j hi => by omega⟩, .inl rfl⟩
   ·rcases hown with ⟨h5, _⟩ | ⟨gg, cur, e, hg, rfl, hw, hsz⟩
    ·exact absurd h5 hm0
    ·obtain ⟨h0, hbr⟩ := hblk b _ hq
     rcases hbr with ⟨h6, _⟩ | ⟨g', cur', e', hg', hw', hn, hcells⟩
     ·omega
     ·rw [hg] at hg'; cases hg'
      rw [hw] at hw'; cases hw'
      obtain ⟨l, hl1, hl2⟩ := rows_list (w := w) (ok := ok) (f := shiftF off f) (n := m) (b := gg) (off := off * rr.len) hpos (fun i j hi hj => by
       rw [shiftF_eq]
       obtain ⟨hk, u, hu, hr⟩ := hcells (off + i) j (by omega) hj
       refine ⟨hk, u, ?_, hr⟩
       rw [cell_of_row w gg _ cur e (0, 0) hw, ← hu, Nat.add_mul])
      exact ⟨_, cap, l, rfl, hl1, .inr ⟨_, rfl, hl2⟩⟩
  ·cases h
 ·cases h
theorem append_fits {t ty e : TypeId} {i : TypeInfo} (ht : P.underlying t = some (.slice e)) (hi : P.info? e = some i) {base ad : Option Addr} {n cap m c : Nat} {news : List Value}
  (hl : news.length = m * i.size) (hn : m = 0 ∨ ∃ a0, ad = some a0 ∧ ∀ (t : Nat) (x : Value), news[t]? = some x → w.cell? (a0.add t) = some x) (hle : n + m ≤ cap) :
  (Builtin.append_ #[t, t] ty #[.slice base n cap, .slice ad m c]).run P w =
   (match base with
    | some a => ((storeCells (a.add (n * i.size)) news).run P w).andThen fun _ w' => .ok (.slice base (n + m) cap) w'
    | none => .ok (.slice none (n + m) cap) w) := by
 have hf : (Builtin.firstCells i.size m (.slice ad m c)).run P w = .ok news.toArray w := by
  rcases hn with rfl | ⟨a0, rfl, hc⟩
  ·have : news = [] := List.eq_nil_of_length_eq_zero (by simpa using hl)
   subst this
   cases ad with
   | none => simp [Builtin.firstCells]
   | some a0 => simp [Builtin.firstCells, loadCells, loadCellsFrom]
  ·exact run_firstCells_some (P := P) w i.size m a0 m c news hl hc
 cases base with
 | none => simp [Builtin.append_, run_underlying ht, sizeOf, typeInfo, hi, Builtin.lenOf, hle, hf]
 | some b => simp [Builtin.append_, run_underlying ht, sizeOf, typeInfo, hi, Builtin.lenOf, hle, hf]
theorem append_grows {t ty e : TypeId} {i : TypeInfo} {z : Value} (ht : P.underlying t = some (.slice e)) (hi : P.info? e = some i) (hz : i.zero = some z) (hzs : z.cells.size = i.size) (hpos : 0 < i.size) {base ad : Option Addr} {n cap m c : Nat} {olds news : List Value}
  (hl : news.length = m * i.size) (hn : ∃ a0, ad = some a0 ∧ ∀ (t : Nat) (x : Value), news[t]? = some x → w.cell? (a0.add t) = some x)
  (hlo : olds.length = n * i.size) (ho : base = none ∧ n = 0 ∧ cap = 0 ∨ ∃ b0, base = some b0 ∧ ∀ (t : Nat) (x : Value), olds[t]? = some x → w.cell? (b0.add t) = some x)
  (hg : cap < n + m) (hsmall : n + m ≤ 1073741824) (hb : i.bytes ≤ 4096) :
  ∃ nc rest, n + m ≤ nc ∧ nc ≤ maxLen ∧ (olds ++ news ++ rest).length = nc * i.size ∧
   (Builtin.append_ #[t, t] ty #[.slice base n cap, .slice ad m c]).run P w = .ok (.slice (some ⟨w.heap.size, 0, none⟩) (n + m) nc) (w.drew.alloc (.cells (olds ++ news ++ rest).toArray e)) := by
 obtain ⟨a0, rfl, hc⟩ := hn
 have hbytes : (n + m) * i.bytes ≤ 140737488355328 := by
  have : (n + m) * i.bytes ≤ 1073741824 * 4096 := Nat.mul_le_mul hsmall hb
  omega
 have hge := grownCap_ge w (n + m) cap e
 have hcm : grownCap w (n + m) cap e ≤ maxLen := grownCap_le_maxLen w (n + m) cap e (by simp only [maxLen]; omega)
 refine ⟨grownCap w (n + m) cap e, (Builtin.zeroCells z.cells (grownCap w (n + m) cap e - (n + m))).toList, hge, hcm, ?_, ?_⟩
 ·simp only [List.length_append, hl, hlo, Array.length_toList, size_zeroCells, hzs, ← Nat.add_mul]
  congr 1; omega
 ·rcases ho with ⟨rfl, rfl, rfl⟩ | ⟨b0, rfl, hoc⟩
  ·have ho0 : olds = [] := List.eq_nil_of_length_eq_zero (by simpa using hlo)
   subst ho0
   have hr := run_append_nil (P := P) w t ty e i z ht hi hz a0 m c news hl hc (by omega) (by omega) (by simp only [Nat.zero_add] at hbytes; omega)
   simp only [Nat.zero_add, List.nil_append] at hr ⊢
   rw [hr]
   congr 4
   apply Array.ext'
   simp
  ·have hr := run_append_grow (P := P) w t ty e i z ht hi hz b0 n cap olds hlo hoc a0 m c news hl hc hg (by omega) (growslice_fits hg hbytes)
   rw [hr]
   congr 4
   apply Array.ext'
   simp
theorem MR.install0 {H : List Blk} (h : MR w0 okA μ ok H w) {b : Nat} (hb : H[b]? = some .rsv) {rr : Kd} (hpos : 0 < rr.len) (f : Nat → Nat → CV) :
  MR w0 okA μ ok (H.set b (.arr rr 0 f)) w ∧ Ext μ ok w H μ ok w (H.set b (.arr rr 0 f)) := by
 have hmu : μ b = none := h.blk b _ hb
 have hlt : b < H.length := (List.getElem?_eq_some_iff.1 hb).1
 have hne : ∀ b' (x : Blk), H[b']? = some x → x ≠ .rsv → b' ≠ b := fun b' x hx hr hbb => by
  subst hbb; rw [hb] at hx; cases hx; exact hr rfl
 have hset : ∀ b', b' ≠ b → (H.set b (.arr rr 0 f))[b']? = H[b']? := fun b' hn => List.getElem?_set_ne (Ne.symm hn)
 have E : Ext μ ok w H μ ok w (H.set b (.arr rr 0 f)) := by
  refine ⟨fun k hk => ⟨hk, rfl⟩, fun b' hb' => ?_, fun b' cs hb' => ?_, fun b' r n f hb' => ?_⟩
  ·rw [hset b' (hne b' _ hb' (by simp))]; exact hb'
  ·exact .inr ⟨⟨cs, by rw [hset b' (hne b' _ hb' (by simp))]; exact hb'⟩, rfl⟩
  ·exact .inr ⟨⟨f, by rw [hset b' (hne b' _ hb' (by simp))]; exact hb'⟩, rfl, fun k cur e hk hw => ⟨cur, e, hw, rfl⟩⟩
 refine ⟨⟨h.below, h.okd, h.keep, h.fresh, h.inj, fun b' x hx => ?_, fun b' g' r n f' hx ht hm => by
  by_cases hbb : b' = b
  ·subst hbb; rw [hmu] at hm; cases hm
  ·rw [hset b' hbb] at hx; exact h.tag b' g' r n f' hx ht hm⟩, E⟩
 by_cases hbb : b' = b
 ·subst hbb
  rw [List.getElem?_set_self hlt] at hx
  cases hx
  exact ⟨hpos, .inl ⟨rfl, hmu⟩⟩
 ·rw [hset b' hbb] at hx
  exact E.blk rfl (fun k hk => rfl) (h.blk b' x hx)
theorem ER.drop (he : ER μ ok st.heap w st.env a) {b : Nat} {rr : Kd} {n : Nat} {f : Nat → Nat → CV} (hb : st.heap[b]? = some (.arr rr n f)) :
  ER (upd μ b none) ok ((st.heap.map (Blk.drop b)).set b .rsv) w (st.env.map (V.drop b)) a := by
 refine ⟨by rw [he.size]; simp, fun t v ht => ?_, he.defers, he.glob⟩
 rw [List.getElem?_map] at ht
 cases hq : st.env[t]? with
 | none => rw [hq] at ht; cases ht
 | some v0 =>
  rw [hq] at ht; cases ht
  obtain ⟨u, hu, hr⟩ := he.env t v0 hq
  exact ⟨u, hu, VR.drop hb hr⟩
theorem op_append (hm : MR w0 okA μ ok st.heap w) (he : ER μ ok st.heap w st.env a) (hk : Owed w0 okA a k r fun u w => next (a.put o.dst u) w)
  {q : Nat} {t e : TypeId} {rr : Kd} {bytes : Nat} {x y : Operand} (ho : o.op = (AOp.append q t e rr bytes x y).erase) (hP : (AOp.append q t e rr bytes x y).okP P = true)
  (h : evalOp C hb st (.append q t e rr bytes x y) k = some r) : o.wp P a w next Q := by
 have hx := ev_sound he x
 have hy := ev_sound he y
 simp only [AOp.okP, Bool.and_eq_true] at hP
 obtain ⟨hP, htg⟩ := hP
 obtain ⟨⟨⟨hP1, hP2⟩, hP3⟩, hP4⟩ := hP
 have hu := sliceIs_eq hP1
 have hpos : 0 < rr.len := by simpa using hP2
 have hbytes := Nat.le_of_ble_eq_true hP3
 split at hP4
 ·rename_i i hi
  simp only [Bool.and_eq_true] at hP4
  obtain ⟨⟨h1, h2⟩, h3⟩ := hP4
  have hisz := Nat.eq_of_beq_eq_true h1
  have hib := Nat.eq_of_beq_eq_true h2
  split at h3
  ·rename_i z hz
   have hzs := Nat.eq_of_beq_eq_true h3
   simp only [evalOp] at h
   split at h
   ·cases h
   ·rename_i m g hsrc
    obtain ⟨ad, c, news, hyv, hnews, hsr⟩ := src_sound hm.blk hpos hsrc hy
    have hexec : ∀ (u : Value) (w' : World), (∀ ty, (Builtin.append_ #[t, t] ty #[a.eval x, a.eval y]).run P w = .ok u w') → (execOp a.eval o).run P w = .ok (.value u) w' := by
     intro u w' hh
     simp [execOp, ho, AOp.erase, resolve, invoke, builtin, hh]
    split at h
    ·rename_i b off len hxv
     rw [hxv] at hx
     split at h
     ·rename_i hb0 r' n f hq
      obtain ⟨_, hp⟩ := hx
      rw [hq] at hp
      obtain ⟨hle, ab, cap, hxp, hc1, hc2, hown⟩ := hp
      obtain ⟨h4, h0'⟩ := bif_some h
      rw [Bool.and_eq_true] at h4
      have hrr := Kd.eq_of_beq h4.1
      clear h
      subst hrr
      have h := h0'
      have hsmall := Nat.le_of_ble_eq_true h4.2
      have hqlt : b < st.heap.length := (List.getElem?_eq_some_iff.1 hq).1
      -- the block and all that refers to it is forgotten first
      have hm1 := hm.drop hq
      have he1 := he.drop hq
      have hres : ((st.heap.map (Blk.drop b)).set b .rsv)[b]? = some .rsv := List.getElem?_set_self (by simpa using hqlt)
      have hheap : ∀ ob, ((st.drop b).setB b ob).heap = ((st.heap.map (Blk.drop b)).set b .rsv).set b ob := fun ob => by
       show (st.heap.map (Blk.drop b)).set b ob = _
       rw [List.set_set]
      have hgot : ∀ ob, ((st.drop b).setB b ob).heap[b]? = some ob := fun ob => by
       show ((st.heap.map (Blk.drop b)).set b ob)[b]? = _
       exact List.getElem?_set_self (by simpa using hqlt)
      -- what the slice holds
      have holds : ∃ olds, RowsL ok w rr f len olds ∧ (ab = none ∧ len = 0 ∧ cap = 0 ∨ ∃ b0, ab = some b0 ∧ ∀ (t : Nat) (x : Value), olds[t]? = some x → w.cell? (b0.add t) = some x) := by
       rcases hown with ⟨rfl, rfl⟩ | ⟨gg, cur, e', hg, hab, hw, hsz⟩
       ·refine ⟨[], ⟨by simp, fun i j hi => by omega⟩, ?_⟩
        cases ab with
        | none => exact .inl ⟨rfl, rfl, rfl⟩
        | some b0 => exact .inr ⟨b0, rfl, fun t x ht => by simp at ht⟩
       ·obtain ⟨h0, hbr⟩ := hm.blk b _ hq
        rcases hbr with ⟨_, h6⟩ | ⟨g', cur', e'', hg', hw', hn', hcells⟩
        ·rw [hg] at h6; cases h6
        ·rw [hg] at hg'; cases hg'
         rw [hw] at hw'; cases hw'
         obtain ⟨l, hl1, hl2⟩ := rows_list (w := w) (ok := ok) (f := f) (n := len) (b := gg) (off := 0) hpos (fun i j hi hj => by
          obtain ⟨hk, u, hu, hr⟩ := hcells i j (by omega) hj
          refine ⟨hk, u, ?_, hr⟩
          rw [cell_of_row w gg _ cur e' (0, 0) hw, ← hu, Nat.zero_add])
         exact ⟨l, hl1, .inr ⟨_, by rw [hab]; simp, hl2⟩⟩
      obtain ⟨olds, holds, hob⟩ := holds
      by_cases hroom : len + m ≤ cap
      ·
       have hf := fun ty => append_fits (P := P) (ty := ty) hu hi (base := ab) (n := len) (c := c) (by rw [hnews.1, hisz]) hsr hroom
       rcases hown with ⟨rfl, rfl⟩ | ⟨gg, cur, e', hg, rfl, hw, hsz⟩
       ·
        have hm0 : m = 0 := by omega
        subst hm0
        have hn0 : news = [] := List.eq_nil_of_length_eq_zero (by simpa using hnews.1)
        subst hn0
        obtain ⟨g1, E⟩ := hm1.install0 hres hpos (joinF 0 f g)
        refine wp_value (u := .slice ab 0 0) (w' := w) (hexec _ _ fun ty => ?_) (hk (upd μ b none) ok (.x (.own b 0 (0 + 0))) _ _ _ (by rw [hheap]; exact g1) (by rw [hheap]; exact he1.ext E) ?_ h)
        ·rw [hxp, hyv, hf ty]
         cases ab with
         | none => rfl
         | some b0 => simp [storeCells]
        ·exact ⟨rfl, by rw [hgot]; exact ⟨by omega, ab, 0, rfl, by omega, by simp [maxLen], .inl ⟨rfl, rfl⟩⟩⟩
       ·have hcap : cur.size = cap * rr.len := by rw [hsz]; simp
        have hfit : len * rr.len + news.length ≤ cur.size := by rw [hnews.1, hcap, ← Nat.add_mul]; exact Nat.mul_le_mul_right _ hroom
        have hst := run_storeCells_at (P := P) gg (len * rr.len) e' news 0 cur w hw (by simpa using hfit) (hnews.one hpos)
        simp only [Nat.add_zero] at hst
        have hlen : (splice cur.toList (len * rr.len) news).length = cur.size := by rw [splice_length _ _ _ (by simpa using hfit)]; simp
        have hfr := hm.fresh b gg hg
        have hoth : ∀ k, k ≠ gg → (w.setRow gg (splice cur.toList (len * rr.len) news).toArray).heap[k]? = w.heap[k]? := fun k hk => setRow_other w gg k _ hk
        have hrow : (w.setRow gg (splice cur.toList (len * rr.len) news).toArray).heap[gg]? = some (.cells (splice cur.toList (len * rr.len) news).toArray e' (0, 0)) := setRow_heap w gg cur _ e' _ hw
        obtain ⟨g1, E⟩ := hm1.install (b := b) (g := gg) (w' := w.setRow gg (splice cur.toList (len * rr.len) news).toArray) (.arr rr (len + m) (joinF len f g)) hres
         (hm.below.turn hw (by simp only [List.size_toArray, hlen]) hfr.1 hrow hoth)
         (by simp)
         (fun k hk => hoth k (fun ee => hfr.2.2 (ee ▸ hk)))
         (fun b' k hk => hoth k (fun ee => by
          by_cases hbb : b' = b
          ·subst hbb; simp at hk
          ·rw [upd_other hbb] at hk; exact hbb (hm.inj b' b gg (ee ▸ hk) hg)))
         ⟨hfr.1, by simpa using hfr.2.1, hfr.2.2⟩
         (fun b' hk => by
          by_cases hbb : b' = b
          ·subst hbb; simp at hk
          ·rw [upd_other hbb] at hk; exact hbb (hm.inj b' b gg hk hg))
         (fun _ _ _ hh ht => by cases hh; simp [ht] at htg)
         (fun E => ⟨hpos, .inr ⟨gg, _, e', upd_same _ _ _, hrow, by simp only [List.size_toArray, hlen, hcap]; exact Nat.mul_le_mul_right _ hroom, fun i' j hi' hj => by
          have hall := holds.append hnews
          obtain ⟨hk1, u, hu1, hr⟩ := hall.2 i' j hi' hj
          refine ⟨hk1, u, ?_, CR.mono E.ok hr⟩
          simp only [List.getElem?_toArray]
          rw [splice_get _ _ _ _ (by simpa using hfit)]
          by_cases hin : i' < len
          ·have hlt := row_lt hin hj
           rw [if_neg (by omega)]
           rw [List.getElem?_append_left (by rw [holds.1]; exact hlt)] at hu1
           obtain ⟨b0, hb0, hoc⟩ := hob.resolve_left (by simp)
           cases hb0
           have := hoc _ _ hu1
           simp only [Nat.zero_mul] at this
           rw [add_at, Nat.zero_add, cell_of_row w gg _ cur e' (0, 0) hw] at this
           simpa using this
          ·have hge : len * rr.len ≤ i' * rr.len := Nat.mul_le_mul_right _ (by omega)
           have hlt := row_lt hi' hj
           rw [if_pos ⟨by omega, by rw [hnews.1, ← Nat.add_mul]; exact hlt⟩]
           rw [List.getElem?_append_right (by rw [holds.1]; omega), holds.1] at hu1
           exact hu1⟩⟩)
        refine wp_value (u := .slice (some ⟨gg, 0 * rr.len, none⟩) (len + m) cap) (w' := w.setRow gg (splice cur.toList (len * rr.len) news).toArray) (hexec _ _ fun ty => ?_)
         (hk _ ok (.x (.own b 0 (len + m))) _ _ _ (by rw [hheap]; exact g1) (by rw [hheap]; exact he1.ext E) ?_ h)
        ·rw [hxp, hyv, hf ty]
         simp only [add_at, hisz, Nat.zero_mul, Nat.zero_add, hst, Result.andThen_ok]
         rfl
        ·exact ⟨rfl, by rw [hgot]; exact ⟨by omega, _, cap, rfl, hroom, hc2, .inr ⟨gg, _, e', upd_same _ _ _, rfl, hrow, by simp only [List.size_toArray, hlen, hcap]; simp⟩⟩⟩
      ·
       have hm0 : m ≠ 0 := by omega
       obtain ⟨nc, rest, hnc1, hnc2, hnc3, hg⟩ : ∃ nc rest, len + m ≤ nc ∧ nc ≤ maxLen ∧ (olds ++ news ++ rest).length = nc * i.size ∧ ∀ ty, (Builtin.append_ #[t, t] ty #[.slice ab len cap, .slice ad m c]).run P w =
         .ok (.slice (some ⟨w.heap.size, 0, none⟩) (len + m) nc) (w.drew.alloc (.cells (olds ++ news ++ rest).toArray e)) :=
        append_grows (P := P) (ty := 0) hu hi hz (by rw [hzs, hisz]) (by omega) (by rw [hnews.1, hisz]) (hsr.resolve_left hm0) (by rw [holds.1, hisz]) hob (by omega) hsmall (by omega) |>.imp fun nc h => h.imp fun rest h => ⟨h.1, h.2.1, h.2.2.1, fun ty => h.2.2.2⟩
       have hw' : (w.drew.alloc (.cells (olds ++ news ++ rest).toArray e)).heap = (w.alloc (.cells (olds ++ news ++ rest).toArray e)).heap := rfl
       have hbel : Below w0.w.heap.size w (w.drew.alloc (.cells (olds ++ news ++ rest).toArray e)) := ((Below.refl _ w).drew).alloc hm.below.size _
       obtain ⟨μ2, g1, g2, g3, g4, g5, E⟩ := new_step (st := ⟨st.env.map (V.drop b), (st.heap.map (Blk.drop b)).set b .rsv⟩) hm1 he1 hres (.arr rr (len + m) (joinF len f g)) (olds ++ news ++ rest).toArray e ⟨hw', hbel⟩ (fun _ _ _ hh ht => by cases hh; simp [ht] at htg)
        (fun μ' E hμ hww => ⟨hpos, .inr ⟨w.heap.size, _, e, hμ, hww, by simp only [List.size_toArray, hnc3, hisz]; exact Nat.mul_le_mul_right _ hnc1, fun i' j hi' hj => by
         obtain ⟨hk1, u, hu1, hr⟩ := (holds.append hnews).2 i' j hi' hj
         refine ⟨hk1, u, ?_, CR.mono E.ok hr⟩
         simp only [List.getElem?_toArray]
         rw [List.getElem?_append_left (by rw [(holds.append hnews).1]; exact row_lt hi' hj)]
         exact hu1⟩⟩)
       refine wp_value (hexec _ _ fun ty => by rw [hxp, hyv]; exact hg ty) (hk μ2 ok (.x (.own b 0 (len + m))) _ _ _ (by rw [hheap]; exact g1) (by rw [hheap]; exact g2) ?_ h)
       exact ⟨rfl, by rw [hgot]; exact ⟨by omega, _, nc, rfl, hnc1, hnc2, .inr ⟨w.heap.size, _, e, g3, by simp, g5, by simp only [List.size_toArray, hnc3, hisz]; simp⟩⟩⟩
     ·cases h
    ·rename_i full r' n f hxv
     rw [hxv] at hx
     obtain ⟨ab, cap, hxp, hc1, hc2, hfull, hc4⟩ := hx
     obtain ⟨h4, h⟩ := bif_some h
     simp only [Bool.and_eq_true] at h4
     obtain ⟨⟨⟨h5, h6⟩, h7⟩, h8⟩ := h4
     have hcap := hfull h5
     subst hcap
     have hsmall := Nat.le_of_ble_eq_true h8
     by_cases hmz : m = 0
     ·subst hmz
      have hn0 : cap = 0 := by
       rw [Bool.or_eq_true] at h6
       rcases h6 with h6 | h6
       ·exact Nat.eq_of_beq_eq_true h6
       ·simp at h6
      subst hn0
      have hf := fun ty => append_fits (P := P) (ty := ty) hu hi (base := ab) (n := 0) (c := c) (by rw [hnews.1, hisz]) hsr (Nat.le_refl 0)
      have hn0 : news = [] := List.eq_nil_of_length_eq_zero (by simpa using hnews.1)
      subst hn0
      unfold newB at h
      split at h
      ·rename_i hres
       obtain ⟨g1, E⟩ := hm.install0 hres hpos (joinF 0 f g)
       have hlt : hb + q < st.heap.length := (List.getElem?_eq_some_iff.1 hres).1
       refine wp_value (u := .slice ab 0 0) (w' := w) (hexec _ _ fun ty => ?_) (hk μ ok (.x (.own (hb + q) 0 (0 + 0))) (st.setB (hb + q) (.arr rr 0 (joinF 0 f g))) _ _ g1 (he.ext E) ?_ h)
       ·rw [hxp, hyv, hf ty]
        cases ab with
        | none => rfl
        | some b0 => simp [storeCells]
       ·refine ⟨rfl, ?_⟩
        rw [show (st.setB (hb + q) (.arr rr 0 (joinF 0 f g))).heap[hb + q]? = some (.arr rr 0 (joinF 0 f g)) from List.getElem?_set_self hlt]
        exact ⟨by omega, ab, 0, rfl, by omega, by simp [maxLen], .inl ⟨rfl, rfl⟩⟩
      ·cases h
     have hm0 : 0 < m := by omega
     have holds : ∃ olds, RowsL ok w rr f cap olds ∧ (ab = none ∧ cap = 0 ∧ cap = 0 ∨ ∃ b0, ab = some b0 ∧ ∀ (t : Nat) (x : Value), olds[t]? = some x → w.cell? (b0.add t) = some x) := by
      by_cases hn0 : cap = 0
      ·subst hn0
       refine ⟨[], ⟨by simp, fun i j hi => by omega⟩, ?_⟩
       cases ab with
       | none => exact .inl ⟨rfl, rfl, rfl⟩
       | some b0 => exact .inr ⟨b0, rfl, fun t x ht => by simp at ht⟩
      ·rcases hc4 with h9 | ⟨b0, off, rfl, hg, hrow⟩
       ·exact absurd h9 hn0
       ·rw [Bool.or_eq_true] at h7
        have := Kd.eq_of_beq (h7.resolve_right (fun h => hn0 (Nat.eq_of_beq_eq_true h)))
        subst this
        obtain ⟨l, hl1, hl2⟩ := rows_list hpos hrow
        exact ⟨l, hl1, .inr ⟨_, rfl, hl2⟩⟩
     obtain ⟨olds, holds, hob⟩ := holds
     obtain ⟨nc, rest, hnc1, hnc2, hnc3, hg⟩ : ∃ nc rest, cap + m ≤ nc ∧ nc ≤ maxLen ∧ (olds ++ news ++ rest).length = nc * i.size ∧ ∀ ty, (Builtin.append_ #[t, t] ty #[.slice ab cap cap, .slice ad m c]).run P w =
       .ok (.slice (some ⟨w.heap.size, 0, none⟩) (cap + m) nc) (w.drew.alloc (.cells (olds ++ news ++ rest).toArray e)) :=
      append_grows (P := P) (ty := 0) hu hi hz (by rw [hzs, hisz]) (by omega) (by rw [hnews.1, hisz]) (hsr.resolve_left (by omega)) (by rw [holds.1, hisz]) hob (by omega) hsmall (by omega) |>.imp fun nc h => h.imp fun rest h => ⟨h.1, h.2.1, h.2.2.1, fun ty => h.2.2.2⟩
     have hw' : (w.drew.alloc (.cells (olds ++ news ++ rest).toArray e)).heap = (w.alloc (.cells (olds ++ news ++ rest).toArray e)).heap := rfl
     have hbel : Below w0.w.heap.size w (w.drew.alloc (.cells (olds ++ news ++ rest).toArray e)) := ((Below.refl _ w).drew).alloc hm.below.size _
     unfold newB at h
     split at h
     ·rename_i hres
      obtain ⟨μ2, g1, g2, g3, g4, g5, E⟩ := new_step hm he hres (.arr rr (cap + m) (joinF cap f g)) (olds ++ news ++ rest).toArray e ⟨hw', hbel⟩ (fun _ _ _ hh ht => by cases hh; simp [ht] at htg)
       (fun μ' E hμ hww => ⟨hpos, .inr ⟨w.heap.size, _, e, hμ, hww, by simp only [List.size_toArray, hnc3, hisz]; exact Nat.mul_le_mul_right _ hnc1, fun i' j hi' hj => by
        obtain ⟨hk1, u, hu1, hr⟩ := (holds.append hnews).2 i' j hi' hj
        refine ⟨hk1, u, ?_, CR.mono E.ok hr⟩
        simp only [List.getElem?_toArray]
        rw [List.getElem?_append_left (by rw [(holds.append hnews).1]; exact row_lt hi' hj)]
        exact hu1⟩⟩)
      refine wp_value (hexec _ _ fun ty => by rw [hxp, hyv]; exact hg ty) (hk μ2 ok (.x (.own (hb + q) 0 (cap + m))) _ _ _ g1 g2 ?_ h)
      exact ⟨rfl, by rw [g4]; exact ⟨by omega, _, nc, rfl, hnc1, hnc2, .inr ⟨w.heap.size, _, e, g3, by simp, g5, by simp only [List.size_toArray, hnc3, hisz]; simp⟩⟩⟩
     ·cases h
    ·cases h
  ·cases h3
 ·cases hP4
end
end Go.Eng
