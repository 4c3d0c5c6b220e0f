/-
 Regions that draw their order, part 3: operations on memory, and calls, by their footprints.
-/
import Derived.Test.YtdhhkbnmfabnaaaEngM1
set_option linter.all false
namespace Go.Eng
open Go Go.RowKit
section
variable {ρ : Type} {C : Oracle} {hb : Nat} {st : St} {φ : Foot} {k : V → St → Option ρ} {r : ρ}
theorem projRow_ids {rr : Kd} {g : Nat → CV} {j : Nat} {m : Option Nat} {v : V} (h : projRow rr g j m = some v) : v.ids = [] := by
 unfold projRow at h
 cases m with
 | none => obtain ⟨_, h⟩ := bif_some h; cases h; rfl
 | some m =>
  obtain ⟨_, h⟩ := bif_some h
  cases h
  simp only [V.ids, List.map_map]
  apply List.flatten_eq_nil_iff.2
  intro l hl
  obtain ⟨t, _, rfl⟩ := List.mem_map.1 hl
  rfl
theorem blkIds_at {H : List Blk} {b : Nat} {o : Blk} (h : H[b]? = some o) : blkIds H b = o.ids := by simp [blkIds, h]
theorem loc_load {t : TypeId} {m : Option Nat} {x : Operand} (hf : foot hb st (.load t m x) = some φ) (h : evalOp C hb st (.load t m x) k = some r) : ∃ v E, Loc C hb st (.load t m x) φ v E := by
 have hops : (AOp.load t m x).erase.operands.toList = [x] := rfl
 unfold foot at hf
 dsimp only at hf
 split at hf
 ·rename_i b j hx
  cases hf
  refine Loc.quiet rfl (fun st2 ρ k => rfl) (fun st2 ha ρ k => ?_) ?_ h (fun v s hh => ?_)
  ·have e1 := ha.ev x (by rw [hops]; simp)
   have e2 := ha.heap b (.inl (by simp))
   simp only [evalOp, e1, hx, e2]
  ·rw [hops]
   intro y hy
   simp only [List.mem_singleton] at hy
   subst hy
   rw [hx]
   exact ⟨rfl, fun b' hb' => .inl (by simp [V.ids, V0.ids] at hb'; simp [hb'])⟩
  ·simp only [evalOp, hx] at hh
   split at hh
   ·rename_i cells hq
    split at hh
    ·rename_i v' hv
     cases hh
     intro z hz
     exact .inl (List.mem_cons_of_mem _ (by rw [blkIds_at hq]; exact partV_ids hv z hz))
    ·cases hh
   ·cases hh
 ·rename_i b i j hx
  cases hf
  refine Loc.quiet rfl (fun st2 ρ k => rfl) (fun st2 ha ρ k => ?_) ?_ h (fun v s hh => ?_)
  ·have e1 := ha.ev x (by rw [hops]; simp)
   have e2 := ha.heap b (.inl (by simp))
   simp only [evalOp, e1, hx, e2]
  ·rw [hops]
   intro y hy
   simp only [List.mem_singleton] at hy
   subst hy
   rw [hx]
   exact ⟨rfl, fun b' hb' => .inl (by simp [V.ids, V0.ids] at hb'; simp [hb'])⟩
  ·simp only [evalOp, hx] at hh
   split at hh
   ·split at hh
    ·rename_i v' hv
     cases hh
     intro z hz
     rw [projRow_ids hv] at hz; cases hz
    ·cases hh
   ·cases hh
 ·rename_i c hx
  cases hf
  refine Loc.quiet rfl (fun st2 ρ k => rfl) (fun st2 ha ρ k => ?_) ?_ h (fun v s hh => ?_)
  ·have e1 := ha.ev x (by rw [hops]; simp)
   simp only [evalOp, e1, hx]
   cases c <;> rfl
  ·rw [hops]
   intro y hy
   simp only [List.mem_singleton] at hy
   subst hy
   rw [hx]
   exact ⟨rfl, fun b' hb' => by cases hb'⟩
  ·simp only [evalOp, hx] at hh
   split at hh
   ·rename_i heq; cases heq
   ·rename_i heq; cases heq
   ·split at hh
    ·rename_i v' hv
     cases hh
     intro z hz
     rw [projRow_ids hv] at hz; cases hz
    ·cases hh
   ·cases hh
 ·cases hf
theorem Loc.new {o : AOp} {q : Nat} {ob : Blk} {v : V} (hwr : φ.wr = [hb + q]) (hres : st.heap[hb + q]? = some .rsv) (hids : ∀ x ∈ ob.ids, φ.has x) (hv : v.ids = [hb + q])
  (huids : ∀ x ∈ o.erase.operands.toList, (st.ev x).known = true ∧ ∀ b ∈ (st.ev x).ids, φ.has b)
  (hrun : ∀ st2, AgreeO o φ st st2 → ∀ {ρ : Type} (k : V → St → Option ρ), evalOp C hb st2 o k = newB hb st2 q ob fun s => k v s) : ∃ v E, Loc C hb st o φ v E := by
 refine ⟨v, .set (hb + q) ob, Loc.of (fun st2 ha ρ k => ?_) ⟨by rw [hwr]; simp, hids⟩ (fun x hx => .inr (by rw [hwr, ← hv]; exact hx)) huids (fun b hb => ?_)⟩
 ·rw [hrun st2 ha k]
  unfold newB
  rw [ha.heap (hb + q) (.inr (by rw [hwr]; simp)), hres]
  rfl
 ·rw [hwr, List.mem_singleton] at hb
  subst hb
  rw [blkIds_at hres]
  intro x hx; cases hx
theorem loc_box {q : Nat} {t : TypeId} {x : Operand} (hf : foot hb st (.box q t x) = some φ) (h : evalOp C hb st (.box q t x) k = some r) : ∃ v E, Loc C hb st (.box q t x) φ v E := by
 have hsp := wrOf_spec hf
 simp only [evalOp] at h
 split at h
 ·rename_i l hl
  have hres : st.heap[hb + q]? = some .rsv := by
   unfold newB at h
   split at h
   ·assumption
   ·cases h
  refine Loc.new (ob := .box l) (v := .x (.ptr (hb + q) 0)) hsp.1 hres (fun y hy => (hsp.2 (st.ev x) (by simp)).2 y ((cellsOf_ids hl y).1 hy)) rfl
   (fun y hy => hsp.2 _ (by simp [AOp.erase, Op.operands] at hy; simp [hy])) (fun st2 ha ρ k => ?_)
  simp only [evalOp, ha.ev x (by simp [AOp.erase, Op.operands]), hl]
 ·cases h
theorem loc_alloc {q : Nat} {t : TypeId} {zs : List V0} (hf : foot hb st (.alloc q t zs) = some φ) (h : evalOp C hb st (.alloc q t zs) k = some r) : ∃ v E, Loc C hb st (.alloc q t zs) φ v E := by
 unfold foot at hf
 obtain ⟨hz, hf⟩ := bif_some hf
 cases hf
 simp only [evalOp] at h
 have hres : st.heap[hb + q]? = some .rsv := by
  unfold newB at h
  split at h
  ·assumption
  ·cases h
 refine Loc.new (ob := .box zs) (v := .x (.ptr (hb + q) 0)) rfl hres (fun y hy => ?_) rfl (fun y hy => by simp [AOp.erase, Op.operands] at hy) (fun st2 ha ρ k => rfl)
 have : (zs.map V0.ids).flatten = [] := by simpa using hz
 rw [show (Blk.box zs).ids = (zs.map V0.ids).flatten from rfl, this] at hy
 cases hy
theorem refs_of_ids {H : List Blk} : ∀ (d : Nat) {y : V0}, y.ids = [] → refs H d y = []
 | 0, y, _ => rfl
 | d + 1, y, h => by
  cases y with
  | u => rfl
  | c x => rfl
  | own b off len => simp [V0.ids] at h
  | ptr b j => simp [V0.ids] at h
  | aptr b i j => simp [V0.ids] at h
  | fn f caps =>
   simp only [refs]
   apply List.flatten_eq_nil_iff.2
   intro l hl
   obtain ⟨c, hc, rfl⟩ := List.mem_map.1 hl
   cases c with
   | c x => rfl
   | ptr b j =>
    simp only [V0.ids] at h
    have := List.flatten_eq_nil_iff.1 h [b] (List.mem_map.2 ⟨.ptr b j, hc, rfl⟩)
    cases this
theorem snap_of_ids {H H2 : List Blk} : ∀ (d : Nat) {y : V0}, y.ids = [] → snap H2 d y = snap H d y
 | 0, y, _ => rfl
 | d + 1, y, h => by
  cases y with
  | u => rfl
  | c x => rfl
  | own b off len => simp [V0.ids] at h
  | ptr b j => simp [V0.ids] at h
  | aptr b i j => simp [V0.ids] at h
  | fn f caps =>
   simp only [snap]
   congr 2
   apply List.map_congr_left
   intro c hc
   cases c with
   | c x => rfl
   | ptr b j =>
    simp only [V0.ids] at h
    have := List.flatten_eq_nil_iff.1 h [b] (List.mem_map.2 ⟨.ptr b j, hc, rfl⟩)
    cases this
theorem cells_noids {l : List V0} (h : (l.map V0.ids).flatten = []) {H H2 : List Blk} : (l.map (refs H depth)).flatten = [] ∧ l.map (snap H2 depth) = l.map (snap H depth) := by
 have h1 : ∀ y ∈ l, y.ids = [] := fun y hy => List.flatten_eq_nil_iff.1 h _ (List.mem_map.2 ⟨y, hy, rfl⟩)
 refine ⟨List.flatten_eq_nil_iff.2 (fun s hs => ?_), List.map_congr_left (fun y hy => snap_of_ids depth (h1 y hy))⟩
 obtain ⟨y, hy, rfl⟩ := List.mem_map.1 hs
 exact refs_of_ids depth (h1 y hy)
theorem getD_ids {zs : List V0} (hz : (zs.map V0.ids).flatten = []) (t : Nat) : (zs.getD t .u).ids = [] := by
 rw [List.getD_eq_getElem?_getD]
 cases hq : zs[t]? with
 | none => rfl
 | some y => exact List.flatten_eq_nil_iff.1 hz _ (List.mem_map.2 ⟨y, List.mem_of_getElem? hq, rfl⟩)
theorem loc_buildSlice {q : Nat} {t e : TypeId} {rr : Kd} {ln : Nat} {zs : List V0} {parts : List (Nat × Operand)} (hf : foot hb st (.buildSlice q t e rr ln zs parts) = some φ)
  (h : evalOp C hb st (.buildSlice q t e rr ln zs parts) k = some r) : ∃ v E, Loc C hb st (.buildSlice q t e rr ln zs parts) φ v E := by
 unfold foot at hf
 obtain ⟨hz, hf⟩ := bif_some hf
 rw [Bool.and_eq_true] at hz
 have hz1 : (zs.map V0.ids).flatten = [] := by simpa using hz.1
 have hz2 : (parts.map fun p => (st.ev p.2).ids).flatten = [] := by simpa using hz.2
 have hsp := wrOf_spec hf
 have hops : (AOp.buildSlice q t e rr ln zs parts).erase.operands.toList = parts.map (·.2) := by simp [AOp.erase, Op.operands]
 simp only [evalOp] at h
 split at h
 ·cases h
 ·rename_i l hl
  have hlids : (l.map V0.ids).flatten = [] := by
   rw [List.eq_nil_iff_forall_not_mem]
   intro x hx
   rcases fill_ids hl x hx with h1 | ⟨p, hp, h1⟩
   ·obtain ⟨s, hs, hx'⟩ := List.mem_flatten.1 h1
    obtain ⟨y, hy, rfl⟩ := List.mem_map.1 hs
    obtain ⟨t', _, rfl⟩ := List.mem_map.1 hy
    rw [getD_ids hz1] at hx'; cases hx'
   ·obtain ⟨q', hq, rfl⟩ := List.mem_map.1 hp
    have := List.flatten_eq_nil_iff.1 hz2 _ (List.mem_map.2 ⟨q', hq, rfl⟩)
    rw [this] at h1; cases h1
  split at h
  ·cases h
  ·rename_i cs hcs
   obtain ⟨hfit, h⟩ := bif_some h
   rw [(cells_noids hlids (H := st.heap) (H2 := st.heap)).1] at h
   have hres : st.heap[hb + q]? = some .rsv := by
    unfold newB at h
    split at h
    ·assumption
    ·cases h
   refine Loc.new (ob := .arr rr ln (fun i j => listF cs (i * rr.len + j))) (v := .x (.own (hb + q) 0 ln)) hsp.1 hres (fun y hy => by cases hy) rfl ?_ (fun st2 ha ρ k => ?_)
   ·rw [hops]
    intro y hy
    obtain ⟨p, hp, rfl⟩ := List.mem_map.1 hy
    exact hsp.2 _ (List.mem_map.2 ⟨p, hp, rfl⟩)
   ·have e1 : (parts.map fun p => (p.1, st2.ev p.2)) = parts.map fun p => (p.1, st.ev p.2) := List.map_congr_left (fun p hp => by rw [ha.ev p.2 (by rw [hops]; exact List.mem_map.2 ⟨p, hp, rfl⟩)])
    simp only [evalOp, e1, hl, (cells_noids hlids (H := st.heap) (H2 := st2.heap)).2, hcs, hfit, cond_true, (cells_noids hlids (H := st2.heap) (H2 := st2.heap)).1]
    rfl
theorem loc_store {t : TypeId} {m : Nat} {x y : Operand} (hf : foot hb st (.store t m x y) = some φ) (h : evalOp C hb st (.store t m x y) k = some r) : ∃ v E, Loc C hb st (.store t m x y) φ v E := by
 have hops : (AOp.store t m x y).erase.operands.toList = [x, y] := rfl
 unfold foot at hf
 dsimp only at hf
 simp only [evalOp] at h
 split at h
 ·cases h
 ·rename_i l hl
  obtain ⟨hlen, h⟩ := bif_some h
  split at hf
  ·rename_i b j hx
   obtain ⟨hk, hf⟩ := bif_some hf
   cases hf
   rw [hx] at h
   dsimp only at h
   split at h
   ·rename_i cells hq
    obtain ⟨hle, h⟩ := bif_some h
    refine ⟨.undef, .set b (.box (splice cells j l)), Loc.of (fun st2 ha ρ k => ?_) ⟨by simp, fun z hz => ?_⟩ (fun z hz => by cases hz) ?_ (fun b' hb' z hz => ?_)⟩
    ·have e1 := ha.ev x (by rw [hops]; simp)
     have e2 := ha.ev y (by rw [hops]; simp)
     have e3 := ha.heap b (.inr (by simp))
     simp only [evalOp, e1, e2, hl, hlen, cond_true, hx, e3, hq, hle]
     rfl
    ·obtain ⟨s, hs, hz'⟩ := List.mem_flatten.1 hz
     obtain ⟨y0, hy0, rfl⟩ := List.mem_map.1 hs
     rcases splice_mem hy0 with h1 | h1
     ·exact .inl (List.mem_append_right _ (by rw [blkIds_at hq]; exact List.mem_flatten.2 ⟨_, List.mem_map.2 ⟨y0, h1, rfl⟩, hz'⟩))
     ·exact .inl (List.mem_append_left _ ((cellsOf_ids hl z).1 (List.mem_flatten.2 ⟨_, List.mem_map.2 ⟨y0, h1, rfl⟩, hz'⟩)))
    ·rw [hops]
     intro z hz
     simp only [List.mem_cons, List.not_mem_nil, or_false] at hz
     rcases hz with rfl | rfl
     ·rw [hx]; exact ⟨rfl, fun b' hb' => .inr (by simpa [V.ids, V0.ids] using hb')⟩
     ·exact ⟨hk, fun b' hb' => .inl (List.mem_append_left _ hb')⟩
    ·simp only [List.mem_singleton] at hb'
     subst hb'
     exact .inl (List.mem_append_right _ hz)
   ·cases h
  ·rename_i b i j hx
   obtain ⟨hk, hf⟩ := bif_some hf
   cases hf
   rw [Bool.and_eq_true] at hk
   have hyids : (st.ev y).ids = [] := by simpa using hk.2
   have hlids : (l.map V0.ids).flatten = [] := by
    rw [List.eq_nil_iff_forall_not_mem]
    intro z hz
    have := (cellsOf_ids hl z).1 hz
    rw [hyids] at this; cases this
   rw [hx] at h
   dsimp only at h
   split at h
   ·rename_i rr n f hq
    split at h
    ·cases h
    ·rename_i cs hcs
     obtain ⟨hfit, h⟩ := bif_some h
     rw [(cells_noids hlids (H := st.heap) (H2 := st.heap)).1] at hfit
     refine ⟨.undef, .set b (.arr rr n (setF f i j m (listF cs))), Loc.of (fun st2 ha ρ k => ?_) ⟨by simp, (fun z hz => by cases hz)⟩ (fun z hz => by cases hz) ?_ (fun b' hb' z hz => ?_)⟩
     ·have e1 := ha.ev x (by rw [hops]; simp)
      have e2 := ha.ev y (by rw [hops]; simp)
      have e3 := ha.heap b (.inr (by simp))
      simp only [evalOp, e1, e2, hl, hlen, cond_true, hx, e3, hq, (cells_noids hlids (H := st.heap) (H2 := st2.heap)).2, hcs, (cells_noids hlids (H := st2.heap) (H2 := st2.heap)).1, hfit]
      rfl
     ·rw [hops]
      intro z hz
      simp only [List.mem_cons, List.not_mem_nil, or_false] at hz
      rcases hz with rfl | rfl
      ·rw [hx]; exact ⟨rfl, fun b' hb' => .inr (by simpa [V.ids, V0.ids] using hb')⟩
      ·exact ⟨hk.1, fun b' hb' => by rw [hyids] at hb'; cases hb'⟩
     ·simp only [List.mem_singleton] at hb'
      subst hb'
      rw [blkIds_at hq] at hz; cases hz
   ·cases h
  ·cases hf
theorem named_spec {b : Nat} : ∀ {H : List Blk} {n b' : Nat} {o : Blk}, H[b']? = some o → b ∈ o.ids → n + b' ∈ named b n H
 | [], n, b', o, h, _ => by simp at h
 | x :: H, n, 0, o, h, hb => by
  simp at h; subst h
  unfold named
  have : x.ids.contains b = true := by simpa using hb
  rw [this]; simp
 | x :: H, n, b' + 1, o, h, hb => by
  have ih := named_spec (n := n + 1) (H := H) (b' := b') (by simpa using h) hb
  unfold named
  rw [show n + (b' + 1) = n + 1 + b' by omega]
  cases x.ids.contains b
  ·exact ih
  ·exact List.mem_cons_of_mem _ ih
theorem srcOf_agree {H H2 : List Blk} {rr : Kd} {y : V} (h : ∀ b ∈ y.ids, H2[b]? = H[b]?) : srcOf H2 rr y = srcOf H rr y := by
 unfold srcOf
 split
 ·rfl
 ·rename_i b off len
  rw [h b (by simp [V.ids, V0.ids])]
 ·rfl
theorem loc_append {q : Nat} {t e : TypeId} {rr : Kd} {bytes : Nat} {x y : Operand} (hf : foot hb st (.append q t e rr bytes x y) = some φ) (h : evalOp C hb st (.append q t e rr bytes x y) k = some r) :
  ∃ v E, Loc C hb st (.append q t e rr bytes x y) φ v E := by
 have hops : (AOp.append q t e rr bytes x y).erase.operands.toList = [x, y] := rfl
 unfold foot at hf
 dsimp only at hf
 split at hf
 ·rename_i b off len hx
  obtain ⟨hk, hf⟩ := bif_some hf
  cases hf
  simp only [evalOp] at h
  split at h
  ·cases h
  ·rename_i m g hsrc
   rw [hx] at h
   dsimp only at h
   split at h
   ·rename_i r' n f hq
    obtain ⟨hc, h⟩ := bif_some h
    refine ⟨.x (.own b 0 (len + m)), .app b (.arr rr (len + m) (joinF len f g)), Loc.of (fun st2 ha ρ k => ?_) ⟨by simp, (fun z hz => by cases hz), (fun b' o' h1 h2 => ?_), by simp⟩ (fun z hz => .inr ?_) ?_ (fun b' hb' z hz => ?_)⟩
    ·have e1 := ha.ev x (by rw [hops]; simp)
     have e2 := ha.ev y (by rw [hops]; simp)
     have e3 := ha.heap b (.inr (by simp))
     have e4 : srcOf st2.heap rr (st.ev y) = srcOf st.heap rr (st.ev y) := srcOf_agree (fun b' hb' => ha.heap b' (.inl (List.mem_append_left _ hb')))
     simp only [evalOp, e1, e2, e4, hsrc, hx, e3, hq, hc, cond_true]
     rfl
    ·have := named_spec (n := 0) h1 h2
     rw [Nat.zero_add] at this
     exact List.mem_cons_of_mem _ this
    ·simp [V.ids, V0.ids] at hz; simp [hz]
    ·rw [hops]
     intro z hz
     simp only [List.mem_cons, List.not_mem_nil, or_false] at hz
     rcases hz with rfl | rfl
     ·rw [hx]; exact ⟨rfl, fun b' hb' => .inr (by simp [V.ids, V0.ids] at hb'; simp [hb'])⟩
     ·exact ⟨hk, fun b' hb' => .inl (List.mem_append_left _ hb')⟩
    ·rcases List.mem_cons.1 hb' with rfl | hb'
     ·rw [blkIds_at hq] at hz; cases hz
     ·exact .inl (List.mem_append_right _ (List.mem_flatten.2 ⟨_, List.mem_map.2 ⟨b', hb', rfl⟩, hz⟩))
   ·cases h
 ·cases hf
theorem allSome_congr {α β : Type} {L : List α} {f g : α → Option β} {r : List β} (h : allSome (L.map f) = some r) (hfg : ∀ x ∈ L, ∀ y, f x = some y → g x = some y) : allSome (L.map g) = some r := by
 induction L generalizing r with
 | nil => exact h
 | cons x L ih =>
  simp only [List.map_cons] at h ⊢
  cases hx : f x with
  | none => rw [hx] at h; cases h
  | some y =>
   rw [hx] at h
   simp only [allSome] at h
   cases hq : allSome (L.map f) with
   | none => rw [hq] at h; cases h
   | some r' =>
    rw [hq] at h
    rw [hfg x (List.mem_cons_self ..) y hx]
    simp only [allSome, ih hq (fun x hx => hfg x (List.mem_cons_of_mem _ hx))]
    exact h
def capSnap (H : List Blk) (d : Nat) : Cap → Option CV
 | .c x => some x
 | .ptr b j => snap H d (.ptr b j)
def capRefs (H : List Blk) (d : Nat) : Cap → List Nat
 | .c _ => []
 | .ptr b j => refs H d (.ptr b j)
theorem snap_fn (H : List Blk) (d : Nat) (f : FuncId) (caps : List Cap) : snap H (d + 1) (.fn f caps) = (match allSome (caps.map (capSnap H d)) with | some l => some (.fn f l.length (listF l)) | none => none) := by
 have : (fun | .c x => some x | .ptr b j => snap H d (.ptr b j) : Cap → Option CV) = capSnap H d := by funext c; cases c <;> rfl
 simp only [snap]
 rw [← this]
 rfl
theorem refs_fn (H : List Blk) (d : Nat) (f : FuncId) (caps : List Cap) : refs H (d + 1) (.fn f caps) = (caps.map (capRefs H d)).flatten := by
 have : (fun | .c _ => [] | .ptr b j => refs H d (.ptr b j) : Cap → List Nat) = capRefs H d := by funext c; cases c <;> rfl
 simp only [refs]
 rw [← this]
 rfl
theorem snap_agree {H H2 : List Blk} : ∀ (d : Nat) {y : V0} {c : CV}, (∀ b ∈ refs H d y, H2[b]? = H[b]?) → snap H d y = some c → snap H2 d y = some c ∧ refs H2 d y = refs H d y
 | 0, y, c, _, h => by simp [snap] at h
 | d + 1, y, c, hr, h => by
  have ptr : ∀ (b j : Nat) (c : CV), (∀ b' ∈ refs H (d + 1) (.ptr b j), H2[b']? = H[b']?) → snap H (d + 1) (.ptr b j) = some c → snap H2 (d + 1) (.ptr b j) = some c ∧ refs H2 (d + 1) (.ptr b j) = refs H (d + 1) (.ptr b j) := by
   intro b j c hr h
   simp only [snap, refs] at h hr ⊢
   cases hb : H[b]? with
   | none => rw [hb] at h; cases h
   | some o =>
    rw [hb] at h hr
    cases o with
    | rsv => cases h
    | dead => cases h
    | arr _ _ _ => cases h
    | box cells =>
     dsimp only at h hr
     have e := hr b (List.mem_cons_self ..)
     rw [e, hb]
     dsimp only
     cases hq : allSome ((cells.drop j).map (snap H d)) with
     | none => rw [hq] at h; cases h
     | some l =>
      rw [hq] at h
      have hin : ∀ y ∈ cells.drop j, ∀ b' ∈ refs H d y, H2[b']? = H[b']? := fun y hy b' hb' => hr b' (List.mem_cons_of_mem _ (List.mem_flatten.2 ⟨_, List.mem_map.2 ⟨y, hy, rfl⟩, hb'⟩))
      have h1 := allSome_congr hq (g := snap H2 d) (fun y hy c hc => (snap_agree d (hin y hy) hc).1)
      rw [h1]
      refine ⟨h, ?_⟩
      congr 2
      apply List.map_congr_left
      intro y hy
      have hs := allSome_get hq
      obtain ⟨t, ht⟩ := List.mem_iff_getElem?.1 hy
      have hlt : t < l.length := by rw [hs.1, List.length_map]; exact (List.getElem?_eq_some_iff.1 ht).1
      have h2 := hs.2 t l[t] (by simp)
      rw [List.getElem?_map, ht] at h2
      simp only [Option.map_some, Option.some.injEq] at h2
      exact (snap_agree d (hin y hy) h2).2
  cases y with
  | u => exact ⟨h, rfl⟩
  | c x => exact ⟨h, rfl⟩
  | own b off len =>
   have := hr b (by simp [refs])
   simp only [snap, refs, this] at h ⊢
   exact ⟨h, trivial⟩
  | aptr b i j =>
   have := hr b (by simp [refs])
   simp only [snap, refs, this] at h ⊢
   exact ⟨h, trivial⟩
  | ptr b j => exact ptr b j c hr h
  | fn f caps =>
   rw [snap_fn] at h
   rw [refs_fn] at hr
   rw [snap_fn, refs_fn, refs_fn]
   cases hq : allSome (caps.map (capSnap H d)) with
   | none => rw [hq] at h; cases h
   | some l =>
    rw [hq] at h
    have hin : ∀ b j, Cap.ptr b j ∈ caps → ∀ b' ∈ refs H d (.ptr b j), H2[b']? = H[b']? := fun b j hc b' hb' => hr b' (List.mem_flatten.2 ⟨_, List.mem_map.2 ⟨_, hc, rfl⟩, hb'⟩)
    have h1 := allSome_congr hq (g := capSnap H2 d) (fun y hy c hc => by
     cases y with
     | c x => exact hc
     | ptr b j => exact (snap_agree d (hin b j hy) hc).1)
    rw [h1]
    refine ⟨h, ?_⟩
    congr 1
    apply List.map_congr_left
    intro y hy
    cases y with
    | c x => rfl
    | ptr b j =>
     have hs := allSome_get hq
     obtain ⟨t, ht⟩ := List.mem_iff_getElem?.1 hy
     have hlt : t < l.length := by rw [hs.1, List.length_map]; exact (List.getElem?_eq_some_iff.1 ht).1
     have h2 := hs.2 t l[t] (by simp)
     rw [List.getElem?_map, ht] at h2
     simp only [Option.map_some, Option.some.injEq] at h2
     exact (snap_agree d (hin b j hy) h2).2
theorem snapA_agree {H H2 : List Blk} {v : V} {c : A} (hr : ∀ b ∈ refsA H v, H2[b]? = H[b]?) (h : snapA H v = some c) : snapA H2 v = some c ∧ refsA H2 v = refsA H v := by
 cases v with
 | u => cases h
 | undef => cases h
 | tup l => cases h
 | x y =>
  simp only [snapA, refsA] at h hr ⊢
  cases hq : snap H depth y with
  | none => rw [hq] at h; cases h
  | some c' =>
   rw [hq] at h
   obtain ⟨h1, h2⟩ := snap_agree depth hr hq
   rw [h1]; exact ⟨h, h2⟩
 | agg l =>
  simp only [snapA, refsA] at h hr ⊢
  cases hq : allSome (l.map (snap H depth)) with
  | none => rw [hq] at h; cases h
  | some r =>
   rw [hq] at h
   have hin : ∀ y ∈ l, ∀ b' ∈ refs H depth y, H2[b']? = H[b']? := fun y hy b' hb' => hr b' (List.mem_flatten.2 ⟨_, List.mem_map.2 ⟨y, hy, rfl⟩, hb'⟩)
   rw [allSome_congr hq (g := snap H2 depth) (fun y hy c hc => (snap_agree depth (hin y hy) hc).1)]
   refine ⟨h, ?_⟩
   congr 1
   apply List.map_congr_left
   intro y hy
   have hs := allSome_get hq
   obtain ⟨t, ht⟩ := List.mem_iff_getElem?.1 hy
   have hlt : t < r.length := by rw [hs.1, List.length_map]; exact (List.getElem?_eq_some_iff.1 ht).1
   have h2 := hs.2 t r[t] (by simp)
   rw [List.getElem?_map, ht] at h2
   simp only [Option.map_some, Option.some.injEq] at h2
   exact (snap_agree depth (hin y hy) h2).2
theorem resTup_ids (res : List A) : (resTup res).ids = [] := by
 unfold resTup
 split
 ·exact A.toV_ids _
 ·rfl
theorem loc_callF {o : AOp} {f : FuncId} {vs : List V} {m : Mode} (hf : callFoot st vs m = some φ) (h : callF C f vs m st k = some r)
  (hrun : ∀ st2, AgreeO o φ st st2 → ∀ {ρ : Type} (k : V → St → Option ρ), evalOp C hb st2 o k = callF C f vs m st2 k)
  (huids : ∀ x ∈ o.erase.operands.toList, (st.ev x).known = true ∧ ∀ b ∈ (st.ev x).ids, ∃ v ∈ vs, b ∈ v.ids) : ∃ v E, Loc C hb st o φ v E := by
 unfold callF at h
 split at h
 ·cases h
 ·rename_i as has
  ·obtain ⟨res, hres, h, huse⟩ := Oracle.use h
   have hsn : ∀ st2 : St, (∀ b ∈ (vs.map (refsA st.heap)).flatten, st2.heap[b]? = st.heap[b]?) → allSome (vs.map (snapA st2.heap)) = some as ∧ vs.map (refsA st2.heap) = vs.map (refsA st.heap) := by
    intro st2 hag
    have hin : ∀ y ∈ vs, ∀ b' ∈ refsA st.heap y, st2.heap[b']? = st.heap[b']? := fun y hy b' hb' => hag b' (List.mem_flatten.2 ⟨_, List.mem_map.2 ⟨y, hy, rfl⟩, hb'⟩)
    refine ⟨allSome_congr has (fun y hy c hc => (snapA_agree (hin y hy) hc).1), List.map_congr_left (fun y hy => ?_)⟩
    have hs := allSome_get has
    obtain ⟨t, ht⟩ := List.mem_iff_getElem?.1 hy
    have hlt : t < as.length := by rw [hs.1, List.length_map]; exact (List.getElem?_eq_some_iff.1 ht).1
    have h2 := hs.2 t as[t] (by simp)
    rw [List.getElem?_map, ht] at h2
    simp only [Option.map_some, Option.some.injEq] at h2
    exact (snapA_agree (hin y hy) h2).2
   have hidsin : ∀ ψ : Foot, (∀ v ∈ vs, ∀ b ∈ v.ids, ψ.has b) → ∀ x ∈ o.erase.operands.toList, (st.ev x).known = true ∧ ∀ b ∈ (st.ev x).ids, ψ.has b := fun ψ hψ x hx => by
    refine ⟨(huids x hx).1, fun b hb => ?_⟩
    obtain ⟨v, hv, hb'⟩ := (huids x hx).2 b hb
    exact hψ v hv b hb'
   unfold callFoot at hf
   cases m with
   | snap =>
    dsimp only at h hf
    obtain ⟨hsc, h⟩ := bif_some h
    obtain ⟨hk, hf⟩ := bif_some hf
    cases hf
    refine ⟨resTup res, .none, Loc.of (fun st2 ha ρ k => ?_) trivial (fun x hx => by rw [resTup_ids] at hx; cases hx) (hidsin _ (fun v hv b hb => .inl (List.mem_append_right _ (List.mem_flatten.2 ⟨_, List.mem_map.2 ⟨v, hv, rfl⟩, hb⟩)))) (fun b hb => by cases hb)⟩
    rw [hrun st2 ha k]
    obtain ⟨e1, e2⟩ := hsn st2 (fun b hb => ha.heap b (.inl (List.mem_append_left _ hb)))
    unfold callF
    simp only [e1, huse, hsc, cond_true]
    rfl
   | freeze =>
    dsimp only at h hf
    obtain ⟨hk, hf⟩ := bif_some hf
    cases hf
    rw [Bool.and_eq_true] at hk
    have hemp : (vs.map (refsA st.heap)).flatten = [] := by simpa using hk.2
    refine ⟨resTup res, .none, Loc.of (fun st2 ha ρ k => ?_) trivial (fun x hx => by rw [resTup_ids] at hx; cases hx) (hidsin _ (fun v hv b hb => .inl (List.mem_flatten.2 ⟨_, List.mem_map.2 ⟨v, hv, rfl⟩, hb⟩))) (fun b hb => by cases hb)⟩
    rw [hrun st2 ha k]
    obtain ⟨e1, e2⟩ := hsn st2 (fun b hb => by rw [hemp] at hb; cases hb)
    unfold callF
    simp only [e1, huse, e2, hemp]
    rfl
theorem loc_call {f : FuncId} {args : List Operand} {ts : List TypeId} {m : Mode} (hf : foot hb st (.call f args ts m) = some φ) (h : evalOp C hb st (.call f args ts m) k = some r) : ∃ v E, Loc C hb st (.call f args ts m) φ v E := by
 have hops : (AOp.call f args ts m).erase.operands.toList = .func f :: args := by simp [AOp.erase, Op.operands, Call.operands]
 have hk : ∀ v ∈ args.map st.ev, v.known = true := by
  unfold foot callFoot at hf
  cases m with
  | snap => obtain ⟨hk, _⟩ := bif_some hf; exact List.all_eq_true.1 hk
  | freeze => obtain ⟨hk, _⟩ := bif_some hf; rw [Bool.and_eq_true] at hk; exact List.all_eq_true.1 hk.1
 refine loc_callF (vs := args.map st.ev) hf h (fun st2 ha ρ k => ?_) ?_
 ·have : args.map st2.ev = args.map st.ev := List.map_congr_left (fun x hx => ha.ev x (by rw [hops]; exact List.mem_cons_of_mem _ hx))
  simp only [evalOp, this]
 ·rw [hops]
  intro x hx
  rcases List.mem_cons.1 hx with rfl | hx
  ·exact ⟨rfl, fun b hb => by simp [St.ev, V.ids, V0.ids] at hb⟩
  ·exact ⟨hk _ (List.mem_map.2 ⟨x, hx, rfl⟩), fun b hb => ⟨_, List.mem_map.2 ⟨x, hx, rfl⟩, hb⟩⟩
theorem loc_callv {g : Operand} {args : List Operand} {ts : List TypeId} {m : Mode} (hf : foot hb st (.callv g args ts m) = some φ) (h : evalOp C hb st (.callv g args ts m) k = some r) : ∃ v E, Loc C hb st (.callv g args ts m) φ v E := by
 have hops : (AOp.callv g args ts m).erase.operands.toList = g :: args := by simp [AOp.erase, Op.operands, Call.operands]
 have main : ∀ (f : FuncId) (caps : List V), callFoot st (args.map st.ev ++ caps) m = some φ → callF C f (args.map st.ev ++ caps) m st k = some r → (st.ev g).known = true → (∀ b ∈ (st.ev g).ids, ∃ v ∈ caps, b ∈ v.ids) →
   (∀ st2 : St, st2.ev g = st.ev g → ∀ {ρ : Type} (k : V → St → Option ρ), evalOp C hb st2 (.callv g args ts m) k = callF C f (args.map st2.ev ++ caps) m st2 k) → ∃ v E, Loc C hb st (.callv g args ts m) φ v E := by
  intro f caps hf h hg1 hg2 hev
  have hk : ∀ v ∈ args.map st.ev ++ caps, v.known = true := by
   unfold callFoot at hf
   cases m with
   | snap => obtain ⟨hk, _⟩ := bif_some hf; exact List.all_eq_true.1 hk
   | freeze => obtain ⟨hk, _⟩ := bif_some hf; rw [Bool.and_eq_true] at hk; exact List.all_eq_true.1 hk.1
  refine loc_callF hf h (fun st2 ha ρ k => ?_) ?_
  ·have : args.map st2.ev = args.map st.ev := List.map_congr_left (fun x hx => ha.ev x (by rw [hops]; exact List.mem_cons_of_mem _ hx))
   rw [hev st2 (ha.ev g (by rw [hops]; simp)) k, this]
  ·rw [hops]
   intro x hx
   rcases List.mem_cons.1 hx with rfl | hx
   ·refine ⟨hg1, fun b hb => ?_⟩
    obtain ⟨v, hv, hb'⟩ := hg2 b hb
    exact ⟨v, List.mem_append_right _ hv, hb'⟩
   ·exact ⟨hk _ (List.mem_append_left _ (List.mem_map.2 ⟨x, hx, rfl⟩)), fun b hb => ⟨_, List.mem_append_left _ (List.mem_map.2 ⟨x, hx, rfl⟩), hb⟩⟩
 unfold foot at hf
 dsimp only at hf
 simp only [evalOp] at h
 split at hf
 ·rename_i f caps hg
  rw [hg] at h
  dsimp only at h
  refine main f _ hf h (by rw [hg]; rfl) (fun b hb => ?_) (fun st2 he ρ k => ?_)
  ·rw [hg] at hb
   obtain ⟨s, hs, hb'⟩ := List.mem_flatten.1 hb
   obtain ⟨c, hc, rfl⟩ := List.mem_map.1 hs
   cases c with
   | c x => cases hb'
   | ptr b' j => exact ⟨.x (.ptr b' j), List.mem_map.2 ⟨_, hc, rfl⟩, hb'⟩
  ·simp only [evalOp, he, hg]
 ·rename_i f nc caps hg
  rw [hg] at h
  dsimp only at h
  refine main f _ hf h (by rw [hg]; rfl) (fun b hb => by rw [hg] at hb; cases hb) (fun st2 he ρ k => ?_)
  simp only [evalOp, he, hg]
 ·cases hf
theorem foot_loc {o : AOp} (hf : foot hb st o = some φ) (h : evalOp C hb st o k = some r) : ∃ v E, Loc C hb st o φ v E := by
 cases o with
 | move x => exact loc_move (.inl rfl) hf h
 | assign x => exact loc_move (.inr rfl) hf h
 | pick c x y => exact loc_pick hf h
 | box q t x => exact loc_box hf h
 | alloc q t zs => exact loc_alloc hf h
 | build t zs pl esz parts => exact loc_build hf h
 | buildSlice q t e rr ln zs parts => exact loc_buildSlice hf h
 | load t m x => exact loc_load hf h
 | store t m x y => exact loc_store hf h
 | fieldAddr t x fi off => exact loc_fieldAddr hf h
 | field t x fi off m => exact loc_field hf h
 | indexAddr t e esz x i => exact loc_indexAddr hf h
 | indexAddrA t e ln esz x i => exact loc_indexAddrA hf h
 | index t e ln esz m x i => exact loc_index hf h
 | indexS t x i => exact loc_indexS hf h
 | binOp op t x y yt => exact loc_binOp hf h
 | eqA neg rr t x y yt => exact loc_eqA hf h
 | eqB neg t x y yt => exact loc_eqB hf h
 | unOp op t x => exact loc_unOp hf h
 | extract x n => exact loc_extract hf h
 | len t str x => exact loc_len hf h
 | mm mx args ts => exact loc_mm hf h
 | append q t e rr bytes x y => exact loc_append hf h
 | slice t e esz x lo hi mx => exact loc_slice hf h
 | makeSlice q t e rr bytes zs l c => cases hf
 | call f args ts m => exact loc_call hf h
 | callv g args ts m => exact loc_callv hf h
 | turn f x rest ts => cases hf
 | callo q f args ts rr => cases hf
 | cut q f x rest ts rr => cases hf
 | clear t e zs x => cases hf
 | mkfn f caps => cases hf
 | convert src dst kd x => exact loc_convert hf h
end
end Go.Eng
