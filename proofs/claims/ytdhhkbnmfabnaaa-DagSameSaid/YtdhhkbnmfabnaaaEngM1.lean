/-
 Regions that draw their order, part 2: each operation by its footprint.
-/
import Derived.Test.YtdhhkbnmfabnaaaEngM
set_option linter.all false
namespace Go.Eng
open Go Go.RowKit
section
variable {ρ : Type} {C : Oracle} {hb : Nat} {st : St} {φ : Foot} {k : V → St → Option ρ} {r : ρ}
theorem Loc.closed {o : AOp} {vs : List V} (hf : rdOf vs = some φ) (hsub : ∀ x ∈ o.erase.operands.toList, st.ev x ∈ vs)
  (hst : ∀ (st2 : St) {ρ : Type} (k : V → St → Option ρ), evalOp C hb st2 o k = evalOp C hb st2 o fun v _ => k v st2)
  (heq : ∀ st2, AgreeO o φ st st2 → ∀ {ρ : Type} (k : V → Option ρ), evalOp C hb st2 o (fun v _ => k v) = evalOp C hb st o fun v _ => k v)
  (h : evalOp C hb st o k = some r) (hv : ∀ v s, evalOp C hb st o (fun v s => some (v, s)) = some (v, s) → ∀ x ∈ v.ids, ∃ u ∈ vs, x ∈ u.ids) : ∃ v E, Loc C hb st o φ v E := by
 have hsp := rdOf_spec hf
 refine Loc.quiet hsp.1 hst heq (fun x hx => hsp.2.1 _ (hsub x hx)) h (fun v s hh x hx => ?_)
 obtain ⟨u, hu, hxu⟩ := hv v s hh x hx
 exact (hsp.2.1 u hu).2 x hxu
theorem loc_move {x : Operand} {o : AOp} (ho : o = .move x ∨ o = .assign x) (hf : foot hb st o = some φ) (h : evalOp C hb st o k = some r) : ∃ v E, Loc C hb st o φ v E := by
 rcases ho with rfl | rfl
 all_goals
  have hsp := mvOf_spec (vs := [st.ev x]) hf
  refine ⟨st.ev x, .none, fun st2 ha ρ k => ?_, trivial, fun y hy => .inr ((hsp.2 _ (List.mem_singleton.2 rfl)).2 y hy), fun y hy => ?_, fun b hb => by rw [hsp.1] at hb; cases hb⟩
  ·simp only [evalOp, ha.ev x (by simp [AOp.erase, Op.operands])]; rfl
  ·have hyx : y = x := by simpa [AOp.erase, Op.operands] using hy
   rw [hyx]
   exact ⟨(hsp.2 _ (List.mem_singleton.2 rfl)).1, fun b hb => .inr ((hsp.2 _ (List.mem_singleton.2 rfl)).2 b hb)⟩
theorem loc_pick {c x y : Operand} (hf : foot hb st (.pick c x y) = some φ) (h : evalOp C hb st (.pick c x y) k = some r) : ∃ v E, Loc C hb st (.pick c x y) φ v E := by
 refine Loc.closed (vs := [st.ev c, st.ev x, st.ev y]) hf (by simp [AOp.erase, Op.operands]) (fun st2 ρ k => rfl) (fun st2 ha ρ k => ?_) h (fun v s hh z hz => ?_)
 ·simp only [evalOp, ha.ev c (by simp [AOp.erase, Op.operands]), ha.ev x (by simp [AOp.erase, Op.operands]), ha.ev y (by simp [AOp.erase, Op.operands])]
 ·simp only [evalOp] at hh
  split at hh
  ·rename_i t ht
   cases t
   ·simp only [cond_false, Option.some.injEq, Prod.mk.injEq] at hh
    exact ⟨st.ev y, by simp, hh.1 ▸ hz⟩
   ·simp only [cond_true, Option.some.injEq, Prod.mk.injEq] at hh
    exact ⟨st.ev x, by simp, hh.1 ▸ hz⟩
  ·cases hh
theorem intOp_ids {op : BinOp} {kd : IntKind} {x y : Int} {v : V} (h : intOp op kd x y = some v) : v.ids = [] := by
 unfold intOp at h
 split at h <;> first | (cases h; rfl) | cases h
theorem strOp_ids {op : BinOp} {x y : ByteArray} {v : V} (h : strOp op x y = some v) : v.ids = [] := by
 unfold strOp at h
 split at h <;> first | (cases h; rfl) | cases h
theorem bif_none {α : Type} {c : Bool} {x : Option α} {y : α} (h : (bif c then none else x) = some y) : x = some y := by
 cases c <;> simp_all
theorem binOp_ids {op : BinOp} {t yt : TypeId} {x y : Operand} {v : V} {s : St} (hh : evalOp C hb st (.binOp op t x y yt) (fun v s => some (v, s)) = some (v, s)) : v.ids = [] := by
 simp only [evalOp] at hh
 split at hh
 ·obtain ⟨_, hh⟩ := bif_some hh
  split at hh
  ·have h1 := bif_none hh; cases h1; rfl
  ·have h1 := bif_none hh; cases h1; rfl
  ·obtain ⟨_, h1⟩ := bif_some hh; cases h1; rfl
  ·split at hh
   ·rename_i v' hv; cases hh; exact intOp_ids hv
   ·cases hh
 ·split at hh
  ·rename_i v' hv; cases hh; exact strOp_ids hv
  ·cases hh
 ·cases hh
theorem none_in {v : V} {vs : List V} (h : v.ids = []) : ∀ x ∈ v.ids, ∃ u ∈ vs, x ∈ u.ids := by
 intro x hx; rw [h] at hx; cases hx
theorem loc_binOp {op : BinOp} {t yt : TypeId} {x y : Operand} (hf : foot hb st (.binOp op t x y yt) = some φ) (h : evalOp C hb st (.binOp op t x y yt) k = some r) : ∃ v E, Loc C hb st (.binOp op t x y yt) φ v E := by
 refine Loc.closed (vs := [st.ev x, st.ev y]) hf (by simp [AOp.erase, Op.operands]) (fun st2 ρ k => rfl) (fun st2 ha ρ k => ?_) h (fun v s hh => none_in (binOp_ids hh))
 simp only [evalOp, ha.ev x (by simp [AOp.erase, Op.operands]), ha.ev y (by simp [AOp.erase, Op.operands])]
theorem loc_eqA {neg : Bool} {rr : Kd} {t yt : TypeId} {x y : Operand} (hf : foot hb st (.eqA neg rr t x y yt) = some φ) (h : evalOp C hb st (.eqA neg rr t x y yt) k = some r) : ∃ v E, Loc C hb st (.eqA neg rr t x y yt) φ v E := by
 refine Loc.closed (vs := [st.ev x, st.ev y]) hf (by simp [AOp.erase, Op.operands]) (fun st2 ρ k => rfl) (fun st2 ha ρ k => ?_) h (fun v s hh => none_in ?_)
 ·simp only [evalOp, ha.ev x (by simp [AOp.erase, Op.operands]), ha.ev y (by simp [AOp.erase, Op.operands])]
 ·simp only [evalOp] at hh
  split at hh
  ·split at hh
   ·cases hh; rfl
   ·cases hh
  ·cases hh
theorem loc_eqB {neg : Bool} {t yt : TypeId} {x y : Operand} (hf : foot hb st (.eqB neg t x y yt) = some φ) (h : evalOp C hb st (.eqB neg t x y yt) k = some r) : ∃ v E, Loc C hb st (.eqB neg t x y yt) φ v E := by
 refine Loc.closed (vs := [st.ev x, st.ev y]) hf (by simp [AOp.erase, Op.operands]) (fun st2 ρ k => rfl) (fun st2 ha ρ k => ?_) h (fun v s hh => none_in ?_)
 ·simp only [evalOp, ha.ev x (by simp [AOp.erase, Op.operands]), ha.ev y (by simp [AOp.erase, Op.operands])]
 ·simp only [evalOp] at hh
  split at hh
  ·cases hh; rfl
  ·cases hh
theorem loc_unOp {op : UnOp} {t : TypeId} {x : Operand} (hf : foot hb st (.unOp op t x) = some φ) (h : evalOp C hb st (.unOp op t x) k = some r) : ∃ v E, Loc C hb st (.unOp op t x) φ v E := by
 refine Loc.closed (vs := [st.ev x]) hf (by simp [AOp.erase, Op.operands]) (fun st2 ρ k => rfl) (fun st2 ha ρ k => ?_) h (fun v s hh => none_in ?_)
 ·simp only [evalOp, ha.ev x (by simp [AOp.erase, Op.operands])]
 ·simp only [evalOp] at hh
  split at hh
  ·cases hh; rfl
  ·cases hh; rfl
  ·cases hh
theorem loc_convert {src dst : TypeId} {kd : IntKind} {x : Operand} (hf : foot hb st (.convert src dst kd x) = some φ) (h : evalOp C hb st (.convert src dst kd x) k = some r) : ∃ v E, Loc C hb st (.convert src dst kd x) φ v E := by
 refine Loc.closed (vs := [st.ev x]) hf (by simp [AOp.erase, Op.operands]) (fun st2 ρ k => rfl) (fun st2 ha ρ k => ?_) h (fun v s hh => none_in ?_)
 ·simp only [evalOp, ha.ev x (by simp [AOp.erase, Op.operands])]
 ·simp only [evalOp] at hh
  split at hh
  ·cases hh; rfl
  ·cases hh
theorem loc_extract {x : Operand} {n : Nat} (hf : foot hb st (.extract x n) = some φ) (h : evalOp C hb st (.extract x n) k = some r) : ∃ v E, Loc C hb st (.extract x n) φ v E := by
 refine Loc.closed (vs := [st.ev x]) hf (by simp [AOp.erase, Op.operands]) (fun st2 ρ k => rfl) (fun st2 ha ρ k => ?_) h (fun v s hh => none_in ?_)
 ·simp only [evalOp, ha.ev x (by simp [AOp.erase, Op.operands])]
 ·simp only [evalOp] at hh
  split at hh
  ·split at hh
   ·cases hh; exact A.toV_ids _
   ·cases hh
  ·cases hh
theorem loc_indexS {t : TypeId} {x i : Operand} (hf : foot hb st (.indexS t x i) = some φ) (h : evalOp C hb st (.indexS t x i) k = some r) : ∃ v E, Loc C hb st (.indexS t x i) φ v E := by
 refine Loc.closed (vs := [st.ev x, st.ev i]) hf (by simp [AOp.erase, Op.operands]) (fun st2 ρ k => rfl) (fun st2 ha ρ k => ?_) h (fun v s hh => none_in ?_)
 ·simp only [evalOp, ha.ev x (by simp [AOp.erase, Op.operands]), ha.ev i (by simp [AOp.erase, Op.operands])]
 ·simp only [evalOp] at hh
  split at hh
  ·split at hh
   ·obtain ⟨_, hh⟩ := bif_some hh; cases hh; rfl
   ·cases hh
  ·cases hh
theorem loc_mm {mx : Bool} {args : List Operand} {ts : List TypeId} (hf : foot hb st (.mm mx args ts) = some φ) (h : evalOp C hb st (.mm mx args ts) k = some r) : ∃ v E, Loc C hb st (.mm mx args ts) φ v E := by
 have hops : (AOp.mm mx args ts).erase.operands.toList = args := by simp [AOp.erase, Op.operands, Call.operands]
 refine Loc.closed (vs := args.map st.ev) hf (by rw [hops]; exact fun x hx => List.mem_map.2 ⟨x, hx, rfl⟩) (fun st2 ρ k => rfl) (fun st2 ha ρ k => ?_) h (fun v s hh => none_in ?_)
 ·have : args.map st2.ev = args.map st.ev := List.map_congr_left (fun x hx => ha.ev x (by rw [hops]; exact hx))
  simp only [evalOp, this]
 ·simp only [evalOp] at hh
  split at hh
  ·split at hh
   ·cases hh; rfl
   ·cases hh
  ·cases hh
theorem loc_field {t : TypeId} {x : Operand} {fi off : Nat} {m : Option Nat} (hf : foot hb st (.field t x fi off m) = some φ) (h : evalOp C hb st (.field t x fi off m) k = some r) : ∃ v E, Loc C hb st (.field t x fi off m) φ v E := by
 refine Loc.closed (vs := [st.ev x]) hf (by simp [AOp.erase, Op.operands]) (fun st2 ρ k => rfl) (fun st2 ha ρ k => ?_) h (fun v s hh => ?_)
 ·simp only [evalOp, ha.ev x (by simp [AOp.erase, Op.operands])]
 ·simp only [evalOp] at hh
  split at hh
  ·rename_i l hl
   split at hh
   ·rename_i v' hv
    cases hh
    exact fun z hz => ⟨st.ev x, by simp, by rw [hl]; exact partV_ids hv z hz⟩
   ·cases hh
  ·cases hh
theorem loc_index {t e : TypeId} {ln esz : Nat} {m : Option Nat} {x i : Operand} (hf : foot hb st (.index t e ln esz m x i) = some φ) (h : evalOp C hb st (.index t e ln esz m x i) k = some r) : ∃ v E, Loc C hb st (.index t e ln esz m x i) φ v E := by
 refine Loc.closed (vs := [st.ev x, st.ev i]) hf (by simp [AOp.erase, Op.operands]) (fun st2 ρ k => rfl) (fun st2 ha ρ k => ?_) h (fun v s hh => ?_)
 ·simp only [evalOp, ha.ev x (by simp [AOp.erase, Op.operands]), ha.ev i (by simp [AOp.erase, Op.operands])]
 ·simp only [evalOp] at hh
  split at hh
  ·split at hh
   ·rename_i l hl
    have hh := idxK_some hh
    obtain ⟨_, hh⟩ := bif_some hh
    split at hh
    ·rename_i v' hv
     cases hh
     exact fun z hz => ⟨st.ev x, by simp, by rw [hl]; exact partV_ids hv z hz⟩
    ·cases hh
   ·cases hh
  ·cases hh
theorem loc_fieldAddr {t : TypeId} {x : Operand} {fi off : Nat} (hf : foot hb st (.fieldAddr t x fi off) = some φ) (h : evalOp C hb st (.fieldAddr t x fi off) k = some r) : ∃ v E, Loc C hb st (.fieldAddr t x fi off) φ v E := by
 have hsp := rdOf_spec hf
 have hids := (hsp.2.1 (st.ev x) (by simp)).2
 refine Loc.closed (vs := [st.ev x]) hf (by simp [AOp.erase, Op.operands]) (fun st2 ρ k => rfl) (fun st2 ha ρ k => ?_) h (fun v s hh => ?_)
 ·simp only [evalOp, ha.ev x (by simp [AOp.erase, Op.operands])]
  split
  ·rename_i b j hx
   have := ha.heap b (hids b (by rw [hx]; simp [V.ids, V0.ids]))
   simp only [liveBox, this]
  ·rename_i b i j hx
   have := ha.heap b (hids b (by rw [hx]; simp [V.ids, V0.ids]))
   simp only [liveArr, this]
  ·rfl
  ·rfl
 ·simp only [evalOp] at hh
  split at hh
  ·rename_i b j hx
   obtain ⟨_, hh⟩ := bif_some hh
   cases hh
   exact fun z hz => ⟨st.ev x, by simp, by rw [hx]; exact hz⟩
  ·rename_i b i j hx
   obtain ⟨_, hh⟩ := bif_some hh
   cases hh
   exact fun z hz => ⟨st.ev x, by simp, by rw [hx]; exact hz⟩
  ·cases hh; exact none_in rfl
  ·cases hh
theorem loc_indexAddr {t e : TypeId} {esz : Nat} {x i : Operand} (hf : foot hb st (.indexAddr t e esz x i) = some φ) (h : evalOp C hb st (.indexAddr t e esz x i) k = some r) : ∃ v E, Loc C hb st (.indexAddr t e esz x i) φ v E := by
 have hsp := rdOf_spec hf
 have hids := (hsp.2.1 (st.ev x) (by simp)).2
 refine Loc.closed (vs := [st.ev x, st.ev i]) hf (by simp [AOp.erase, Op.operands]) (fun st2 ρ k => rfl) (fun st2 ha ρ k => ?_) h (fun v s hh => ?_)
 ·simp only [evalOp, ha.ev x (by simp [AOp.erase, Op.operands]), ha.ev i (by simp [AOp.erase, Op.operands])]
  split
  ·split
   ·rfl
   ·rename_i b off len hx
    have := ha.heap b (hids b (by rw [hx]; simp [V.ids, V0.ids]))
    simp only [this]
   ·rfl
  ·rfl
 ·simp only [evalOp] at hh
  split at hh
  ·split at hh
   ·obtain ⟨_, hh⟩ := bif_some hh
    obtain ⟨_, hh⟩ := bif_some hh
    cases hh; exact none_in rfl
   ·rename_i b off len hx
    split at hh
    ·obtain ⟨_, hh⟩ := bif_some hh
     obtain ⟨_, hh⟩ := bif_some hh
     cases hh
     exact fun z hz => ⟨st.ev x, by simp, by rw [hx]; exact hz⟩
    ·cases hh
   ·cases hh
  ·cases hh
theorem loc_indexAddrA {t e : TypeId} {ln esz : Nat} {x i : Operand} (hf : foot hb st (.indexAddrA t e ln esz x i) = some φ) (h : evalOp C hb st (.indexAddrA t e ln esz x i) k = some r) : ∃ v E, Loc C hb st (.indexAddrA t e ln esz x i) φ v E := by
 have hsp := rdOf_spec hf
 have hids := (hsp.2.1 (st.ev x) (by simp)).2
 refine Loc.closed (vs := [st.ev x, st.ev i]) hf (by simp [AOp.erase, Op.operands]) (fun st2 ρ k => rfl) (fun st2 ha ρ k => ?_) h (fun v s hh => ?_)
 ·simp only [evalOp, ha.ev x (by simp [AOp.erase, Op.operands]), ha.ev i (by simp [AOp.erase, Op.operands])]
  split
  ·split
   ·rename_i b j hx
    have := ha.heap b (hids b (by rw [hx]; simp [V.ids, V0.ids]))
    simp only [liveBox, this]
   ·rename_i b i' j hx
    have := ha.heap b (hids b (by rw [hx]; simp [V.ids, V0.ids]))
    simp only [liveArr, this]
   ·rfl
   ·rfl
  ·rfl
 ·simp only [evalOp] at hh
  split at hh
  ·split at hh
   ·rename_i b j hx
    have hh := idxK_some hh
    obtain ⟨_, hh⟩ := bif_some hh
    cases hh
    exact fun z hz => ⟨st.ev x, by simp, by rw [hx]; exact hz⟩
   ·rename_i b i' j hx
    have hh := idxK_some hh
    obtain ⟨_, hh⟩ := bif_some hh
    cases hh
    exact fun z hz => ⟨st.ev x, by simp, by rw [hx]; exact hz⟩
   ·have hh := idxK_some hh
    obtain ⟨_, hh⟩ := bif_some hh
    cases hh; exact none_in rfl
   ·cases hh
  ·cases hh
theorem bnd_congr {st st2 : St} {d : Nat} {o : Option Operand} {hi : Nat} {α : Type} {f : Nat → Option α} (h : ∀ y, o = some y → st2.ev y = st.ev y) : bnd st2 d o hi f = bnd st d o hi f := by
 unfold bnd
 cases o with
 | none => rfl
 | some y => dsimp only; rw [h y rfl]
theorem bnd_ex {st : St} {d : Nat} {o : Option Operand} {hi : Nat} {α : Type} {f : Nat → Option α} {r : α} (h : bnd st d o hi f = some r) : ∃ n, f n = some r := by
 unfold bnd at h
 cases o with
 | none => exact ⟨_, h⟩
 | some y =>
  dsimp only at h
  split at h
  ·obtain ⟨_, h⟩ := bif_some h; exact ⟨_, h⟩
  ·cases h
theorem loc_slice {t e : TypeId} {esz : Nat} {x : Operand} {lo hi mx : Option Operand} (hf : foot hb st (.slice t e esz x lo hi mx) = some φ) (h : evalOp C hb st (.slice t e esz x lo hi mx) k = some r) : ∃ v E, Loc C hb st (.slice t e esz x lo hi mx) φ v E := by
 have hsp := rdOf_spec hf
 have hids := (hsp.2.1 (st.ev x) (by simp)).2
 have hops : ∀ y, y ∈ (AOp.slice t e esz x lo hi mx).erase.operands.toList ↔ (y = x ∨ lo = some y ∨ hi = some y ∨ mx = some y) := by
  intro y
  cases lo <;> cases hi <;> cases mx <;> simp [AOp.erase, Op.operands, eq_comm]
 refine Loc.closed (vs := st.ev x :: ((lo.toList ++ hi.toList ++ mx.toList).map st.ev)) hf (fun y hy => ?_) (fun st2 ρ k => rfl) (fun st2 ha ρ k => ?_) h (fun v s hh => ?_)
 ·rcases (hops y).1 hy with rfl | rfl | rfl | rfl
  ·exact List.mem_cons_self
  ·exact List.mem_cons_of_mem _ (List.mem_map.2 ⟨y, by simp, rfl⟩)
  ·exact List.mem_cons_of_mem _ (List.mem_map.2 ⟨y, by simp, rfl⟩)
  ·exact List.mem_cons_of_mem _ (List.mem_map.2 ⟨y, by simp, rfl⟩)
 ·have hx : st2.ev x = st.ev x := ha.ev x ((hops x).2 (.inl rfl))
  have bl : ∀ {α : Type} (d n : Nat) (f : Nat → Option α), bnd st2 d lo n f = bnd st d lo n f := fun d n f => bnd_congr fun y hy => ha.ev y ((hops y).2 (.inr (.inl hy)))
  have bh : ∀ {α : Type} (d n : Nat) (f : Nat → Option α), bnd st2 d hi n f = bnd st d hi n f := fun d n f => bnd_congr fun y hy => ha.ev y ((hops y).2 (.inr (.inr (.inl hy))))
  have bm : ∀ {α : Type} (d n : Nat) (f : Nat → Option α), bnd st2 d mx n f = bnd st d mx n f := fun d n f => bnd_congr fun y hy => ha.ev y ((hops y).2 (.inr (.inr (.inr hy))))
  simp only [evalOp, hx, bl, bh, bm]
  split
  ·rfl
  ·rename_i b off len hxv
   have := ha.heap b (hids b (by rw [hxv]; simp [V.ids, V0.ids]))
   simp only [this]
  ·rfl
 ·simp only [evalOp] at hh
  split at hh
  ·obtain ⟨_, hh⟩ := bif_some hh
   obtain ⟨_, hh⟩ := bnd_ex hh
   obtain ⟨_, hh⟩ := bnd_ex hh
   obtain ⟨_, hh⟩ := bnd_ex hh
   cases hh; exact none_in rfl
  ·rename_i b off len hxv
   split at hh
   ·obtain ⟨_, hh⟩ := bif_some hh
    obtain ⟨_, hh⟩ := bnd_ex hh
    obtain ⟨_, hh⟩ := bnd_ex hh
    cases hh
    exact fun z hz => ⟨st.ev x, by simp, by rw [hxv]; exact hz⟩
   ·cases hh
  ·cases hh
theorem loc_len {t : TypeId} {str : Bool} {x : Operand} (hf : foot hb st (.len t str x) = some φ) (h : evalOp C hb st (.len t str x) k = some r) : ∃ v E, Loc C hb st (.len t str x) φ v E := by
 have hsp := rdOf_spec hf
 have hids := (hsp.2.1 (st.ev x) (by simp)).2
 refine Loc.closed (vs := [st.ev x]) hf (by simp [AOp.erase, Op.operands, Call.operands]) (fun st2 ρ k => rfl) (fun st2 ha ρ k => ?_) h (fun v s hh => none_in ?_)
 ·simp only [evalOp, ha.ev x (by simp [AOp.erase, Op.operands, Call.operands])]
  split
  ·rfl
  ·rename_i b off len hx
   have := ha.heap b (hids b (by rw [hx]; simp [V.ids, V0.ids]))
   simp only [liveArr, this]
  ·rfl
  ·rfl
 ·simp only [evalOp] at hh
  split at hh
  ·have := bif_none hh; cases this; rfl
  ·obtain ⟨_, hh⟩ := bif_some hh; cases hh; rfl
  ·obtain ⟨_, hh⟩ := bif_some hh; cases hh; rfl
  ·cases hh
theorem loc_build {t : TypeId} {zs : List V0} {pl : List (Nat × Nat)} {esz : Nat} {parts : List (Nat × Operand)} (hf : foot hb st (.build t zs pl esz parts) = some φ) (h : evalOp C hb st (.build t zs pl esz parts) k = some r) : ∃ v E, Loc C hb st (.build t zs pl esz parts) φ v E := by
 unfold foot at hf
 obtain ⟨hz, hf⟩ := bif_some hf
 have hops : (AOp.build t zs pl esz parts).erase.operands.toList = parts.map (·.2) := by simp [AOp.erase, Op.operands]
 refine Loc.closed (vs := parts.map fun p => st.ev p.2) hf (by
  rw [hops]
  intro x hx
  obtain ⟨p, hp, rfl⟩ := List.mem_map.1 hx
  exact List.mem_map.2 ⟨p, hp, rfl⟩) (fun st2 ρ k => rfl) (fun st2 ha ρ k => ?_) h (fun v s hh => ?_)
 ·have : (parts.map fun p => (p.1, st2.ev p.2)) = parts.map fun p => (p.1, st.ev p.2) := List.map_congr_left (fun p hp => by rw [ha.ev p.2 (by rw [hops]; exact List.mem_map.2 ⟨p, hp, rfl⟩)])
  simp only [evalOp, this]
 ·simp only [evalOp] at hh
  split at hh
  ·rename_i l hl
   cases hh
   intro z hz'
   rcases fill_ids hl z hz' with h1 | ⟨p, hp, h1⟩
   ·have : (zs.map V0.ids).flatten = [] := by simpa using hz
    rw [this] at h1; cases h1
   ·obtain ⟨q, hq, rfl⟩ := List.mem_map.1 hp
    exact ⟨st.ev q.2, List.mem_map.2 ⟨q, hq, rfl⟩, h1⟩
  ·cases hh
end
end Go.Eng
