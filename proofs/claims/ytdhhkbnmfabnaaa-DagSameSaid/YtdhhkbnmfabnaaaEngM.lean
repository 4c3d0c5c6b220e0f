/-
 Regions that draw their order, part 1: what an operation depends on.
-/
import Derived.Test.YtdhhkbnmfabnaaaEngM0
set_option linter.all false
namespace Go.Eng
open Go Go.RowKit
inductive Eff where
 | none
 | set (b : Nat) (o : Blk)
 | app (b : Nat) (o : Blk)
def Eff.ap : Eff → St → St
 | .none, st => st
 | .set b o, st => st.setB b o
 | .app b o, st => (st.drop b).setB b o
def Foot.has (φ : Foot) (b : Nat) : Prop := b ∈ φ.rd ∨ b ∈ φ.wr
def Foot.names (φ : Foot) (b : Nat) : Prop := φ.has b ∨ b ∈ φ.nm
structure AgreeO (o : AOp) (φ : Foot) (st st2 : St) : Prop where
 ev : ∀ x ∈ o.erase.operands.toList, st2.ev x = st.ev x
 heap : ∀ b, φ.has b → st2.heap[b]? = st.heap[b]?
def Eff.ok (φ : Foot) (st : St) : Eff → Prop
 | .none => True
 | .set b o => b ∈ φ.wr ∧ ∀ x ∈ o.ids, φ.has x
 | .app b o => b ∈ φ.wr ∧ (∀ x ∈ o.ids, φ.has x) ∧ (∀ (b' : Nat) (o' : Blk), st.heap[b']? = some o' → b ∈ o'.ids → b' ∈ φ.wr) ∧ b ∈ φ.dr
structure Loc (C : Oracle) (hb : Nat) (st : St) (o : AOp) (φ : Foot) (v : V) (E : Eff) : Prop where
 loc : ∀ st2, AgreeO o φ st st2 → ∀ {ρ : Type} (k : V → St → Option ρ), evalOp C hb st2 o k = k v (E.ap st2)
 eff : E.ok φ st
 vids : ∀ x ∈ v.ids, φ.names x
 uids : ∀ x ∈ o.erase.operands.toList, (st.ev x).known = true ∧ ∀ b ∈ (st.ev x).ids, φ.names b
 cids : ∀ b ∈ φ.wr, ∀ x ∈ blkIds st.heap b, φ.has x
section
variable {ρ : Type} {C : Oracle} {hb : Nat} {st : St}
theorem Loc.of {o : AOp} {φ : Foot} {v : V} {E : Eff} (h1 : ∀ st2, AgreeO o φ st st2 → ∀ {ρ : Type} (k : V → St → Option ρ), evalOp C hb st2 o k = k v (E.ap st2)) (h2 : E.ok φ st) (h3 : ∀ x ∈ v.ids, φ.has x)
  (h4 : ∀ x ∈ o.erase.operands.toList, (st.ev x).known = true ∧ ∀ b ∈ (st.ev x).ids, φ.has b) (h5 : ∀ b ∈ φ.wr, ∀ x ∈ blkIds st.heap b, φ.has x) : Loc C hb st o φ v E :=
 ⟨h1, h2, fun x hx => .inl (h3 x hx), fun x hx => ⟨(h4 x hx).1, fun b hb => .inl ((h4 x hx).2 b hb)⟩, h5⟩
theorem mvOf_spec {vs : List V} {φ : Foot} (h : mvOf vs = some φ) : φ.wr = [] ∧ (∀ v ∈ vs, v.known = true ∧ ∀ b ∈ v.ids, b ∈ φ.nm) := by
 unfold mvOf at h
 cases hk : vs.all V.known with
 | false => rw [hk] at h; cases h
 | true =>
  rw [hk] at h; cases h
  exact ⟨rfl, fun v hv => ⟨List.all_eq_true.1 hk v hv, fun b hb => List.mem_flatten.2 ⟨_, List.mem_map.2 ⟨v, hv, rfl⟩, hb⟩⟩⟩
theorem rdOf_spec {vs : List V} {φ : Foot} (h : rdOf vs = some φ) : φ.wr = [] ∧ (∀ v ∈ vs, v.known = true ∧ ∀ b ∈ v.ids, φ.has b) ∧ ∀ b, φ.has b → ∃ v ∈ vs, b ∈ v.ids := by
 unfold rdOf at h
 cases hk : vs.all V.known with
 | false => rw [hk] at h; cases h
 | true =>
  rw [hk] at h; cases h
  refine ⟨rfl, fun v hv => ⟨List.all_eq_true.1 hk v hv, fun b hb => .inl (List.mem_flatten.2 ⟨_, List.mem_map.2 ⟨v, hv, rfl⟩, hb⟩)⟩, ?_⟩
  rintro b (h | h)
  ·obtain ⟨l, hl, hb⟩ := List.mem_flatten.1 h
   obtain ⟨v, hv, rfl⟩ := List.mem_map.1 hl
   exact ⟨v, hv, hb⟩
  ·cases h
theorem wrOf_spec {b0 : Nat} {vs : List V} {φ : Foot} (h : wrOf b0 vs = some φ) : φ.wr = [b0] ∧ (∀ v ∈ vs, v.known = true ∧ ∀ b ∈ v.ids, φ.has b) := by
 unfold wrOf at h
 cases hk : vs.all V.known with
 | false => rw [hk] at h; cases h
 | true =>
  rw [hk] at h; cases h
  exact ⟨rfl, fun v hv => ⟨List.all_eq_true.1 hk v hv, fun b hb => .inl (List.mem_flatten.2 ⟨_, List.mem_map.2 ⟨v, hv, rfl⟩, hb⟩)⟩⟩
theorem Loc.quiet {o : AOp} {φ : Foot} (hwr : φ.wr = []) (hst : ∀ (st2 : St) {ρ : Type} (k : V → St → Option ρ), evalOp C hb st2 o k = evalOp C hb st2 o fun v _ => k v st2)
  (heq : ∀ st2, AgreeO o φ st st2 → ∀ {ρ : Type} (k : V → Option ρ), evalOp C hb st2 o (fun v _ => k v) = evalOp C hb st o fun v _ => k v)
  (huids : ∀ x ∈ o.erase.operands.toList, (st.ev x).known = true ∧ ∀ b ∈ (st.ev x).ids, φ.has b)
  {k : V → St → Option ρ} {r : ρ} (h : evalOp C hb st o k = some r) (hv : ∀ v s, evalOp C hb st o (fun v s => some (v, s)) = some (v, s) → ∀ x ∈ v.ids, φ.has x) : ∃ v E, Loc C hb st o φ v E := by
 rw [evalOp_bind] at h
 cases hr : evalOp C hb st o (fun v s => some (v, s)) with
 | none => rw [hr] at h; cases h
 | some p =>
  obtain ⟨v, s⟩ := p
  refine ⟨v, .none, fun st2 ha ρ k => ?_, trivial, fun x hx => .inl (hv v s hr x hx), fun x hx => ⟨(huids x hx).1, fun b hb => .inl ((huids x hx).2 b hb)⟩, fun b hb => by rw [hwr] at hb; cases hb⟩
  rw [hst st2 k, heq st2 ha (fun v => k v st2), evalOp_bind, hr]
  rfl
theorem A.toV_ids (y : A) : y.toV.ids = [] := by
 cases y with
 | v x => rfl
 | agg l =>
  simp only [A.toV, V.ids]
  induction l with
  | nil => rfl
  | cons c l ih => simpa [V0.ids] using ih
theorem partV_ids {l : List V0} {off : Nat} {m : Option Nat} {v : V} (h : partV l off m = some v) : ∀ x ∈ v.ids, x ∈ (V.agg l).ids := by
 intro x hx
 unfold partV at h
 cases m with
 | none =>
  dsimp only at h
  split at h
  ·rename_i y hy
   cases h
   exact List.mem_flatten.2 ⟨_, List.mem_map.2 ⟨y, List.mem_of_getElem? hy, rfl⟩, hx⟩
  ·cases h
 | some m =>
  obtain ⟨_, h2⟩ := bif_some h
  cases h2
  obtain ⟨s, hs, hx⟩ := List.mem_flatten.1 hx
  obtain ⟨y, hy, rfl⟩ := List.mem_map.1 hs
  exact List.mem_flatten.2 ⟨_, List.mem_map.2 ⟨y, List.mem_of_mem_drop (List.mem_of_mem_take hy), rfl⟩, hx⟩
theorem cellsOf_ids {v : V} {l : List V0} (h : cellsOf v = some l) : ∀ x, x ∈ (l.map V0.ids).flatten ↔ x ∈ v.ids := by
 intro x
 cases v with
 | u => cases h
 | undef => cases h
 | tup l => cases h
 | x y => cases h; simp [V.ids]
 | agg l => cases h; rfl
theorem splice_mem {α : Type} {row l : List α} {off : Nat} {x : α} (h : x ∈ splice row off l) : x ∈ row ∨ x ∈ l := by
 unfold splice at h
 rcases List.mem_append.1 h with h | h
 ·rcases List.mem_append.1 h with h | h
  ·exact .inl (List.mem_of_mem_take h)
  ·exact .inr h
 ·exact .inl (List.mem_of_mem_drop h)
theorem fill_ids {place : Nat → Option (Nat × Nat)} : ∀ {ps : List (Nat × V)} {zs l : List V0}, fillCells place zs ps = some l → ∀ x ∈ (l.map V0.ids).flatten, x ∈ (zs.map V0.ids).flatten ∨ ∃ p ∈ ps, x ∈ p.2.ids
 | [], zs, l, h, x, hx => by cases h; exact .inl hx
 | (i, v) :: ps, zs, l, h, x, hx => by
  unfold fillCells at h
  split at h
  ·cases h
  ·split at h
   ·rename_i l' hl
    obtain ⟨_, h⟩ := bif_some h
    rcases fill_ids h x hx with h1 | ⟨p, hp, h1⟩
    ·obtain ⟨s, hs, hx'⟩ := List.mem_flatten.1 h1
     obtain ⟨y, hy, rfl⟩ := List.mem_map.1 hs
     rcases splice_mem hy with hy | hy
     ·exact .inl (List.mem_flatten.2 ⟨_, List.mem_map.2 ⟨y, hy, rfl⟩, hx'⟩)
     ·exact .inr ⟨_, List.mem_cons_self .., (cellsOf_ids hl x).1 (List.mem_flatten.2 ⟨_, List.mem_map.2 ⟨y, hy, rfl⟩, hx'⟩)⟩
    ·exact .inr ⟨p, List.mem_cons_of_mem _ hp, h1⟩
   ·cases h
end
end Go.Eng
