/-
 A loop over slices.Backward: a round; the loop's theorem.
-/
import Derived.Test.YtdhhkbnmfabnaaaEngZ3
set_option linter.all false
namespace Go.Eng
open Go Go.RowKit
def sliV (fl : Bool) (kk : IntKind) (n : Nat) (g : Nat → Nat → CV) : CV := .ro fl (.pr (.int kk) .nil) n g
def closV (gf : FuncId) (fl : Bool) (kk : IntKind) (n : Nat) (g : Nat → Nat → CV) : CV := .fn gf 1 fun _ => .rp (.pr (.sl (.pr (.int kk) .nil)) .nil) (fun _ => sliV fl kk n g)
theorem offP_of {df : DF} {x : AC} (h : ∀ q, q ∈ df.2 → offB q.1 x = true) : offP df x := by
 induction x with
 | region id l na draw =>
  intro f hf q hq k
  have := List.all_eq_true.1 (h q hq) f hf
  rw [k] at this
  simp at this
 | seq a ks b iha ihb => exact ⟨iha fun q hq => ((Bool.and_eq_true _ _).mp (h q hq)).1, ihb fun q hq => ((Bool.and_eq_true _ _).mp (h q hq)).2⟩
 | cond o a b iha ihb => exact ⟨iha fun q hq => ((Bool.and_eq_true _ _).mp (h q hq)).1, ihb fun q hq => ((Bool.and_eq_true _ _).mp (h q hq)).2⟩
 | block id a ih => exact ih h
 | loop hs ks a ih => exact ih h
 | ghost l a ih => exact ih h
 | scope a ih => exact ih h
 | _ => trivial
theorem killE_mem : ∀ (l : List Nat) (env : List V) (t : Nat) (v : V), t ∈ l → (killE env l)[t]? = some v → v = .u
 | [], _, _, _, h, _ => by cases h
 | s :: l, env, t, v, h, hv => by
  unfold killE at hv
  by_cases q : t ∈ l
  ·exact killE_mem l _ t v q hv
  ·have e : t = s := by simpa [q] using h
   subst e
   rcases killE_at l _ t v hv with h1 | h1
   ·exact h1
   ·rw [List.getElem?_set] at h1
    simp only [if_true] at h1
    split at h1
    ·cases h1; rfl
    ·cases h1
def pinsOf (keep : List (Nat × Nat × Nat)) (T : Array Value) : List (Nat × Value) := keep.filterMap fun q => (T[q.1]?).map fun u => (q.1, u)
theorem pinsOf_mem {keep : List (Nat × Nat × Nat)} {T : Array Value} {q : Nat × Value} (h : q ∈ pinsOf keep T) : (∃ b j, (q.1, b, j) ∈ keep) ∧ T[q.1]? = some q.2 := by
 unfold pinsOf at h
 obtain ⟨⟨t, b, j⟩, hx, hy⟩ := List.mem_filterMap.1 h
 cases hT : T[t]? with
 | none => simp [hT] at hy
 | some u =>
  simp [hT] at hy
  subst hy
  exact ⟨⟨b, j, hx⟩, hT⟩
theorem mem_pinsOf {keep : List (Nat × Nat × Nat)} {T : Array Value} {t b j : Nat} {u : Value} (h : (t, b, j) ∈ keep) (hT : T[t]? = some u) : (t, u) ∈ pinsOf keep T :=
 List.mem_filterMap.2 ⟨(t, b, j), h, by simp [hT]⟩
section
variable {ρ : Type} {P : Program} {C : Oracle} {w0 : Base} {okA : Nat → Prop} {r : ρ} {fuel : Nat} {keep : List (Nat × Nat × Nat)} {tx p0 p1 : Nat} {X : AC} {kill : List Nat} {h0 : Nat} {kB : Ex → St → Option ρ} {T : Array Value}
def rk (C : Oracle) (fuel : Nat) (keep : List (Nat × Nat × Nat)) (tx p0 p1 : Nat) (X : AC) (kill : List Nat) (h0 : Nat) (kB : Ex → St → Option ρ) (j : Nat) : Ex → St → Option ρ := fun e st => match e with
 | .normal => loopN (fun st k => evalC C fuel (.round keep tx p0 p1 X) st k) (fun s => s.norm kill h0) j st kB
 | e => kB e st
theorem round_chk {st : St} {K : Ex → St → Option ρ} (h : evalC C fuel (.round keep tx p0 p1 X) st K = some r) : chkE keep tx p0 0 st.env = true := by
 unfold evalC at h
 split at h
 ·split at h
  ·cases hc : chkE keep tx p0 0 st.env with
   | true => rfl
   | false => rw [hc] at h; cases h
  ·cases h
 ·cases h
theorem round_go {st : St} {K : Ex → St → Option ρ} {fl : Bool} {kk : IntKind} {n : Nat} {g : Nat → Nat → CV} {c : Nat} (ht : st.env.getD tx .u = .x (.c (sliV fl kk n g))) (hp : st.env.getD p0 .u = i64 ((c + 1 : Nat) : Int)) (h : evalC C fuel (.round keep tx p0 p1 X) st K = some r) :
  evalC C fuel X ((st.put p0 (i64 (c : Int))).put p1 (.x (.c (.i kk (CV.int (g c 0)))))) (kRnd st.env.length tx p0 (.x (.c (sliV fl kk n g))) (i64 (c : Int)) K) = some r := by
 have hc := round_chk h
 unfold evalC at h
 rw [ht, hp] at h
 have e1 : ((c + 1 : Nat) : Int) - 1 = (c : Int) := by omega
 simp only [sliV, i64, hc, cond_true, e1, Int.toNat_natCast] at h
 rw [show decide ((0 : Int) < ((c + 1 : Nat) : Int)) = true from decide_eq_true (by omega)] at h
 exact h
theorem round_end {st : St} {K : Ex → St → Option ρ} {fl : Bool} {kk : IntKind} {n : Nat} {g : Nat → Nat → CV} (ht : st.env.getD tx .u = .x (.c (sliV fl kk n g))) (hp : st.env.getD p0 .u = i64 ((0 : Nat) : Int)) (h : evalC C fuel (.round keep tx p0 p1 X) st K = some r) :
  K (.exit finId) st = some r := by
 have hc := round_chk h
 unfold evalC at h
 rw [ht, hp] at h
 simp only [sliV, i64, hc, cond_true] at h
 exact h
theorem next_start {μ : Nat → Option Nat} {ok : Nat → Prop} {s : St} {a2 : Act} {w : World} {m : Nat} {cv : CV} {c : Int}
  (hk : ∀ q, q ∈ keep → q.1 ≠ p0 ∧ q.1 ≠ p1 ∧ q.1 ≠ tx) (hne : p0 ≠ p1 ∧ p0 ≠ tx ∧ p1 ≠ tx)
  (hm : MR w0 okA μ ok s.heap w) (he : ER ([], pinsOf keep T) μ ok s.heap w s.env a2) (hsz : T.size = a2.tmps.size) (htx : ∃ u, T[tx]? = some u ∧ CR ok w cv u) (hst : ∀ y, s.env[tx]? = some (.x y) → y = .c cv) (hsp : ∀ y, s.env[p0]? = some (.x y) → V.x y = i64 c)
  (h : loopN (fun st k => evalC C fuel (.round keep tx p0 p1 X) st k) (fun s => s.norm kill h0) m s kB = some r) :
  ∃ j s', MR w0 okA μ ok s'.heap w ∧ ER ([], []) μ ok s'.heap w (killE s'.env [p0, p1]) { tmps := T, defers := [] } ∧ s'.env.getD tx .u = .x (.c cv) ∧ s'.env.getD p0 .u = i64 c ∧
   evalC C fuel (.round keep tx p0 p1 X) s' (rk C fuel keep tx p0 p1 X kill h0 kB j) = some r := by
 cases m with
 | zero => cases h
 | succ m =>
  unfold loopN at h
  split at h
  ·cases h
  ·rename_i s' hs'
   obtain ⟨hm', he'⟩ := norm_sound hm he hs'
   have hround : evalC C fuel (.round keep tx p0 p1 X) s' (rk C fuel keep tx p0 p1 X kill h0 kB m) = some r := h
   have hchk := round_chk hround
   have henv : s'.env = killE s.env kill := by
    unfold St.norm at hs'
    dsimp only at hs'
    cases hb : ((killE s.env kill).all (V.below h0) && (s.heap.take h0).all (Blk.below h0)) with
    | true => rw [hb] at hs'; cases hs'; rfl
    | false => rw [hb] at hs'; cases hs'
   -- what the evaluation saw at tx and p0
   have hround' := hround
   unfold evalC at hround'
   split at hround'
   ·rename_i fl kk n g hgt
    split at hround'
    ·rename_i c' hgp
     have e1 : s'.env.getD tx .u = .x (.c cv) := by
      rw [hgt]
      rw [List.getD_eq_getElem?_getD] at hgt
      cases hq : s'.env[tx]? with
      | none => rw [hq] at hgt; cases hgt
      | some v =>
       rw [hq] at hgt
       simp only [Option.getD_some] at hgt
       subst hgt
       rw [henv] at hq
       rcases killE_at _ _ _ _ hq with q | q
       ·cases q
       ·rw [hst _ q]
     have e2 : s'.env.getD p0 .u = i64 c := by
      rw [hgp]
      rw [List.getD_eq_getElem?_getD] at hgp
      cases hq : s'.env[p0]? with
      | none => rw [hq] at hgp; cases hgp
      | some v =>
       rw [hq] at hgp
       simp only [Option.getD_some] at hgp
       subst hgp
       rw [henv] at hq
       rcases killE_at _ _ _ _ hq with q | q
       ·cases q
       ·exact hsp _ q
     refine ⟨m, s', hm', ⟨?_, fun t v ht => ?_, ⟨rfl, fun q hq => by cases hq⟩, he'.glob⟩, e1, e2, hround⟩
     ·rw [killE_len]; show T.size = _; rw [hsz]; exact he'.size
     ·have hlen : t < T.size := by
       have := (List.getElem?_eq_some_iff.1 ht).1
       rw [killE_len] at this
       rw [hsz, he'.size]; exact this
      have hT : T[t]? = some T[t] := by simp [hlen]
      show ∃ u, T[t]? = some u ∧ _
      by_cases q0 : t ∈ [p0, p1]
      ·rw [killE_mem _ _ _ _ q0 ht]
       exact ⟨_, hT, trivial⟩
      ·have n0 : t ≠ p0 := fun e => q0 (by simp [e])
       have n1 : t ≠ p1 := fun e => q0 (by simp [e])
       rcases killE_at _ _ _ _ ht with q | q
       ·rw [q]; exact ⟨_, hT, trivial⟩
       ·have hv := chkE_at hchk t v q
        rw [Nat.zero_add] at hv
        unfold chkV at hv
        split at hv
        ·rename_i b j hka
         have hkm := keepAt_mem hka
         split at hv
         ·obtain ⟨u, hu, hr⟩ := he'.env t _ q
          have hpin := he'.defers.2 _ (mem_pinsOf hkm hT)
          rw [hu] at hpin
          cases hpin
          exact ⟨_, hT, hr⟩
         ·cases hv
        ·split at hv
         ·exact ⟨_, hT, trivial⟩
         ·rw [Bool.or_eq_true] at hv
          rcases hv with hv | hv
          ·have et : t = tx := Nat.eq_of_beq_eq_true hv
           subst et
           obtain ⟨u, hu, hr⟩ := htx
           have : v = .x (.c cv) := by
            rw [List.getD_eq_getElem?_getD, q] at e1
            exact e1
           rw [this]
           exact ⟨u, hu, hr⟩
          ·exact (n0 (Nat.eq_of_beq_eq_true hv)).elim
    ·cases hround'
   ·cases hround'
end
end Go.Eng
