/-
 Operations, part 4: slice expressions; equality of rows.
-/
import Derived.Test.YtdhhkbnmfabnaaaEngG
set_option linter.all false
namespace Go.Eng
open Go Go.RowKit
variable {df : DF}
section
variable {ρ : Type} {P : Program} {C : Oracle} {hb : Nat} {w0 : Base} {okA : Nat → Prop} {μ : Nat → Option Nat} {ok : Nat → Prop} {st : St} {a : Act} {w : World}
 {o : Oper} {k : V → St → Option ρ} {r : ρ} {next : Act → World → Prop} {Q : Exit → Act → World → Prop}
theorem bnd_spec (he : ER df μ ok st.heap w st.env a) {dflt : Nat} {x : Option Operand} {hi : Nat} {kk : Nat → Option ρ} (h : bnd st dflt x hi kk = some r) :
  ∃ n, kk n = some r ∧ ((x = none ∧ n = dflt) ∨ (∃ y kd, x = some y ∧ a.eval y = .int kd (n : Int) ∧ n ≤ hi)) := by
 unfold bnd at h
 cases x with
 | none => exact ⟨dflt, h, .inl ⟨rfl, rfl⟩⟩
 | some y =>
  have hy := ev_sound he y
  dsimp only at h
  split at h
  ·rename_i kd n hv
   rw [hv] at hy
   have hy : a.eval y = .int kd n := hy
   obtain ⟨h1, h2⟩ := bif_some h
   obtain ⟨h3, h4⟩ := inbe_spec h1
   exact ⟨n.toNat, h2, .inr ⟨y, kd, rfl, by rw [hy]; congr 1; omega, by omega⟩⟩
  ·cases h
theorem sliceBound_run {kd : IntKind} {n y : Nat} {code : BoundsCode} (h : n ≤ y) : (Instr.sliceBound (.int kd (n : Int)) y code).run P w = .ok n w := by
 have := run_sliceBound (P := P) w kd (n : Int) y code (by omega) (by omega)
 simpa using this
theorem sliceBounds_run {len cap l h m : Nat} {lo hi mx : Option Value} (h1 : (mx = none ∧ m = cap) ∨ ∃ kd, mx = some (.int kd (m : Int)) ∧ m ≤ cap)
  (h2 : (hi = none ∧ mx = none ∧ h = len) ∨ ∃ kd, hi = some (.int kd (h : Int)) ∧ h ≤ m) (h3 : (lo = none ∧ l = 0) ∨ ∃ kd, lo = some (.int kd (l : Int)) ∧ l ≤ h) :
  (Instr.sliceBounds true len cap lo hi mx).run P w = .ok (l, h, m) w := by
 rcases h1 with ⟨rfl, rfl⟩ | ⟨k1, rfl, e1⟩
 ·rcases h2 with ⟨rfl, _, rfl⟩ | ⟨k2, rfl, e2⟩
  ·rcases h3 with ⟨rfl, rfl⟩ | ⟨k3, rfl, e3⟩
   ·simp [Instr.sliceBounds]
   ·simp [Instr.sliceBounds, sliceBound_run e3]
  ·rcases h3 with ⟨rfl, rfl⟩ | ⟨k3, rfl, e3⟩
   ·simp [Instr.sliceBounds, sliceBound_run e2]
   ·simp [Instr.sliceBounds, sliceBound_run e2, sliceBound_run e3]
 ·rcases h2 with ⟨_, h, _⟩ | ⟨k2, rfl, e2⟩
  ·cases h
  ·rcases h3 with ⟨rfl, rfl⟩ | ⟨k3, rfl, e3⟩
   ·simp [Instr.sliceBounds, sliceBound_run e1, sliceBound_run e2]
   ·simp [Instr.sliceBounds, sliceBound_run e1, sliceBound_run e2, sliceBound_run e3]
theorem run_slice_of {t e : TypeId} {ad : Option Addr} {len cap l h m esz : Nat} {lo hi mx : Option Value} (ht : P.underlying t = some (.slice e)) (hs : (sizeOf e).run P w = .ok esz w)
  (hb : (Instr.sliceBounds true len cap lo hi mx).run P w = .ok (l, h, m) w) :
  (Instr.sliceAt t (.slice ad len cap) lo hi mx).run P w = .ok (.slice (if m = l then ad else ad.map (·.add (l * esz))) (h - l) (m - l)) w := by
 simp [Instr.sliceAt, Instr.slice, run_underlying ht, hb, hs]
theorem op_slice (hm : MR w0 okA μ ok st.heap w) (he : ER df μ ok st.heap w st.env a) (hk : Owed df w0 okA a k r fun u w => next (a.put o.dst u) w)
  {t e : TypeId} {esz : Nat} {x : Operand} {lo hi mx : Option Operand} (ho : o.op = .slice t x lo hi mx) (hP : (AOp.slice t e esz x lo hi mx).okP P = true)
  (h : evalOp C hb st (.slice t e esz x lo hi mx) k = some r) : o.wp P a w next Q := by
 have hx := ev_sound he x
 simp only [AOp.okP, Bool.and_eq_true] at hP
 have hu := sliceIs_eq hP.1
 have hsz := sizeIs_run (w := w) hP.2
 simp only [evalOp] at h
 split at h
 ·rename_i fl rr n f hxv
  rw [hxv] at hx
  obtain ⟨ad, cap, hp, hc1, hc2, hfull, hc4⟩ := hx
  obtain ⟨h1, h⟩ := bif_some h
  rw [Bool.and_eq_true] at h1
  have hlen := Nat.eq_of_beq_eq_true h1.1
  obtain ⟨m, h, hmm⟩ := bnd_spec he h
  obtain ⟨hh, h, hhh⟩ := bnd_spec he h
  obtain ⟨l, h, hll⟩ := bnd_spec he h
  -- the bounds as the machine has them: m' is the machine's third bound
  have hle1 : l ≤ hh := by rcases hll with ⟨_, rfl⟩ | ⟨_, _, _, _, h⟩ <;> omega
  have hlo : (lo.map a.eval = none ∧ l = 0) ∨ ∃ kd, lo.map a.eval = some (.int kd (l : Int)) ∧ l ≤ hh := by
   rcases hll with ⟨rfl, rfl⟩ | ⟨y, kd, rfl, hy, hle⟩
   ·exact .inl ⟨rfl, rfl⟩
   ·exact .inr ⟨kd, by simp [hy], hle⟩
  have hbounds : ∃ m', (Instr.sliceBounds true n cap (lo.map a.eval) (hi.map a.eval) (mx.map a.eval)).run P w = .ok (l, hh, m') w ∧ hh ≤ n ∧ hh ≤ m' ∧ m' ≤ cap ∧
    ((bif mx.isNone then fl && Nat.beq hh n else Nat.beq m hh) = true → m' = hh) := by
   rcases hmm with ⟨rfl, rfl⟩ | ⟨y, kd, rfl, hy, hle⟩
   ·rcases hhh with ⟨rfl, rfl⟩ | ⟨y, kd, rfl, hy, hle⟩
    ·refine ⟨cap, sliceBounds_run (.inl ⟨rfl, rfl⟩) (.inl ⟨rfl, rfl, rfl⟩) hlo, Nat.le_refl _, hc1, Nat.le_refl _, fun h => ?_⟩
     simp only [Option.isNone_none, cond_true, Bool.and_eq_true] at h
     exact hfull h.1
    ·refine ⟨cap, sliceBounds_run (.inl ⟨rfl, rfl⟩) (.inr ⟨kd, by simp [hy], by omega⟩) hlo, hle, by omega, Nat.le_refl _, fun h => ?_⟩
     simp only [Option.isNone_none, cond_true, Bool.and_eq_true] at h
     rw [hfull h.1]
     exact (Nat.eq_of_beq_eq_true h.2).symm
   ·rcases hhh with ⟨rfl, rfl⟩ | ⟨y', kd', rfl, hy', hle'⟩
    ·simp at h1
    ·refine ⟨m, sliceBounds_run (.inr ⟨kd, by simp [hy], by omega⟩) (.inr ⟨kd', by simp [hy'], hle'⟩) hlo, by omega, hle', by omega, fun h => ?_⟩
     simp only [Option.isNone_some, cond_false] at h
     exact Nat.eq_of_beq_eq_true h
  obtain ⟨m', hbs, hb1, hb2, hb3, hb4⟩ := hbounds
  have hv' : CR ok w (.ro (bif mx.isNone then fl && Nat.beq hh n else Nat.beq m hh) rr (hh - l) (shiftF l f)) (.slice (if m' = l then ad else ad.map (·.add (l * esz))) (hh - l) (m' - l)) := by
   refine ⟨_, m' - l, rfl, by omega, by omega, fun h => by rw [hb4 h], ?_⟩
   by_cases hz : hh - l = 0
   ·exact .inl hz
   ·rw [if_neg (by omega)]
    rcases hc4 with h5 | ⟨g, off, rfl, hg, hrow⟩
    ·omega
    ·refine .inr ⟨g, off + l * esz, by simp [add_at], hg, fun i j hi' hj => ?_⟩
     rw [shiftF_eq]
     obtain ⟨hk, u, hu', hr⟩ := hrow (l + i) j (by omega) hj
     exact ⟨hk, u, by rw [← hlen, Nat.add_assoc off, ← Nat.add_mul]; exact hu', hr⟩
  exact wp_quiet hm he hk (v := .x (.c (.ro (bif mx.isNone then fl && Nat.beq hh n else Nat.beq m hh) rr (hh - l) (shiftF l f)))) (u := .slice (if m' = l then ad else ad.map (·.add (l * esz))) (hh - l) (m' - l))
   (by simp only [execOp, ho, hp, Sem.run_bind, run_slice_of hu hsz hbs, Result.andThen_ok, Sem.run_pure]) hv' h
 ·rename_i b off len hxv
  rw [hxv] at hx
  obtain ⟨_, hp⟩ := hx
  split at h
  ·rename_i rr n f hq
   rw [hq] at hp
   obtain ⟨hle, ad, cap, hp, hc1, hc2, hown⟩ := hp
   obtain ⟨h1, h⟩ := bif_some h
   rw [Bool.and_eq_true] at h1
   have hlen := Nat.eq_of_beq_eq_true h1.1
   have hmx : mx = none := by simpa using h1.2
   obtain ⟨hh, h2, hhh⟩ := bnd_spec he h
   obtain ⟨l, h3, hll⟩ := bnd_spec he h2
   have hle1 : l ≤ hh := by rcases hll with ⟨_, rfl⟩ | ⟨_, _, _, _, h⟩ <;> omega
   have hle2 : hh ≤ len := by rcases hhh with ⟨_, rfl⟩ | ⟨_, _, _, _, h⟩ <;> omega
   have hlo : (lo.map a.eval = none ∧ l = 0) ∨ ∃ kd, lo.map a.eval = some (.int kd (l : Int)) ∧ l ≤ hh := by
    rcases hll with ⟨rfl, rfl⟩ | ⟨y, kd, rfl, hy, hle⟩
    ·exact .inl ⟨rfl, rfl⟩
    ·exact .inr ⟨kd, by simp [hy], hle⟩
   have hbs : (Instr.sliceBounds true len cap (lo.map a.eval) (hi.map a.eval) (mx.map a.eval)).run P w = .ok (l, hh, cap) w := by
    refine sliceBounds_run (.inl ⟨by simp [hmx], rfl⟩) ?_ hlo
    rcases hhh with ⟨rfl, rfl⟩ | ⟨y, kd, rfl, hy, hle'⟩
    ·exact .inl ⟨rfl, by simp [hmx], rfl⟩
    ·exact .inr ⟨kd, by simp [hy], by omega⟩
   have hv' : V0R μ ok w st.heap (.own b (off + l) (hh - l)) (.slice (if cap = l then ad else ad.map (·.add (l * esz))) (hh - l) (cap - l)) := by
    refine ⟨rfl, ?_⟩
    rw [hq]
    refine ⟨by omega, _, cap - l, rfl, by omega, by omega, ?_⟩
    by_cases hz : cap = l
    ·exact .inl ⟨by omega, by omega⟩
    ·rw [if_neg hz]
     rcases hown with ⟨h5, h6⟩ | ⟨g, cur, e', hg, rfl, hw, hs'⟩
     ·omega
     ·refine .inr ⟨g, cur, e', hg, by simp [add_at, hlen, Nat.add_mul], hw, ?_⟩
      rw [hs']; congr 1; omega
   exact wp_quiet hm he hk (v := .x (.own b (off + l) (hh - l))) (u := .slice (if cap = l then ad else ad.map (·.add (l * esz))) (hh - l) (cap - l))
    (by simp only [execOp, ho, hp, Sem.run_bind, run_slice_of hu hsz hbs, Result.andThen_ok, Sem.run_pure]) hv' h3
  ·cases h
 ·cases h
end
end Go.Eng
