/-
 Regions that draw their order, part 5: any order ends as the text's order does.
-/
import Derived.Test.YtdhhkbnmfabnaaaEngM3
import Derived.Orders
set_option linter.all false
namespace Go.Eng
open Go Go.RowKit
variable {df : DF}
section
variable {ρ : Type} {C : Oracle} {hb : Nat} {st : St}
theorem put_same {t : Nat} {v : V} (h : st.env.getD t .u = v) (hv : v ≠ .u) : st.put t v = st := by
 unfold St.put
 have hlt : t < st.env.length := by
  rcases Nat.lt_or_ge t st.env.length with hl | hl
  ·exact hl
  ·rw [List.getD_eq_getElem?_getD, List.getElem?_eq_none hl] at h
   exact (hv h.symm).elim
 have : st.env.set t v = st.env := by
  rw [List.getD_eq_getElem?_getD, List.getElem?_eq_getElem hlt] at h
  simp only [Option.getD_some] at h
  subst h
  exact List.set_getElem_self hlt
 rw [this]
theorem opdSlots_mem : ∀ {l : List Operand} {t : Nat}, t ∈ opdSlots l ↔ .tmp t ∈ l
 | [], t => by simp [opdSlots]
 | .tmp s :: l, t => by simp [opdSlots, opdSlots_mem (l := l)]
 | .const _ :: l, t => by simp [opdSlots, opdSlots_mem (l := l)]
 | .func _ :: l, t => by simp [opdSlots, opdSlots_mem (l := l)]
 | .global _ :: l, t => by simp [opdSlots, opdSlots_mem (l := l)]
theorem agreeO_of {o : AOp} {φ : Foot} {st2 : St} (h1 : ∀ t ∈ opdSlots o.erase.operands.toList, st2.env.getD t .u = st.env.getD t .u) (h2 : ∀ b, φ.has b → st2.heap[b]? = st.heap[b]?) : AgreeO o φ st st2 := by
 refine ⟨fun x hx => ?_, h2⟩
 cases x with
 | tmp t => exact h1 t (opdSlots_mem.2 hx)
 | _ => rfl
theorem floc_plain {f : FOp} {φ : Foot} {k : V → St → Option ρ} {r : ρ} (hg : f.guard = none) (hf : foot hb st f.op = some φ) (h : evalOp C hb st f.op k = some r) : ∃ us v E, FLoc C hb st f φ us v E := by
 obtain ⟨v, E, hl⟩ := foot_loc hf h
 refine ⟨opdSlots f.op.erase.operands.toList, v, E, ?_, ?_, hl.eff, hl.vids, ?_, hl.cids⟩
 ·intro t ht
  unfold FOp.uses
  exact List.mem_append_left _ ht
 ·intro st2 h1 h2 ρ k
  unfold evalL
  rw [hg]
  dsimp only
  rw [hl.loc st2 (agreeO_of h1 h2)]
  simp only [evalL]
 ·intro t ht
  exact hl.uids _ (opdSlots_mem.1 ht)
theorem floc_guard {f : FOp} {φ : Foot} {k : V → St → Option ρ} {r : ρ} {t : Nat} {want : Bool} (hg : f.guard = some (t, want)) (hx : st.env.getD t .u = .x (.c (.b want))) (hf : foot hb st f.op = some φ)
  (h : evalOp C hb st f.op k = some r) : ∃ us v E, FLoc C hb st f φ us v E := by
 obtain ⟨v, E, hl⟩ := foot_loc hf h
 refine ⟨t :: opdSlots f.op.erase.operands.toList, v, E, ?_, ?_, hl.eff, hl.vids, ?_, hl.cids⟩
 ·intro s hs
  unfold FOp.uses
  rw [hg]
  rcases List.mem_cons.1 hs with rfl | hs
  ·simp
  ·exact List.mem_append_left _ hs
 ·intro st2 h1 h2 ρ k
  have hx2 : st2.env.getD t .u = .x (.c (.b want)) := (h1 t (List.mem_cons_self ..)).trans hx
  have hps : st2.put t (bl want) = st2 := put_same hx2 (by intro hh; cases hh)
  unfold evalL
  rw [hg]
  dsimp only
  rw [hx2]
  simp only [BEq.rfl, cond_true]
  rw [hps, hl.loc st2 (agreeO_of (fun s hs => h1 s (List.mem_cons_of_mem _ hs)) h2)]
  simp only [evalL]
 ·intro s hs
  rcases List.mem_cons.1 hs with rfl | hs
  ·rw [hx]; exact ⟨rfl, fun b hb => by cases hb⟩
  ·exact hl.uids _ (opdSlots_mem.1 hs)
theorem floc_skip {f : FOp} {t : Nat} {want : Bool} (hg : f.guard = some (t, want)) (hx : st.env.getD t .u = .x (.c (.b (!want)))) : FLoc C hb st f ⟨[], [], [], []⟩ [t] .undef .none := by
 refine ⟨?_, ?_, trivial, (fun x hx => by cases hx), ?_, (fun b hb => by cases hb)⟩
 ·intro s hs
  unfold FOp.uses
  rw [hg]
  simp only [List.mem_singleton] at hs
  subst hs
  simp
 ·intro st2 h1 h2 ρ k
  have hx2 : st2.env.getD t .u = .x (.c (.b (!want))) := (h1 t (List.mem_cons_self ..)).trans hx
  have hps : st2.put t (bl !want) = st2 := put_same hx2 (by intro hh; cases hh)
  unfold evalL
  rw [hg]
  dsimp only
  rw [hx2]
  have : ((!want) == want) = false := by cases want <;> rfl
  simp only [this, cond_false, hps, evalL]
  rfl
 ·intro s hs
  simp only [List.mem_singleton] at hs
  subst hs
  rw [hx]; exact ⟨rfl, fun b hb => by cases hb⟩
theorem floc_undef {f : FOp} {t : Nat} {want : Bool} (hg : f.guard = some (t, want)) (hx : st.env.getD t .u = .undef) : FLoc C hb st f ⟨[], [], [], []⟩ [t] .undef .none := by
 refine ⟨?_, ?_, trivial, (fun x hx => by cases hx), ?_, (fun b hb => by cases hb)⟩
 ·intro s hs
  unfold FOp.uses
  rw [hg]
  simp only [List.mem_singleton] at hs
  subst hs
  simp
 ·intro st2 h1 h2 ρ k
  have hx2 : st2.env.getD t .u = .undef := (h1 t (List.mem_cons_self ..)).trans hx
  unfold evalL
  rw [hg]
  dsimp only
  rw [hx2]
  simp only [evalL]
  rfl
 ·intro s hs
  simp only [List.mem_singleton] at hs
  subst hs
  rw [hx]; exact ⟨rfl, fun b hb => by cases hb⟩
structure Ent where
 i : Nat
 f : FOp
 ord : List Nat
 φ : Foot
inductive Cert (C : Oracle) (hb : Nat) (k : St → Option ρ) (r : ρ) : St → List Ent → Prop
 | nil {st : St} (h : k st = some r) : Cert C hb k r st []
 | cons {st : St} {e : Ent} {L : List Ent} {us : List Nat} {v : V} {E : Eff} (hl : FLoc C hb st e.f e.φ us v E) (h : Cert C hb k r ((E.ap st).putO e.f.dst v) L)
   (hm : ∀ x ∈ L, e.i ∈ x.ord ∨ Apart e.f x.f e.φ x.φ) : Cert C hb k r st (e :: L)
variable {k : St → Option ρ} {r : ρ}
theorem Cert.bubble {e : Ent} {B : List Ent} : ∀ {A : List Ent} {st : St}, Cert C hb k r st (A ++ e :: B) → (∀ a ∈ A, a.i ∉ e.ord) → Cert C hb k r st (e :: (A ++ B))
 | [], st, h, _ => h
 | a :: A, st, h, hA => by
  cases h with
  | cons hl h hm =>
   have ih := Cert.bubble h fun x hx => hA x (List.mem_cons_of_mem _ hx)
   cases ih with
   | cons hl2 h2 hm2 =>
    have hap : Apart a.f e.f a.φ e.φ := by
     rcases hm e (by simp) with h3 | h3
     ·exact (hA a (List.mem_cons_self ..) h3).elim
     ·exact h3
    obtain ⟨f1, f2, f3⟩ := hl.swap hl2 hap
    refine .cons f1 (.cons f2 (by rw [f3]; exact h2) fun x hx => hm x ?_) fun x hx => ?_
    ·rcases List.mem_append.1 hx with h4 | h4
     ·exact List.mem_append_left _ h4
     ·exact List.mem_append_right _ (List.mem_cons_of_mem _ h4)
    ·rcases List.mem_cons.1 hx with rfl | hx
     ·exact .inr hap.symm
     ·exact hm2 x hx
theorem movable_spec {f : FOp} {φ : Foot} {ord : List Nat} : ∀ {l : List (Nat × FOp × Foot)}, movable f φ ord l = true → ∀ d ∈ l, d.1 ∈ ord ∨ Apart d.2.1 f d.2.2 φ
 | [], _, d, hd => by cases hd
 | (i, p, ψ) :: l, h, d, hd => by
  unfold movable at h
  rw [Bool.and_eq_true] at h
  rcases List.mem_cons.1 hd with rfl | hd
  ·rw [Bool.or_eq_true] at h
   rcases h.1 with h1 | h1
   ·exact .inl (by simpa using h1)
   ·exact .inr (apart_of h1)
  ·exact movable_spec h.2 d hd
theorem evalLD_norm (n : Nat) (done : List (Nat × FOp × Foot)) (o : FOp) (l : List FOp) (ords : List (List Nat)) : evalLD C hb st n done (o :: l) ords k = evalLD C hb st n done (o :: l) (ords.getD 0 [] :: ords.tail) k := by
 cases ords <;> rfl
theorem cert_of : ∀ {l : List FOp} {ords : List (List Nat)} {st : St} {n : Nat} {done : List (Nat × FOp × Foot)}, evalLD C hb st n done l ords k = some r →
  ∃ L : List Ent, Cert C hb k r st L ∧ L.length = l.length ∧ (∀ (j : Nat) (e : Ent), L[j]? = some e → e.i = n + j ∧ l[j]? = some e.f ∧ e.ord = ords.getD j []) ∧ ∀ d ∈ done, ∀ x ∈ L, d.1 ∈ x.ord ∨ Apart d.2.1 x.f d.2.2 x.φ
 | [], ords, st, n, done, h => ⟨[], .nil h, rfl, fun j e he => by simp at he, fun d _ x hx => by cases hx⟩
 | o :: l, ords, st, n, done, h => by
  have step : ∀ (φ : Foot) (us : List Nat) (v : V) (E : Eff) (st1 : St), FLoc C hb st o φ us v E → (E.ap st).putO o.dst v = st1 → movable o φ (ords.getD 0 []) done = true →
    evalLD C hb st1 (n + 1) ((n, o, φ) :: done) l ords.tail k = some r →
    ∃ L : List Ent, Cert C hb k r st L ∧ L.length = (o :: l).length ∧ (∀ (j : Nat) (e : Ent), L[j]? = some e → e.i = n + j ∧ (o :: l)[j]? = some e.f ∧ e.ord = ords.getD j []) ∧ ∀ d ∈ done, ∀ x ∈ L, d.1 ∈ x.ord ∨ Apart d.2.1 x.f d.2.2 x.φ := by
   intro φ us v E st1 hl hst hm h
   obtain ⟨L, hc, hlen, hat, hd⟩ := cert_of h
   subst hst
   refine ⟨⟨n, o, ords.getD 0 [], φ⟩ :: L, .cons hl hc fun x hx => hd _ (List.mem_cons_self ..) x hx, by simp [hlen], fun j e he => ?_, fun d hdd x hx => ?_⟩
   ·cases j with
    | zero => simp at he; subst he; exact ⟨rfl, rfl, rfl⟩
    | succ j =>
     obtain ⟨h1, h2, h3⟩ := hat j e (by simpa using he)
     refine ⟨by rw [h1]; omega, by simpa using h2, ?_⟩
     rw [h3]
     cases ords with
     | nil => simp
     | cons x y => simp
   ·rcases List.mem_cons.1 hx with rfl | hx
    ·exact movable_spec hm d hdd
    ·exact hd d (List.mem_cons_of_mem _ hdd) x hx
  rw [evalLD_norm] at h
  unfold evalLD at h
  dsimp only at h
  split at h
  ·rename_i hg
   split at h
   ·cases h
   ·rename_i φ hφ
    obtain ⟨hm, h⟩ := bif_some h
    obtain ⟨us, v, E, hl⟩ := floc_plain hg hφ h
    have e1 := hl.loc st (fun _ _ => rfl) (fun _ _ => rfl) (fun s => evalLD C hb s (n + 1) ((n, o, φ) :: done) l ords.tail k)
    unfold evalL at e1
    rw [hg] at e1
    dsimp only at e1
    simp only [evalL] at e1
    rw [e1] at h
    exact step φ us v E _ hl rfl hm h
  ·rename_i t want hg
   split at h
   ·rename_i x hx
    cases hxw : (x == want) with
    | true =>
     rw [hxw] at h
     have hxe : x = want := by simpa using hxw
     subst hxe
     have hps : st.put t (bl x) = st := put_same hx (by intro hh; cases hh)
     rw [hps] at h
     simp only [cond_true] at h
     split at h
     ·cases h
     ·rename_i φ hφ
      obtain ⟨hm, h⟩ := bif_some h
      obtain ⟨us, v, E, hl⟩ := floc_guard hg hx hφ h
      have e1 := hl.loc st (fun _ _ => rfl) (fun _ _ => rfl) (fun s => evalLD C hb s (n + 1) ((n, o, φ) :: done) l ords.tail k)
      unfold evalL at e1
      rw [hg] at e1
      dsimp only at e1
      rw [hx] at e1
      simp only [evalL, BEq.rfl, cond_true, hps] at e1
      rw [e1] at h
      exact step φ us v E _ hl rfl hm h
    | false =>
     rw [hxw] at h
     have hxe : x = !want := by cases x <;> cases want <;> simp_all
     subst hxe
     have hps : st.put t (bl !want) = st := put_same hx (by intro hh; cases hh)
     simp only [cond_false] at h
     obtain ⟨hm, h⟩ := bif_some h
     rw [hps] at h
     exact step ⟨[], [], [], []⟩ [t] .undef .none _ (floc_skip hg hx) rfl hm h
   ·rename_i hx
    obtain ⟨hm, h⟩ := bif_some h
    exact step ⟨[], [], [], []⟩ [t] .undef .none _ (floc_undef hg hx) rfl hm h
   ·cases h
end
def edgesL (o : Oper) : List Nat := (o.after.toList.filter (Region.binds .any)).map (·.on)
def chkOrd1 (ords : List (List Nat)) (i : Nat) (o : Oper) : Bool :=
 ((edgesL o).all fun e => Nat.blt e i) && (ords.getD i []).all fun j => (edgesL o).any fun e => Nat.beq e j || (ords.getD e []).any (Nat.beq j)
def chkOrd (ords : List (List Nat)) : Nat → List Oper → Bool
 | _, [] => true
 | i, o :: l => chkOrd1 ords i o && chkOrd ords (i + 1) l
theorem chkOrd_at {ords : List (List Nat)} : ∀ {l : List Oper} {n : Nat}, chkOrd ords n l = true → ∀ (i : Nat) (o : Oper), l[i]? = some o → chkOrd1 ords (n + i) o = true
 | [], n, _, i, o, h => by simp at h
 | x :: l, n, hc, i, o, h => by
  unfold chkOrd at hc
  rw [Bool.and_eq_true] at hc
  cases i with
  | zero => simp at h; subst h; exact hc.1
  | succ i =>
   have := chkOrd_at hc.2 i o (by simpa using h)
   rw [show n + (i + 1) = n + 1 + i by omega]; exact this
theorem ready_iff {md : Region.Mode} {ops : Array Oper} {listed : Array Bool} {i : Nat} : i ∈ Region.ready md ops listed ↔ i < ops.size ∧ listed.getD i true = false ∧ ∃ o, ops[i]? = some o ∧ ∀ e ∈ o.after.toList, Region.binds md e = true → listed.getD e.on false = true := by
 unfold Region.ready
 simp only [List.mem_filter, List.mem_range, Bool.and_eq_true, Bool.not_eq_true']
 constructor
 ·rintro ⟨h1, h2, h3⟩
  refine ⟨h1, h2, ?_⟩
  cases ho : ops[i]? with
  | none => rw [ho] at h3; cases h3
  | some o =>
   rw [ho] at h3
   simp only [Option.map_some, Option.getD_some, Array.all_eq_true'] at h3
   refine ⟨o, rfl, fun e he hb => ?_⟩
   have := h3 e (by simpa using he)
   rw [hb] at this
   simpa using this
 ·rintro ⟨h1, h2, o, ho, h3⟩
  refine ⟨h1, h2, ?_⟩
  rw [ho]
  simp only [Option.map_some, Option.getD_some, Array.all_eq_true']
  intro e he
  cases hb : Region.binds md e with
  | false => rfl
  | true => simpa using h3 e (by simpa using he) hb
section
variable {ρ : Type} {P : Program} {C : Oracle} {hb : Nat} {w0 : Base} {okA : Nat → Prop} {fl : Option Nat} {fd : Nat} {r : ρ} {Q : Exit → Act → World → Prop} {ops : Array Oper}
theorem any_sound (hC : Sound P C) {l : List FOp} (hfit : RegFits P ops l) (hpin : ∀ f, f ∈ l → ∀ q, q ∈ df.2 → f.dst ≠ some q.1) {ords : List (List Nat)} (hchk : chkOrd ords 0 ops.toList = true) {k : St → Option ρ}
  (hQ : ∀ μ ok st a w, MR w0 okA μ ok st.heap w → ER df μ ok st.heap w st.env a → k st = some r → Q .normal a w) :
  ∀ (n : Nat) (L : List Ent) (listed : Array Bool) (μ : Nat → Option Nat) (ok : Nat → Prop) (st : St) (a : Act) (w : World), L.length = n → MR w0 okA μ ok st.heap w → ER df μ ok st.heap w st.env a →
   Cert C hb k r st L → (∀ e ∈ L, l[e.i]? = some e.f ∧ e.ord = ords.getD e.i []) → (L.map Ent.i).Nodup → listed.size = ops.size →
   (∀ i, i < ops.size → (listed.getD i true = false ↔ i ∈ L.map Ent.i)) → (∀ i, i < ops.size → listed.getD i true = true → ∀ j ∈ ords.getD i [], listed.getD j false = true) →
   wpAnyIn (wd fl) fd P .any ops Q n listed a w := by
 have hgd : ∀ (listed : Array Bool) (i : Nat), i < listed.size → listed.getD i true = listed.getD i false := fun listed i hi => by simp [Array.getD, hi]
 have hedge : ∀ (i : Nat) (o : Oper), ops[i]? = some o → ∀ e ∈ o.after.toList, Region.binds .any e = true → e.on < i := by
  intro i o ho e he hb
  have := chkOrd_at hchk i o (by simpa using ho)
  unfold chkOrd1 at this
  rw [Bool.and_eq_true] at this
  have h1 := List.all_eq_true.1 this.1 e.on (List.mem_map.2 ⟨e, List.mem_filter.2 ⟨he, hb⟩, rfl⟩)
  rw [Nat.zero_add] at h1
  simpa [Nat.blt_eq] using h1
 intro n
 induction n with
 | zero =>
  intro L listed μ ok st a w hlen hm he hc hL hnd hsz hiff hcl
  have : L = [] := List.length_eq_zero_iff.1 hlen
  subst this
  cases hc with
  | nil h =>
   refine ⟨?_, hQ _ _ _ _ _ hm he h⟩
   rw [List.eq_nil_iff_forall_not_mem]
   intro i hi
   obtain ⟨h1, h2, _⟩ := ready_iff.1 hi
   have := (hiff i h1).1 h2
   simp at this
 | succ n ih =>
  intro L listed μ ok st a w hlen hm he hc hL hnd hsz hiff hcl
  have hin : ∀ e ∈ L, e.i < ops.size := fun e hee => by
   have := (List.getElem?_eq_some_iff.1 (hL e hee).1).1
   rw [← hfit.len]; exact this
  refine ⟨fun hnil => ?_, fun i hi => ?_⟩
  ·exfalso
   -- the least of those that are left is ready
   have hex : ∃ i, i < ops.size ∧ listed.getD i true = false := by
    cases L with
    | nil => simp at hlen
    | cons e L => exact ⟨e.i, hin e (List.mem_cons_self ..), (hiff e.i (hin e (List.mem_cons_self ..))).2 (by simp)⟩
   obtain ⟨i0, h01, h02⟩ := hex
   have hmin : ∃ i, (i < ops.size ∧ listed.getD i true = false) ∧ ∀ j, j < i → ¬ (j < ops.size ∧ listed.getD j true = false) := by
    induction i0 using Nat.strongRecOn with
    | _ i0 ihs =>
     by_cases hj : ∃ j, j < i0 ∧ j < ops.size ∧ listed.getD j true = false
     ·obtain ⟨j, hj1, hj2, hj3⟩ := hj
      exact ihs j hj1 hj2 hj3
     ·exact ⟨i0, ⟨h01, h02⟩, fun j hji hjj => hj ⟨j, hji, hjj⟩⟩
   obtain ⟨i, ⟨h1, h2⟩, h3⟩ := hmin
   have : i ∈ Region.ready .any ops listed := by
    refine ready_iff.2 ⟨h1, h2, ops[i], by simp [h1], fun e he hb => ?_⟩
    have hlt := hedge i ops[i] (by simp [h1]) e he hb
    have := h3 e.on hlt
    have hlt2 : e.on < ops.size := by omega
    cases hq : listed.getD e.on true with
    | false => exact (this ⟨hlt2, hq⟩).elim
    | true => rw [hgd listed e.on (by omega)] at hq; exact hq
   rw [hnil] at this
   cases this
  ·obtain ⟨h1, h2, o, ho, h3⟩ := ready_iff.1 hi
   obtain ⟨e, heL, hei⟩ := List.mem_map.1 ((hiff i h1).1 h2)
   subst hei
   obtain ⟨A, B, hAB⟩ := List.append_of_mem heL
   subst hAB
   have hordl : ∀ j ∈ e.ord, listed.getD j false = true := by
    intro j hj
    rw [(hL e heL).2] at hj
    have hck := chkOrd_at hchk e.i o (by simpa using ho)
    unfold chkOrd1 at hck
    rw [Bool.and_eq_true, Nat.zero_add] at hck
    have h4 := List.all_eq_true.1 hck.2 j hj
    obtain ⟨e', he', h5⟩ := List.any_eq_true.1 h4
    obtain ⟨ed, hed, rfl⟩ := List.mem_map.1 he'
    obtain ⟨hed1, hed2⟩ := List.mem_filter.1 hed
    have hl := h3 ed hed1 hed2
    rw [Bool.or_eq_true] at h5
    rcases h5 with h5 | h5
    ·have := Nat.eq_of_beq_eq_true h5
     rw [← this]; exact hl
    ·obtain ⟨j', hj', h6⟩ := List.any_eq_true.1 h5
     have := Nat.eq_of_beq_eq_true h6
     subst this
     have hlt := hedge e.i o ho ed hed1 hed2
     exact hcl ed.on (by omega) (by rw [hgd listed ed.on (by omega)]; exact hl) j hj'
   have hAo : ∀ x ∈ A, x.i ∉ e.ord := by
    intro x hx hxo
    have hxL : x ∈ A ++ e :: B := List.mem_append_left _ hx
    have h4 := hordl x.i hxo
    have h5 := (hiff x.i (hin x hxL)).2 (List.mem_map.2 ⟨x, hxL, rfl⟩)
    rw [hgd listed x.i (by rw [hsz]; exact hin x hxL)] at h5
    rw [h4] at h5; cases h5
   have hb := hc.bubble hAo
   cases hb with
   | cons hl hc2 hm2 =>
    obtain ⟨o', ho', hfo⟩ := hfit.at_ e.i e.f (hL e heL).1
    rw [ho] at ho'
    cases ho'
    have hsub : ∀ x ∈ A ++ B, x ∈ A ++ e :: B := fun x hx => by
     rcases List.mem_append.1 hx with h | h
     ·exact List.mem_append_left _ h
     ·exact List.mem_append_right _ (List.mem_cons_of_mem _ h)
    have hnd2 : e.i ∉ (A ++ B).map Ent.i ∧ ((A ++ B).map Ent.i).Nodup := by
     have hp : ((A ++ e :: B).map Ent.i).Perm (e.i :: (A ++ B).map Ent.i) := by
      have : (A ++ e :: B).Perm (e :: (A ++ B)) := List.perm_middle
      exact this.map Ent.i
     have := hp.nodup_iff.1 hnd
     exact List.nodup_cons.1 this
    classical
    refine fop_step (r := r) (C := C) (hb := hb) (k := fun s => if Cert C hb k r s (A ++ B) then some r else none) hC hm he ho hfo (hpin _ (List.mem_of_getElem? (hL e heL).1)) (fun μ' ok' st' a' w' hm' he' hk => ?_) ?_
    ·have hcert : Cert C hb k r st' (A ++ B) := by
      by_cases hcc : Cert C hb k r st' (A ++ B)
      ·exact hcc
      ·simp [hcc] at hk
     have hset : ∀ j (d : Bool), (listed.setIfInBounds e.i true).getD j d = if j = e.i ∧ j < listed.size then true else listed.getD j d := by
      intro j d
      simp only [Array.getD_eq_getD_getElem?, Array.getElem?_setIfInBounds]
      by_cases hje : e.i = j
      ·subst hje
       by_cases hlt : e.i < listed.size <;> simp [hlt]
      ·have : ¬ (j = e.i) := fun hh => hje hh.symm
       simp [hje, this]
     refine ih (A ++ B) _ μ' ok' st' a' w' (by simp at hlen ⊢; omega) hm' he' hcert (fun x hx => hL x (hsub x hx)) hnd2.2 (by simp [hsz]) (fun j hj => ?_) (fun j hj hjt q hq => ?_)
     ·rw [hset]
      by_cases hje : j = e.i
      ·subst hje
       rw [if_pos ⟨rfl, by omega⟩]
       constructor
       ·intro hh; cases hh
       ·intro hh; exact (hnd2.1 hh).elim
      ·rw [if_neg fun hh => hje hh.1, hiff j hj]
       simp only [List.map_append, List.map_cons, List.mem_append, List.mem_cons]
       constructor
       ·rintro (h | h | h)
        ·exact .inl h
        ·exact (hje h).elim
        ·exact .inr h
       ·rintro (h | h)
        ·exact .inl h
        ·exact .inr (.inr h)
     ·rw [hset] at hjt ⊢
      by_cases hje : j = e.i
      ·subst hje
       have := hordl q (by rw [(hL e heL).2]; exact hq)
       rw [this]; simp
      ·rw [if_neg fun hh => hje hh.1] at hjt
       rw [hcl j hj hjt q hq]; simp
    ·rw [hl.loc st (fun _ _ => rfl) (fun _ _ => rfl)]
     simp [hc2]
theorem MR.drew {μ : Nat → Option Nat} {ok : Nat → Prop} {H : List Blk} {w w' : World} (h : MR w0 okA μ ok H w) (hh : w'.heap = w.heap) (ho : w'.os = w.os) (ht : w'.tape = w.tape) (hu : w'.output = w.output) (hdr : w.drawn ≤ w'.drawn) : MR w0 okA μ ok H w' := by
 have E : Ext μ ok w H μ ok w' H := ⟨fun g hg => ⟨hg, by rw [hh]⟩, fun b hb => hb, fun b cs hb => .inr ⟨⟨cs, hb⟩, rfl⟩, fun b r n f hb => .inr ⟨⟨f, hb⟩, rfl, fun g cur e _ hw => ⟨cur, e, by rw [hh]; exact hw, rfl⟩⟩⟩
 refine ⟨⟨by rw [ho]; exact h.below.os, by rw [ht]; exact h.below.tape, by rw [hu]; exact h.below.output, by rw [hh]; exact h.below.size, fun k hk hno => by rw [hh]; exact h.below.block k hk hno, fun k hno cu e' hc => by rw [hh]; exact h.below.lent k hno cu e' hc, Nat.le_trans h.below.drawn hdr⟩, fun g hg => by rw [hh]; exact h.okd g hg, h.keep, fun b g hg => by rw [hh]; exact h.fresh b g hg, h.inj, fun b o ho' => E.blk rfl (fun g _ => by rw [hh]) (h.blk b o ho'), h.tag⟩
theorem ER.drew {μ : Nat → Option Nat} {ok : Nat → Prop} {H : List Blk} {w w' : World} {env : List V} {a : Act} (h : ER df μ ok H w env a) (hh : w'.heap = w.heap) : ER df μ ok H w' env a := by
 have E : Ext μ ok w H μ ok w' H := ⟨fun g hg => ⟨hg, by rw [hh]⟩, fun b hb => hb, fun b cs hb => .inr ⟨⟨cs, hb⟩, rfl⟩, fun b r n f hb => .inr ⟨⟨f, hb⟩, rfl, fun g cur e _ hw => ⟨cur, e, by rw [hh]; exact hw, rfl⟩⟩⟩
 exact h.ext E
variable {μ : Nat → Option Nat} {ok : Nat → Prop} {st : St} {a : Act} {w : World}
theorem region_draw_sound (hmix : P.follows .mixedOrders = true) (hC : Sound P C) {l : List FOp} (hfit : RegFits P ops l) (hpin : ∀ f, f ∈ l → ∀ q, q ∈ df.2 → f.dst ≠ some q.1) {ords : List (List Nat)} (hchk : chkOrd ords 0 ops.toList = true) {k : St → Option ρ}
  (hm : MR w0 okA μ ok st.heap w) (he : ER df μ ok st.heap w st.env a)
  (hQ : ∀ μ ok st a w, MR w0 okA μ ok st.heap w → ER df μ ok st.heap w st.env a → k st = some r → Q .normal a w) {id : Nat} (h : evalLD C hb st 0 [] l ords k = some r) : (Code.region id ops true).wpIn (wd fl) fd P Q a w := by
 obtain ⟨L, hc, hlen, hat, _⟩ := cert_of h
 refine wpIn_region_any hmix ?_
 have hL : ∀ e ∈ L, l[e.i]? = some e.f ∧ e.ord = ords.getD e.i [] := fun e he => by
  obtain ⟨j, hj⟩ := List.mem_iff_getElem?.1 he
  obtain ⟨h1, h2, h3⟩ := hat j e hj
  rw [Nat.zero_add] at h1
  rw [h1]; exact ⟨h2, h3⟩
 have hmap : L.map Ent.i = List.range ops.size := by
  apply List.ext_getElem?
  intro j
  rw [List.getElem?_map]
  cases hj : L[j]? with
  | none =>
   have : L.length ≤ j := List.getElem?_eq_none_iff.1 hj
   rw [List.getElem?_eq_none (by simp; rw [← hfit.len, ← hlen]; exact this)]; rfl
  | some e =>
   obtain ⟨h1, _, _⟩ := hat j e hj
   have hlt := (List.getElem?_eq_some_iff.1 hj).1
   rw [List.getElem?_range (by rw [← hfit.len, ← hlen]; exact hlt)]
   simp [h1]
 refine any_sound hC hfit hpin hchk hQ ops.size L _ μ ok st a _ (by rw [hlen, hfit.len]) (hm.drew rfl rfl rfl rfl (Nat.le_succ _)) (he.drew rfl) hc hL (by rw [hmap]; exact List.nodup_range) (by simp) (fun i hi => ?_) (fun i hi ht => ?_)
 ·rw [hmap]
  simp [Array.getD, hi]
 ·simp [Array.getD, hi] at ht
end
end Go.Eng
