/-
 Operations, part 5: equality of structs of scalars.
-/
import Derived.Test.YtdhhkbnmfabnaaaEngG2
import Derived.ChangeKeysEq
set_option linter.all false
namespace Go.Eng
open Go Go.RowKit
variable {df : DF}
section
variable {ρ : Type} {P : Program} {C : Oracle} {hb : Nat} {w0 : Base} {okA : Nat → Prop} {μ : Nat → Option Nat} {ok : Nat → Prop} {st : St} {a : Act} {w : World}
 {o : Oper} {k : V → St → Option ρ} {r : ρ} {next : Act → World → Prop} {Q : Exit → Act → World → Prop}
theorem eqCells_int {kd : IntKind} {r : Kd} {l l' : List V0} {b : Bool} (h : eqCells (.pr (.int kd) r) l l' = some b) :
  ∃ x y t t' b', l = .c (.i kd x) :: t ∧ l' = .c (.i kd y) :: t' ∧ eqCells r t t' = some b' ∧ b = ((x == y) && b') := by
 unfold eqCells at h
 split at h
 ·rename_i k1 r1 k2 x t k3 y t' h1
  cases h1
  obtain ⟨h3, h4⟩ := bif_some h
  rw [Bool.and_eq_true] at h3
  have e1 := kindEq_eq h3.1
  have e2 := kindEq_eq h3.2
  subst e1 e2
  split at h4
  ·rename_i b' hb'; cases h4; exact ⟨_, _, _, _, _, rfl, rfl, hb', rfl⟩
  ·cases h4
 ·rename_i h1; cases h1
 ·rename_i h1; cases h1
 ·rename_i h1; cases h1
 ·cases h
theorem eqCells_bool {r : Kd} {l l' : List V0} {b : Bool} (h : eqCells (.pr .bool r) l l' = some b) :
  ∃ x y t t' b', l = .c (.b x) :: t ∧ l' = .c (.b y) :: t' ∧ eqCells r t t' = some b' ∧ b = ((x == y) && b') := by
 unfold eqCells at h
 split at h
 ·rename_i h1; cases h1
 ·rename_i h1
  cases h1
  split at h
  ·rename_i b' hb'; cases h; exact ⟨_, _, _, _, _, rfl, rfl, hb', rfl⟩
  ·cases h
 ·rename_i h1; cases h1
 ·rename_i h1; cases h1
 ·cases h
theorem eqCells_str {r : Kd} {l l' : List V0} {b : Bool} (h : eqCells (.pr .str r) l l' = some b) :
  ∃ x y t t' b', l = .c (.s x) :: t ∧ l' = .c (.s y) :: t' ∧ eqCells r t t' = some b' ∧ b = ((x.toList == y.toList) && b') := by
 unfold eqCells at h
 split at h
 ·rename_i h1; cases h1
 ·rename_i h1; cases h1
 ·rename_i h1
  cases h1
  split at h
  ·rename_i b' hb'; cases h; exact ⟨_, _, _, _, _, rfl, rfl, hb', rfl⟩
  ·cases h
 ·rename_i h1; cases h1
 ·cases h
def AppOk (r1 r2 : Kd) (l l' : List V0) (b : Bool) : Prop :=
 ∃ b1 b2, r1.len ≤ l.length ∧ r1.len ≤ l'.length ∧ eqCells (r1.app .nil) (l.take r1.len) (l'.take r1.len) = some b1 ∧ eqCells r2 (l.drop r1.len) (l'.drop r1.len) = some b2 ∧ b = (b1 && b2)
theorem AppOk.cons {κ r r2 : Kd} {c c' : V0} {t t' : List V0} {b' e : Bool} (h : AppOk r r2 t t' b')
  (hs : ∀ r' s s' bb, eqCells r' s s' = some bb → eqCells (.pr κ r') (c :: s) (c' :: s') = some (e && bb)) : AppOk (.pr κ r) r2 (c :: t) (c' :: t') (e && b') := by
 obtain ⟨b1, b2, h1, h2, h3, h4, h5⟩ := h
 exact ⟨e && b1, b2, by simp only [Kd.len, List.length_cons]; omega, by simp only [Kd.len, List.length_cons]; omega, hs _ _ _ _ h3, by simpa [Kd.len] using h4, by rw [h5, Bool.and_assoc]⟩
theorem eqCells_app : ∀ {r1 r2 : Kd} {l l' : List V0} {b : Bool}, eqCells (r1.app r2) l l' = some b → AppOk r1 r2 l l' b := by
 intro r1
 induction r1 with
 | pr κ r ik ih =>
  intro r2 l l' b h
  clear ik
  cases κ with
  | int kd =>
   obtain ⟨x, y, t, t', b', rfl, rfl, hb', rfl⟩ := eqCells_int h
   exact (ih hb').cons (fun r' s s' bb hh => by simp [eqCells, hh, kindEq])
  | bool =>
   obtain ⟨x, y, t, t', b', rfl, rfl, hb', rfl⟩ := eqCells_bool h
   exact (ih hb').cons (fun r' s s' bb hh => by simp [eqCells, hh])
  | str =>
   obtain ⟨x, y, t, t', b', rfl, rfl, hb', rfl⟩ := eqCells_str h
   exact (ih hb').cons (fun r' s s' bb hh => by simp [eqCells, hh])
  | nil => simp [Kd.app, eqCells] at h
  | oth => simp [Kd.app, eqCells] at h
  | sl r' => simp [Kd.app, eqCells] at h
  | pr a b => simp [Kd.app, eqCells] at h
 | nil => intro r2 l l' b h; exact ⟨true, b, by simp [Kd.len], by simp [Kd.len], by simp [Kd.app, Kd.len, eqCells], by simpa [Kd.len, Kd.app] using h, by simp⟩
 | int kd => intro r2 l l' b h; exact ⟨true, b, by simp [Kd.len], by simp [Kd.len], by simp [Kd.app, Kd.len, eqCells], by simpa [Kd.len, Kd.app] using h, by simp⟩
 | bool => intro r2 l l' b h; exact ⟨true, b, by simp [Kd.len], by simp [Kd.len], by simp [Kd.app, Kd.len, eqCells], by simpa [Kd.len, Kd.app] using h, by simp⟩
 | str => intro r2 l l' b h; exact ⟨true, b, by simp [Kd.len], by simp [Kd.len], by simp [Kd.app, Kd.len, eqCells], by simpa [Kd.len, Kd.app] using h, by simp⟩
 | oth => intro r2 l l' b h; exact ⟨true, b, by simp [Kd.len], by simp [Kd.len], by simp [Kd.app, Kd.len, eqCells], by simpa [Kd.len, Kd.app] using h, by simp⟩
 | sl r _ => intro r2 l l' b h; exact ⟨true, b, by simp [Kd.len], by simp [Kd.len], by simp [Kd.app, Kd.len, eqCells], by simpa [Kd.len, Kd.app] using h, by simp⟩
theorem app_proper {r s : Kd} (h : s.app .nil = s) : (r.app s).app .nil = r.app s := by
 induction r with
 | pr a r _ ih => simp [Kd.app, ih]
 | _ => simpa [Kd.app] using h
theorem fieldKs_proper {ks : TypeId → Option Kd} (hks : ∀ t r, ks t = some r → r.app .nil = r) : ∀ {fs : List Field} {off : Nat} {r : Kd}, fieldKs P ks fs off = some r → r.app .nil = r
 | [], off, r, h => by cases h; rfl
 | f :: fs, off, r, h => by
  unfold fieldKs at h
  split at h
  ·obtain ⟨_, h⟩ := bif_some h
   split at h
   ·rename_i r' hr; cases h; simp [Kd.app, fieldKs_proper hks hr]
   ·cases h
  ·obtain ⟨_, h⟩ := bif_some h
   split at h
   ·rename_i r' hr; cases h; simp [Kd.app, fieldKs_proper hks hr]
   ·cases h
  ·obtain ⟨_, h⟩ := bif_some h
   split at h
   ·rename_i r' hr; cases h; simp [Kd.app, fieldKs_proper hks hr]
   ·cases h
  ·split at h
   ·obtain ⟨_, h⟩ := bif_some h
    split at h
    ·rename_i r2 hr; cases h; exact app_proper (fieldKs_proper hks hr)
    ·cases h
   ·cases h
  ·cases h
theorem rep_proper (k : Kd) : ∀ n, (Kd.rep k n).app .nil = Kd.rep k n
 | 0 => rfl
 | n + 1 => by simp [Kd.rep, Kd.app, rep_proper k n]
theorem cellKs_proper : ∀ (d : Nat) (t : TypeId) (r : Kd), cellKs P d t = some r → r.app .nil = r
 | 0, t, r, h => by cases h
 | d + 1, t, r, h => by
  unfold cellKs at h
  split at h
  ·cases hh : P.stoodInHeld t with
   | true => rw [hh] at h; cases h
   | false => rw [hh] at h; exact fieldKs_proper (cellKs_proper d) h
  ·split at h
   ·obtain ⟨_, h⟩ := bif_some h
    cases h
    exact rep_proper _ _
   ·cases h
  ·cases h
def EqAt (P : Program) (μ : Nat → Option Nat) (ok : Nat → Prop) (st : St) (ks : TypeId → Option Kd) (D : Nat) : Prop :=
 ∀ (t : TypeId) (r : Kd) (xs ys : Array Value) (l l' : List V0) (b : Bool) (w : World), ks t = some r → CsR μ ok w st.heap l xs.toList → CsR μ ok w st.heap l' ys.toList → eqCells r l l' = some b →
  (Op.equalIn D t (.agg xs) (.agg ys)).run P w = .ok b w
theorem CsR.sub {l : List V0} {xs : Array Value} (h : CsR μ ok w st.heap l xs.toList) (off m : Nat) : CsR μ ok w st.heap ((l.drop off).take m) (xs.extract off (off + m)).toList := by
 have hl : xs.size = l.length := by simpa using h.1
 refine ⟨by simp; omega, fun t c ht => ?_⟩
 rw [List.getElem?_take] at ht
 split at ht
 ·rename_i htm
  rw [List.getElem?_drop] at ht
  obtain ⟨u, hu, hr⟩ := h.2 _ c ht
  refine ⟨u, ?_, hr⟩
  have hlt : off + t < xs.size := by simpa using (List.getElem?_eq_some_iff.1 hu).1
  rw [Array.getElem?_toList] at hu ⊢
  rw [Array.getElem?_extract, if_pos (by omega)]
  exact hu
 ·cases ht
theorem eqFields_run {ks : TypeId → Option Kd} {D : Nat} (hE : EqAt P μ ok st ks (D + 1)) (hks : ∀ t r, ks t = some r → r.app .nil = r) {xs ys : Array Value} {l l' : List V0}
  (hx : CsR μ ok w st.heap l xs.toList) (hy : CsR μ ok w st.heap l' ys.toList) :
  ∀ {fs : List Field} {off : Nat} {r : Kd} {b : Bool}, fieldKs P ks fs off = some r → eqCells r (l.drop off) (l'.drop off) = some b → (Op.eqFields (D + 1) xs ys fs).run P w = .ok b w
 | [], off, r, b, h, hb => by
  cases h
  generalize l.drop off = L at hb
  generalize l'.drop off = L' at hb
  cases L <;> cases L' <;> simp [eqCells] at hb
  subst hb
  rfl
 | f :: fs, off, r, b, h, hb => by
  have scalar : ∀ (c c' : V0) (t t' : List V0), l.drop off = c :: t → l'.drop off = c' :: t' →
    (∃ u, xs[off]? = some u ∧ V0R μ ok w st.heap c u) ∧ (∃ u, ys[off]? = some u ∧ V0R μ ok w st.heap c' u) ∧ l.drop (off + 1) = t ∧ l'.drop (off + 1) = t' := by
   intro c c' t t' e1 e2
   have g1 : l[off]? = some c := by have := congrArg (·[0]?) e1; simpa using this
   have g2 : l'[off]? = some c' := by have := congrArg (·[0]?) e2; simpa using this
   obtain ⟨u, hu, hr⟩ := hx.2 off c g1
   obtain ⟨u', hu', hr'⟩ := hy.2 off c' g2
   refine ⟨⟨u, by simpa using hu, hr⟩, ⟨u', by simpa using hu', hr'⟩, ?_, ?_⟩
   ·have := congrArg (List.drop 1) e1; simpa [List.drop_drop] using this
   ·have := congrArg (List.drop 1) e2; simpa [List.drop_drop] using this
  have aggN : ∀ d, P.underlying f.type = some d → (∀ fs, d ≠ .struct fs) → (∀ n e, d ≠ .array n e) → aggOk P f.type none = true := by
   intro d hd h1 h2
   unfold aggOk
   rw [hd]
   cases d <;> simp_all
  unfold fieldKs at h
  unfold Op.eqFields
  split at h
  ·rename_i kd hu
   obtain ⟨h1, h2⟩ := bif_some h
   rw [Bool.and_eq_true] at h1
   have hn : f.name ≠ "_" := by simpa using h1.1
   have hoff := Nat.eq_of_beq_eq_true h1.2
   split at h2
   ·rename_i r' hr
    cases h2
    obtain ⟨x, y, t, t', b', e1, e2, hb', rfl⟩ := eqCells_int hb
    obtain ⟨⟨u, hu1, hr1⟩, ⟨u', hu2, hr2⟩, e3, e4⟩ := scalar _ _ _ _ e1 e2
    have hr1 : u = .int kd x := hr1
    have hr2 : u' = .int kd y := hr2
    subst hr1 hr2
    have ih := eqFields_run hE hks hx hy hr (by rw [e3, e4]; exact hb')
    have ha := aggN _ hu (by intro _ h; cases h) (by intro _ _ h; cases h)
    rw [if_pos hn]
    simp only [Sem.run_bind, hoff, part_one ha hu1, part_one ha hu2, Result.andThen_ok, run_equalIn_int w D f.type kd kd x y hu]
    cases hxy : (x == y) <;> simp [ih]
   ·cases h2
  ·rename_i hu
   obtain ⟨h1, h2⟩ := bif_some h
   rw [Bool.and_eq_true] at h1
   have hn : f.name ≠ "_" := by simpa using h1.1
   have hoff := Nat.eq_of_beq_eq_true h1.2
   split at h2
   ·rename_i r' hr
    cases h2
    obtain ⟨x, y, t, t', b', e1, e2, hb', rfl⟩ := eqCells_bool hb
    obtain ⟨⟨u, hu1, hr1⟩, ⟨u', hu2, hr2⟩, e3, e4⟩ := scalar _ _ _ _ e1 e2
    have hr1 : u = .bool x := hr1
    have hr2 : u' = .bool y := hr2
    subst hr1 hr2
    have ih := eqFields_run hE hks hx hy hr (by rw [e3, e4]; exact hb')
    have ha := aggN _ hu (by intro _ h; cases h) (by intro _ _ h; cases h)
    rw [if_pos hn]
    simp only [Sem.run_bind, hoff, part_one ha hu1, part_one ha hu2, Result.andThen_ok, run_equalIn_bool' w D f.type x y hu]
    cases hxy : (x == y) <;> simp [ih]
   ·cases h2
  ·rename_i hu
   obtain ⟨h1, h2⟩ := bif_some h
   rw [Bool.and_eq_true] at h1
   have hn : f.name ≠ "_" := by simpa using h1.1
   have hoff := Nat.eq_of_beq_eq_true h1.2
   split at h2
   ·rename_i r' hr
    cases h2
    obtain ⟨x, y, t, t', b', e1, e2, hb', rfl⟩ := eqCells_str hb
    obtain ⟨⟨u, hu1, hr1⟩, ⟨u', hu2, hr2⟩, e3, e4⟩ := scalar _ _ _ _ e1 e2
    have hr1 : u = .string x := hr1
    have hr2 : u' = .string y := hr2
    subst hr1 hr2
    have ih := eqFields_run hE hks hx hy hr (by rw [e3, e4]; exact hb')
    have ha := aggN _ hu (by intro _ h; cases h) (by intro _ _ h; cases h)
    rw [if_pos hn]
    simp only [Sem.run_bind, hoff, part_one ha hu1, part_one ha hu2, Result.andThen_ok, run_equalIn_string w D f.type x y hu]
    cases hxy : (x.toList == y.toList) <;> simp [ih]
   ·cases h2
  ·rename_i fs' hu
   split at h
   ·rename_i r1 hr1
    obtain ⟨h1, h2⟩ := bif_some h
    rw [Bool.and_eq_true, Bool.and_eq_true] at h1
    have hn : f.name ≠ "_" := by simpa using h1.1.1
    have hoff := Nat.eq_of_beq_eq_true h1.1.2
    split at h2
    ·rename_i r2 hr
     cases h2
     obtain ⟨b1, b2, g1, g2, g3, g4, rfl⟩ := eqCells_app hb
     rw [hks _ _ hr1] at g3
     have ih := eqFields_run hE hks hx hy hr (by simpa [List.drop_drop] using g4)
     have he := hE f.type r1 _ _ _ _ b1 w hr1 (hx.sub off r1.len) (hy.sub off r1.len) g3
     rw [if_pos hn]
     simp only [Sem.run_bind, hoff, part_many h1.2, Result.andThen_ok, he]
     cases b1 <;> simp [ih]
    ·cases h2
   ·cases h
  ·cases h
theorem eqItems_run {e : TypeId} {kd : IntKind} {D : Nat} (hu : P.underlying e = some (.int kd)) {xs ys : Array Value} {l l' : List V0} (hx : CsR μ ok w st.heap l xs.toList) (hy : CsR μ ok w st.heap l' ys.toList) :
  ∀ (m j : Nat) (b : Bool), eqCells (Kd.rep (.int kd) m) (l.drop j) (l'.drop j) = some b → (Op.eqItems (D + 1) e 1 xs ys (List.range' j m)).run P w = .ok b w
 | 0, j, b, hb => by
  revert hb
  generalize l.drop j = L
  generalize l'.drop j = L'
  intro hb
  cases L <;> cases L' <;> simp [eqCells, Kd.rep] at hb
  subst hb
  rfl
 | m + 1, j, b, hb => by
  obtain ⟨x, y, t, t', b', e1, e2, hb', rfl⟩ := eqCells_int hb
  have g1 : l[j]? = some (.c (.i kd x)) := by have := congrArg (·[0]?) e1; simpa using this
  have g2 : l'[j]? = some (.c (.i kd y)) := by have := congrArg (·[0]?) e2; simpa using this
  obtain ⟨u, hu1, hr1⟩ := hx.2 j _ g1
  obtain ⟨u', hu2, hr2⟩ := hy.2 j _ g2
  have hr1 : u = .int kd x := hr1
  have hr2 : u' = .int kd y := hr2
  subst hr1 hr2
  have e3 : l.drop (j + 1) = t := by have := congrArg (List.drop 1) e1; simpa [List.drop_drop] using this
  have e4 : l'.drop (j + 1) = t' := by have := congrArg (List.drop 1) e2; simpa [List.drop_drop] using this
  have ih := eqItems_run (D := D) hu hx hy m (j + 1) b' (by rw [e3, e4]; exact hb')
  have ha : aggOk P e none = true := by
   unfold aggOk
   rw [hu]; rfl
  have p1 : xs[j]? = some (.int kd x) := by simpa using hu1
  have p2 : ys[j]? = some (.int kd y) := by simpa using hu2
  rw [List.range'_succ]
  unfold Op.eqItems
  simp only [Sem.run_bind, Nat.mul_one, part_one ha p1, part_one ha p2, Result.andThen_ok, run_equalIn_int w D e kd kd x y hu]
  cases hxy : (x == y) <;> simp [ih]
theorem equal_run : ∀ (d D : Nat), EqAt P μ ok st (cellKs P d) (d + D + 1)
 | 0, D => fun t r xs ys l l' b w h => by cases h
 | d + 1, D => fun t r xs ys l l' b w h hx hy hb => by
  unfold cellKs at h
  split at h
  ·rename_i fs hu
   cases hh : P.stoodInHeld t with
   | true => rw [hh] at h; cases h
   | false =>
    rw [hh] at h
    have hf : P.fieldsOf t = fs := by simp [Program.fieldsOf, hu]
    have ih := equal_run d D
    have := eqFields_run (w := w) (D := d + D) ih (cellKs_proper d) hx hy h (by simpa using hb)
    rw [show d + 1 + D + 1 = (d + D + 1) + 1 by omega, run_equalIn_struct w (d + D + 1) t xs ys (by rw [hf]; exact hu) hh, hf]
    exact this
  ·rename_i n e hu
   split at h
   ·rename_i kd hk
    obtain ⟨hsz, h⟩ := bif_some h
    cases h
    unfold sizeIs at hsz
    split at hsz
    ·rename_i i hi
     have h1 : i.size = 1 := (Nat.eq_of_beq_eq_true hsz).symm
     have h2 : P.cellsOf e = 1 := by simp [Program.cellsOf, hi, h1]
     rw [show d + 1 + D + 1 = (d + D + 1) + 1 by omega, run_equalIn_array w (d + D + 1) xs ys hu hi, h2, List.range_eq_range']
     exact eqItems_run (D := d + D) hk hx hy n 0 b (by simpa using hb)
    ·cases hsz
   ·cases h
  ·cases h
theorem op_eqA (hm : MR w0 okA μ ok st.heap w) (he : ER df μ ok st.heap w st.env a) (hk : Owed df w0 okA a k r fun u w => next (a.put o.dst u) w)
  {neg : Bool} {rr : Kd} {t yt : TypeId} {x y : Operand} (ho : o.op = (AOp.eqA neg rr t x y yt).erase) (hP : (AOp.eqA neg rr t x y yt).okP P = true) (h : evalOp C hb st (.eqA neg rr t x y yt) k = some r) : o.wp P a w next Q := by
 have hx := ev_sound he x
 have hy := ev_sound he y
 simp only [AOp.okP, Bool.and_eq_true] at hP
 obtain ⟨hP1, hP2⟩ := hP
 split at hP1
 ·rename_i r' hr
  have := Kd.eq_of_beq hP1
  subst this
  simp only [evalOp] at h
  split at h
  ·rename_i l l' hxv hyv
   rw [hxv] at hx
   rw [hyv] at hy
   obtain ⟨xs, hp, hs, hc⟩ := hx
   obtain ⟨ys, hp', hs', hc'⟩ := hy
   split at h
   ·rename_i b hb'
    have hrun := equal_run (P := P) (μ := μ) (ok := ok) (st := st) 6 9993 t r' xs ys l l' b w hr ⟨by simpa using hs, fun t c ht => by simpa using hc t c ht⟩ ⟨by simpa using hs', fun t c ht => by simpa using hc' t c ht⟩ hb'
    have hg : P.eqGuardType P.depth t = false := by simpa using hP2
    refine wp_quiet hm he hk (u := .bool (bif neg then !b else b)) (v := bl (bif neg then !b else b)) ?_ rfl h
    cases neg
    ·simp [execOp, ho, AOp.erase, hp, hp', run_eqGuard_agg (P := P) w .eql t x y xs ys hg, run_eql_struct, hrun]
    ·simp [execOp, ho, AOp.erase, hp, hp', run_eqGuard_agg (P := P) w .neq t x y xs ys hg, run_neq_struct, hrun]
   ·cases h
  ·cases h
 ·cases hP1
theorem op_eqB (hm : MR w0 okA μ ok st.heap w) (he : ER df μ ok st.heap w st.env a) (hk : Owed df w0 okA a k r fun u w => next (a.put o.dst u) w)
  {neg : Bool} {t yt : TypeId} {x y : Operand} (ho : o.op = (AOp.eqB neg t x y yt).erase) (hP : (AOp.eqB neg t x y yt).okP P = true) (h : evalOp C hb st (.eqB neg t x y yt) k = some r) : o.wp P a w next Q := by
 have hx := ev_sound he x
 have hy := ev_sound he y
 simp only [AOp.okP] at hP
 split at hP
 ·rename_i hu
  simp only [evalOp] at h
  split at h
  ·rename_i b1 b2 hxv hyv
   rw [hxv] at hx
   rw [hyv] at hy
   have hx : a.eval x = .bool b1 := hx
   have hy : a.eval y = .bool b2 := hy
   refine wp_quiet hm he hk (u := .bool (bif neg then !(b1 == b2) else (b1 == b2))) (v := bl (bif neg then !(b1 == b2) else (b1 == b2))) ?_ rfl h
   cases neg
   ·simp [execOp, ho, AOp.erase, hx, hy, eqGuard_at_bool, run_eql_bool w t b1 b2 hu]
   ·simp [execOp, ho, AOp.erase, hx, hy, eqGuard_at_bool, run_neq_bool w t b1 b2 hu]
  ·cases h
 ·cases hP
end
end Go.Eng
