/-
 Operations, part 8a: matrices: rows of one's own in a slice of one's own.
-/
import Derived.Test.YtkknnlhhchielaaDoorEngJ
set_option linter.all false
namespace Go.Eng
open Go Go.RowKit
variable {df : DF}
section
variable {ρ : Type} {P : Program} {C : Oracle} {hb : Nat} {w0 : Base} {okA : Nat → Prop} {μ : Nat → Option Nat} {ok : Nat → Prop} {st : St} {a : Act} {w : World}
 {o : Oper} {k : V → St → Option ρ} {r : ρ} {next : Act → World → Prop} {Q : Exit → Act → World → Prop}
theorem op_makeMat (hm : MR w0 okA μ ok st.heap w) (he : ER df μ ok st.heap w st.env a) (hk : Owed df w0 okA a k r fun u w => next (a.put o.dst u) w)
  {q : Nat} {t e : TypeId} {κ : Kd} {bytes : Nat} {l c : Operand} (ho : o.op = .makeSlice t l c) (hP : (AOp.makeMat q t e κ bytes l c).okP P = true)
  (h : evalOp C hb st (.makeMat q t e κ bytes l c) k = some r) : o.wp P a w next Q := by
 have hl := ev_sound he l
 have hc := ev_sound he c
 simp only [AOp.okP, Bool.and_eq_true] at hP
 obtain ⟨⟨⟨hP1, hP3⟩, hκ⟩, hP5⟩ := hP
 have hu := sliceIs_eq hP1
 have hbytes := Nat.le_of_ble_eq_true hP3
 split at hP5
 ·rename_i i hi
  simp only [Bool.and_eq_true] at hP5
  obtain ⟨⟨h1, h2⟩, h3⟩ := hP5
  have hisz := Nat.eq_of_beq_eq_true h1
  have hib := Nat.eq_of_beq_eq_true h2
  split at h3
  ·rename_i hz
   simp only [evalOp] at h
   split at h
   ·rename_i k1 n1 k2 n2 hlv hcv
    rw [hlv] at hl
    rw [hcv] at hc
    have hl : a.eval l = .int k1 n1 := hl
    have hc : a.eval c = .int k2 n2 := hc
    obtain ⟨h4, hA⟩ := bif_some h
    clear h
    simp only [Bool.and_eq_true, decide_eq_true_eq] at h4
    obtain ⟨⟨h5, h6⟩, h7⟩ := h4
    subst h6
    have hbb : (i.bytes : Int) * n1 ≤ 281474976710656 := by
     have e1 : (i.bytes : Int) ≤ 4096 := by omega
     have e2 : (i.bytes : Int) * n1 ≤ 4096 * n1 := Int.mul_le_mul_of_nonneg_right e1 (by omega)
     omega
    have hrun0 := run_make (P := P) w t e i (.slice none 0 0) hu hi hz k1 k2 n1 n1 h5 (Int.le_refl _) hbb (by omega)
    have hrun : (execOp a.eval o).run P w = .ok (.value (.slice (some ⟨w.heap.size, 0, none⟩) n1.toNat n1.toNat)) (w.alloc (.cells (madeCells (Value.slice none 0 0).cells (n1.toNat * i.size)) e)) := by
     simp [execOp, ho, hl, hc, hrun0]
    have hmsz := size_madeCells (Value.slice none 0 0).cells (n1.toNat * i.size)
    unfold newB at hA
    split at hA
    ·rename_i hres
     obtain ⟨μ2, g1, g2, g3, g4, g5, E⟩ := new_step hm he hres (.mat κ n1.toNat (fun _ => 0) (fun _ _ => .any)) (madeCells (Value.slice none 0 0).cells (n1.toNat * i.size)) e ⟨rfl, below_alloc hm _⟩ (fun _ _ _ hh ht => by cases hh)
      (fun μ' E hμ hw => ⟨hκ, by simp only [maxLen]; omega, w.heap.size, _, e, hμ, hw, by rw [hmsz, hisz, Nat.mul_one], fun i' hi' => by
       refine ⟨.slice none 0 0, ?_, ⟨none, 0, rfl, Nat.le_refl _, Nat.zero_le _, .inl rfl⟩, fun _ h0 => absurd h0 (Nat.lt_irrefl 0)⟩
       have hidx : i' < (madeCells (Value.slice none 0 0).cells (n1.toNat * i.size)).size := by rw [hmsz, hisz, Nat.mul_one]; exact hi'
       rw [Array.getElem?_eq_getElem hidx]
       have hcs : (Value.slice none 0 0).cells = #[.slice none 0 0] := rfl
       simp only [madeCells, Array.getElem_map, Array.getElem_range, hcs]
       have : i' % (#[Value.slice none 0 0] : Array Value).size = 0 := Nat.mod_one _
       simp [this, Nat.mod_one]⟩)
     refine wp_value hrun (hk μ2 ok (.x (.own (hb + q) 0 n1.toNat)) _ _ _ g1 g2 ?_ hA)
     refine ⟨rfl, ?_⟩
     rw [g4]
     exact ⟨rfl, rfl, by simp only [maxLen]; omega, _, g3, rfl⟩
    ·cases hA
   ·cases h
  ·cases h3
 ·cases hP5
theorem MR.rowStore {H : List Blk} (h : MR w0 okA μ ok H w) {b b2 i n n2 g : Nat} {κ : Kd} {ln : Nat → Nat} {f f2 : Nat → Nat → CV} {cur : Array Value} {e : TypeId} {u : Value}
  (hb : H[b]? = some (.mat κ n ln f)) (hb2 : H[b2]? = some (.arr (.pr κ .nil) n2 f2)) (hi : i < n) (hu : OwnR μ w b2 0 n2 (.pr κ .nil) u) (hg : μ b = some g) (hw : w.heap[g]? = some (.cells cur e (0, 0))) (hcur : cur.size = n) {cur' : Array Value}
  (hsz' : cur'.size = cur.size) (hcu : cur'[i]? = some u) (hco : ∀ j, j ≠ i → cur'[j]? = cur[j]?) :
  ∃ μ', MR w0 okA μ' ok ((((H.map (Blk.drop b2)).map (Blk.dropR b)).set b2 .dead).set b (.mat κ n (updN ln i n2) (updM f i f2))) (w.setRow g cur') ∧
   ∀ y v, V0R μ ok w H y v → V0R μ' ok (w.setRow g cur') ((((H.map (Blk.drop b2)).map (Blk.dropR b)).set b2 .dead).set b (.mat κ n (updN ln i n2) (updM f i f2))) ((y.drop b2).dropR b) v := by
 have hlt : b < H.length := (List.getElem?_eq_some_iff.1 hb).1
 have hlt2 : b2 < H.length := (List.getElem?_eq_some_iff.1 hb2).1
 have hne : b2 ≠ b := fun e => by subst e; rw [hb] at hb2; cases hb2
 have hf := h.fresh b g hg
 obtain ⟨L, hL⟩ : ∃ L, L = H.length := ⟨_, rfl⟩
 obtain ⟨H', hH'⟩ : ∃ H', H' = ((((H.map (Blk.drop b2)).map (Blk.dropR b)).set b2 .dead).set b (.mat κ n (updN ln i n2) (updM f i f2))) := ⟨_, rfl⟩
 rw [← hH']
 have hlen : H'.length = H.length := by rw [hH']; simp
 have atb : H'[b]? = some (.mat κ n (updN ln i n2) (updM f i f2)) := by rw [hH']; exact List.getElem?_set_self (by simpa using hlt)
 have atb2 : H'[b2]? = some .dead := by rw [hH', List.getElem?_set_ne (Ne.symm hne)]; exact List.getElem?_set_self (by simpa using hlt2)
 have ato : ∀ b', b' ≠ b → b' ≠ b2 → H'[b']? = (H[b']?).map fun o => Blk.dropR b (Blk.drop b2 o) := fun b' h1 h2 => by
  rw [hH', List.getElem?_set_ne (Ne.symm h1), List.getElem?_set_ne (Ne.symm h2), List.getElem?_map, List.getElem?_map]
  cases H[b']? <;> rfl
 obtain ⟨μ', hμ'⟩ : ∃ μ' : Nat → Option Nat, μ' = fun k => if k = rix H.length b i then μ b2 else if k = b2 then none else μ k := ⟨_, rfl⟩
 have mu1 : ∀ b', b' < H.length → b' ≠ b2 → μ' b' = μ b' := fun b' h1 h2 => by
  rw [hμ']; dsimp only; rw [if_neg (fun e => rix_ne (b := b) (i := i) h1 e.symm), if_neg h2]
 have mu2 : ∀ b' i', b' < H.length → ¬ (b' = b ∧ i' = i) → μ' (rix H.length b' i') = μ (rix H.length b' i') := fun b' i' h1 h2 => by
  rw [hμ']; dsimp only; rw [if_neg (fun e => h2 (rix_inj h1 hlt e)), if_neg (rix_ne hlt2)]
 have mu3 : μ' (rix H.length b i) = μ b2 := by rw [hμ']; dsimp only; rw [if_pos rfl]
 have mu4 : ∀ k x, μ' k = some x → (k = rix H.length b i ∧ μ b2 = some x) ∨ (k ≠ b2 ∧ μ k = some x ∧ k ≠ rix H.length b i) := fun k x hk => by
  rw [hμ'] at hk
  dsimp only at hk
  split at hk
  ·rename_i h1; exact .inl ⟨h1, hk⟩
  ·rename_i h1
   split at hk
   ·cases hk
   ·rename_i h2; exact .inr ⟨h2, hk, h1⟩
 have hrow : (w.setRow g cur').heap[g]? = some (.cells cur' e (0, 0)) := setRow_heap w g cur cur' e _ hw
 have hoth : ∀ k, k ≠ g → (w.setRow g cur').heap[k]? = w.heap[k]? := fun k hk => setRow_other w g k cur' hk
 have hgo : ∀ k x, k ≠ b → μ k = some x → x ≠ g := fun k x hk hx e => by subst e; exact hk (h.inj k b x hx hg)
 have hok : ∀ q, ok q → ok q ∧ (w.setRow g cur').heap[q]? = w.heap[q]? := fun q hq => ⟨hq, hoth q fun e => hf.2.2 (e ▸ hq)⟩
 have tptr : ∀ b' j v, PtrR μ H b' j v → PtrR μ' H' b' j v := fun b' j v hp => by
  obtain ⟨h1, h2⟩ := hp
  refine ⟨h1, ?_⟩
  by_cases e1 : b' = b
  ·subst e1; rw [hb] at h2; exact h2.elim
  ·by_cases e2 : b' = b2
   ·subst e2; rw [hb2] at h2; exact h2.elim
   ·rw [ato b' e1 e2]
    cases hq : H[b']? with
    | none => rw [hq] at h2; exact h2.elim
    | some o =>
     rw [hq] at h2
     have hl := (List.getElem?_eq_some_iff.1 hq).1
     cases o <;> first | exact h2 | (obtain ⟨x, hx, hv⟩ := h2; exact ⟨x, (mu1 b' hl e2).trans hx, hv⟩)
 have trans : ∀ y v, V0R μ ok w H y v → V0R μ' ok (w.setRow g cur') H' ((y.drop b2).dropR b) v := fun y v hy => by
  cases y with
  | u => exact hy
  | c x => exact CR.mono hok hy
  | ptr b' j => exact tptr b' j v hy
  | fn fid caps =>
   obtain ⟨cs, hv, hs, hc⟩ := hy
   refine ⟨cs, hv, hs, fun t c ht => ?_⟩
   obtain ⟨u', hu', hr⟩ := hc t c ht
   refine ⟨u', hu', ?_⟩
   cases c with
   | c x => exact CR.mono hok hr
   | ptr b' j => exact tptr b' j u' hr
  | own b' off l =>
   by_cases e2 : b' = b2
   ·subst e2
    have : (V0.own b' off l).drop b' = .u := by simp [V0.drop]
    rw [this]; exact V0R.one hy
   ·have : (V0.own b' off l).drop b2 = .own b' off l := by
     have : (b' == b2) = false := by simpa using e2
     simp [V0.drop, this]
    rw [this]
    obtain ⟨h1, h2⟩ := hy
    refine ⟨h1, ?_⟩
    by_cases e1 : b' = b
    ·subst e1
     rw [hb] at h2
     rw [atb]
     obtain ⟨q1, q2, q3, x, q4, q5⟩ := h2
     exact ⟨q1, q2, q3, x, (mu1 b' hlt e2).trans q4, q5⟩
    ·rw [ato b' e1 e2]
     cases hq : H[b']? with
     | none => rw [hq] at h2; exact h2.elim
     | some o =>
      rw [hq] at h2
      have hl := (List.getElem?_eq_some_iff.1 hq).1
      cases o with
      | rsv => exact h2.elim
      | dead => trivial
      | box cs => exact h2.elim
      | arr r' n' f' =>
       obtain ⟨q1, a', cap, q2, q3, q4, q5⟩ := h2
       refine ⟨q1, a', cap, q2, q3, q4, q5.imp id ?_⟩
       rintro ⟨x, cu, e', x1, x2, x3, x4⟩
       exact ⟨x, cu, e', (mu1 b' hl e2).trans x1, x2, (hoth x (hgo b' x e1 x1)).trans x3, x4⟩
      | set sb n' f' =>
       obtain ⟨x, x1, x2⟩ := h2
       exact ⟨x, (mu1 b' hl e2).trans x1, x2⟩
      | mat κ' n' ln' f' =>
       obtain ⟨q1, q2, q3, x, q4, q5⟩ := h2
       exact ⟨q1, q2, q3, x, (mu1 b' hl e2).trans q4, q5⟩
  | aptr b' i' j =>
   by_cases e2 : b' = b2
   ·subst e2
    have : (V0.aptr b' i' j).drop b' = .u := by simp [V0.drop]
    rw [this]; exact V0R.one hy
   ·have : (V0.aptr b' i' j).drop b2 = .aptr b' i' j := by
     have : (b' == b2) = false := by simpa using e2
     simp [V0.drop, this]
    rw [this]
    obtain ⟨h1, h2⟩ := hy
    refine ⟨h1, ?_⟩
    by_cases e1 : b' = b
    ·subst e1
     rw [hb] at h2
     rw [atb]
     obtain ⟨q1, x, q4, q5⟩ := h2
     exact ⟨q1, x, (mu1 b' hlt e2).trans q4, q5⟩
    ·rw [ato b' e1 e2]
     cases hq : H[b']? with
     | none => rw [hq] at h2; exact h2.elim
     | some o =>
      rw [hq] at h2
      have hl := (List.getElem?_eq_some_iff.1 hq).1
      cases o <;> first | exact h2 | (obtain ⟨q1, x, q4, q5⟩ := h2; exact ⟨q1, x, (mu1 b' hl e2).trans q4, q5⟩)
  | mrow b' i' =>
   by_cases e2 : b' = b2
   ·subst e2
    have : (V0.mrow b' i').drop b' = .u := by simp [V0.drop]
    rw [this]; exact V0R.one hy
   ·have : (V0.mrow b' i').drop b2 = .mrow b' i' := by
     have : (b' == b2) = false := by simpa using e2
     simp [V0.drop, this]
    rw [this]
    by_cases e1 : b' = b
    ·subst e1
     have : (V0.mrow b' i').dropR b' = .u := by simp [V0.dropR]
     rw [this]; exact V0R.one hy
    ·have : (V0.mrow b' i').dropR b = .mrow b' i' := by
      have : (b' == b) = false := by simpa using e1
      simp [V0.dropR, this]
     rw [this]
     obtain ⟨h1, h2⟩ := hy
     refine ⟨h1, ?_⟩
     rw [ato b' e1 e2]
     cases hq : H[b']? with
     | none => rw [hq] at h2; exact h2.elim
     | some o =>
      rw [hq] at h2
      have hl := (List.getElem?_eq_some_iff.1 hq).1
      cases o with
      | mat κ' n' ln' f' =>
       obtain ⟨q1, a', cap, q2, q3, q4, q5⟩ := h2
       exact ⟨q1, a', cap, q2, q3, q4, q5.imp id fun ⟨x, x1, x2⟩ => ⟨x, by rw [hlen, mu2 b' i' hl (fun hh => e1 hh.1)]; exact x1, x2⟩⟩
      | _ => exact h2
  | mptr b' i' j' =>
   by_cases e2 : b' = b2
   ·subst e2
    have : (V0.mptr b' i' j').drop b' = .u := by simp [V0.drop]
    rw [this]; exact V0R.one hy
   ·have : (V0.mptr b' i' j').drop b2 = .mptr b' i' j' := by
     have : (b' == b2) = false := by simpa using e2
     simp [V0.drop, this]
    rw [this]
    by_cases e1 : b' = b
    ·subst e1
     have : (V0.mptr b' i' j').dropR b' = .u := by simp [V0.dropR]
     rw [this]; exact V0R.one hy
    ·have : (V0.mptr b' i' j').dropR b = .mptr b' i' j' := by
      have : (b' == b) = false := by simpa using e1
      simp [V0.dropR, this]
     rw [this]
     obtain ⟨h1, h2⟩ := hy
     refine ⟨h1, ?_⟩
     rw [ato b' e1 e2]
     cases hq : H[b']? with
     | none => rw [hq] at h2; exact h2.elim
     | some o =>
      rw [hq] at h2
      have hl := (List.getElem?_eq_some_iff.1 hq).1
      cases o with
      | mat κ' n' ln' f' =>
       obtain ⟨q1, q2, x, x1, x2⟩ := h2
       exact ⟨q1, q2, x, by rw [hlen, mu2 b' i' hl (fun hh => e1 hh.1)]; exact x1, x2⟩
      | _ => exact h2
 refine ⟨μ', ⟨h.below.turn hw hsz' hf.1 hrow hoth, fun k hk => by simpa using h.okd k hk, h.keep, fun k x hk => ?_, fun k k' x hk hk' => ?_, fun b' o ho => ?_, fun b' x r' n' f' hx ht hm => ?_⟩, trans⟩
 ·rw [show (w.setRow g cur').heap.size = w.heap.size by simp]
  rcases mu4 k x hk with ⟨_, hx⟩ | ⟨_, hx, _⟩
  ·exact h.fresh b2 x hx
  ·exact h.fresh k x hx
 ·rcases mu4 k x hk with ⟨e1, hx⟩ | ⟨e1, hx, e3⟩
  ·rcases mu4 k' x hk' with ⟨e2, _⟩ | ⟨e2, hx', _⟩
   ·rw [e1, e2]
   ·exact absurd (h.inj k' b2 x hx' hx) e2
  ·rcases mu4 k' x hk' with ⟨e2, hx'⟩ | ⟨e2, hx', _⟩
   ·exact absurd (h.inj k b2 x hx hx') e1
   ·exact h.inj k k' x hx hx'
 ·by_cases e1 : b' = b
  ·subst e1
   rw [atb] at ho
   cases ho
   obtain ⟨hκ, hn, g', cu, e', hg', hw', hcs, hall⟩ := h.blk b' _ hb
   rw [hg] at hg'; cases hg'
   rw [hw] at hw'; cases hw'
   refine ⟨hκ, hn, g, cur', e, (mu1 b' hlt (Ne.symm hne)).trans hg, hrow, hsz'.trans hcs, fun i' hi' => ?_⟩
   by_cases hii : i' = i
   ·subst hii
    have el : updN ln i' n2 i' = n2 := by unfold updN; simp
    rw [el, hlen]
    obtain ⟨a', cap, q1, q2, q3, q4⟩ := hu
    refine ⟨u, hcu, ⟨a', cap, q1, q2, q3, ?_⟩, fun x hpos hx => ?_⟩
    ·rcases q4 with ⟨q4, _⟩ | ⟨x, cu, e', x1, x2, x3, x4⟩
     ·exact .inl q4
     ·refine .inr ⟨x, mu3.trans x1, by rw [x2]; simp⟩
    ·rw [mu3] at hx
     obtain ⟨_, hbr⟩ := h.blk b2 _ hb2
     rcases hbr with ⟨h0, _⟩ | ⟨x', cu, e', x1, x2, x3, x4⟩
     ·omega
     ·rw [hx] at x1; cases x1
      refine ⟨cu, e', (hoth x (hgo b2 x hne hx)).trans x2, by simpa [Kd.len] using x3, fun k' hk' => ?_⟩
      have ef : updM f i' f2 i' k' = f2 k' 0 := by unfold updM; simp
      rw [ef]
      obtain ⟨p1, u1, p2, p3⟩ := x4 k' 0 hk' (by simp [Kd.len])
      exact ⟨p1, u1, by simpa [Kd.len] using p2, CR.mono hok p3⟩
   ·obtain ⟨u', hu', hrv, hrows⟩ := hall i' hi'
    have hbq : Nat.beq i' i = false := by
     cases hh : Nat.beq i' i with
     | false => rfl
     | true => exact absurd (Nat.eq_of_beq_eq_true hh) hii
    have el : updN ln i n2 i' = ln i' := by unfold updN; rw [hbq]; rfl
    rw [el, hlen]
    have hm2 := mu2 b' i' hlt (fun hh => hii hh.2)
    refine ⟨u', (hco i' hii).trans hu', ?_, fun x hpos hx => ?_⟩
    ·obtain ⟨a', cap, q1, q2, q3, q4⟩ := hrv
     exact ⟨a', cap, q1, q2, q3, q4.imp id fun ⟨x, x1, x2⟩ => ⟨x, hm2.trans x1, x2⟩⟩
    ·rw [hm2] at hx
     obtain ⟨rc, e', r1, r2, r3⟩ := hrows x hpos hx
     refine ⟨rc, e', (hoth x (hgo _ x (rix_ne hlt) hx)).trans r1, r2, fun k' hk' => ?_⟩
     have ef : updM f i f2 i' k' = f i' k' := by unfold updM; rw [hbq]; rfl
     rw [ef]
     obtain ⟨p1, u1, p2, p3⟩ := r3 k' hk'
     exact ⟨p1, u1, p2, CR.mono hok p3⟩
  ·by_cases e2 : b' = b2
   ·subst e2
    rw [atb2] at ho
    cases ho
    trivial
   ·rw [ato b' e1 e2] at ho
    cases hq : H[b']? with
    | none => rw [hq] at ho; cases ho
    | some o0 =>
     rw [hq] at ho
     cases ho
     have hl := (List.getElem?_eq_some_iff.1 hq).1
     have h0 := h.blk b' o0 hq
     cases o0 with
     | rsv => exact (mu1 b' hl e2).trans h0
     | dead => trivial
     | box cells =>
      obtain ⟨x, cu, e', x1, x2, x3, x4⟩ := h0
      refine ⟨x, cu, e', (mu1 b' hl e2).trans x1, (hoth x (hgo b' x e1 x1)).trans x2, by simpa using x3, fun j c hj => ?_⟩
      rw [List.getElem?_map, List.getElem?_map] at hj
      cases hq2 : cells[j]? with
      | none => rw [hq2] at hj; cases hj
      | some c0 =>
       rw [hq2] at hj
       cases hj
       obtain ⟨u', hu', hr⟩ := x4 j c0 hq2
       exact ⟨u', hu', trans c0 u' hr⟩
     | arr r' n' f' =>
      obtain ⟨h5, h6⟩ := h0
      refine ⟨h5, ?_⟩
      rcases h6 with ⟨y1, y2⟩ | ⟨x, cu, e', x1, x2, x3, x4⟩
      ·exact .inl ⟨y1, (mu1 b' hl e2).trans y2⟩
      ·refine .inr ⟨x, cu, e', (mu1 b' hl e2).trans x1, (hoth x (hgo b' x e1 x1)).trans x2, x3, fun i' j' hi' hj' => ?_⟩
       obtain ⟨p1, u1, p2, p3⟩ := x4 i' j' hi' hj'
       exact ⟨p1, u1, p2, CR.mono hok p3⟩
     | set sb n' f' =>
      obtain ⟨x, es, x1, x2, x3⟩ := h0
      exact ⟨x, es, (mu1 b' hl e2).trans x1, (hoth x (hgo b' x e1 x1)).trans x2, x3⟩
     | mat κ' n' ln' f' =>
      obtain ⟨hκ, hn, x, cu, e', x1, x2, x3, x4⟩ := h0
      refine ⟨hκ, hn, x, cu, e', (mu1 b' hl e2).trans x1, (hoth x (hgo b' x e1 x1)).trans x2, x3, fun i' hi' => ?_⟩
      obtain ⟨u', hu', hrv, hrows⟩ := x4 i' hi'
      have hm2 := mu2 b' i' hl (fun hh => e1 hh.1)
      rw [hlen]
      refine ⟨u', hu', ?_, fun y hpos hy => ?_⟩
      ·obtain ⟨a', cap, q1, q2, q3, q4⟩ := hrv
       exact ⟨a', cap, q1, q2, q3, q4.imp id fun ⟨x, x1, x2⟩ => ⟨x, hm2.trans x1, x2⟩⟩
      ·rw [hm2] at hy
       obtain ⟨rc, e'', r1, r2, r3⟩ := hrows y hpos hy
       refine ⟨rc, e'', (hoth y (hgo _ y (rix_ne hlt) hy)).trans r1, r2, fun k' hk' => ?_⟩
       obtain ⟨p1, u1, p2, p3⟩ := r3 k' hk'
       exact ⟨p1, u1, p2, CR.mono hok p3⟩
 ·by_cases e1 : b' = b
  ·subst e1; rw [atb] at hx; cases hx
  ·by_cases e2 : b' = b2
   ·subst e2; rw [atb2] at hx; cases hx
   ·rw [ato b' e1 e2] at hx
    cases hq : H[b']? with
    | none => rw [hq] at hx; cases hx
    | some o0 =>
     rw [hq] at hx
     have hl := (List.getElem?_eq_some_iff.1 hq).1
     rw [mu1 b' hl e2] at hm
     cases o0 with
     | arr r1 n1 f1 => cases hx; exact h.tag b' x _ _ _ hq ht hm
     | rsv => cases hx
     | dead => cases hx
     | box c => cases hx
     | set sb c d => cases hx
     | mat κ c d f => cases hx
theorem op_storeRow (hm : MR w0 okA μ ok st.heap w) (he : ER df μ ok st.heap w st.env a) (hk : Owed df w0 okA a k r fun u w => next (a.put o.dst u) w)
  {t : TypeId} {x y : Operand} (ho : o.op = .store t x y) (hP : sizeIs P t 1 = true) (h : evalOp C hb st (.storeRow t x y) k = some r) : o.wp P a w next Q := by
 have hx := ev_sound he x
 have hy := ev_sound he y
 simp only [evalOp] at h
 split at h
 ·rename_i b i j b2 off len hxv hyv
  rw [hxv] at hx
  rw [hyv] at hy
  split at h
  ·rename_i κ n ln f κ' n2 f2 hq hq2
   obtain ⟨h1, hA⟩ := bif_some h
   simp only [Bool.and_eq_true] at h1
   obtain ⟨hkk, hln, hin⟩ := h1
   have hkk := Kd.eq_of_beq hkk
   subst hkk
   have hln := Nat.eq_of_beq_eq_true hln
   subst hln
   obtain ⟨_, hp⟩ := hx
   rw [hq] at hp
   obtain ⟨hi, g, hg, hp⟩ := hp
   obtain ⟨hy1, hy2⟩ := hy
   rw [hq2] at hy2
   obtain ⟨_, hown⟩ := hy2
   obtain ⟨hκ, hn, g', cur, e, hg', hw, hcur, hc⟩ := hm.blk b _ hq
   rw [hg] at hg'; cases hg'
   have hcs : (a.eval y).cells = #[a.eval y] := by
    obtain ⟨a', cap, q1, _⟩ := hown
    rw [q1]; rfl
   have hrun := store_run (P := P) (j := i) (v := a.eval y) hP (by rw [hcs]; rfl) hw (by omega) (by rw [hcs]; simpa using hy1)
   obtain ⟨μ', hm', htr⟩ := hm.rowStore (cur' := (splice cur.toList i (a.eval y).cells.toList).toArray) hq hq2 hi hown hg hw hcur (by rw [hcs]; simp [splice]; omega)
    (by rw [hcs]; simp only [List.getElem?_toArray]; rw [splice_get _ _ _ _ (by simp; omega), if_pos (by simp)]; simp)
    (fun j hj => by rw [hcs]; simp only [List.getElem?_toArray]; rw [splice_get _ _ _ _ (by simp; omega), if_neg (by simp; omega)]; simp)
   refine wp_skipped (w' := w.setRow g (splice cur.toList i (a.eval y).cells.toList).toArray) ?_ (hk μ' ok .undef _ _ _ hm' ⟨?_, fun t v ht => ?_, he.defers, ?_⟩ rfl hA)
   ·rw [Nat.add_zero] at hp
    simp [execOp, ho, hp, hrun]
   ·show a.tmps.size = ((st.env.map (V.drop b2)).map (V.dropR b)).length
    simpa using he.size
   ·have ht : ((st.env.map (V.drop b2)).map (V.dropR b))[t]? = some v := ht
    rw [List.getElem?_map, List.getElem?_map] at ht
    cases hqv : st.env[t]? with
    | none => rw [hqv] at ht; cases ht
    | some v0 =>
     rw [hqv] at ht
     cases ht
     obtain ⟨u, hu, hr⟩ := he.env t v0 hqv
     refine ⟨u, hu, ?_⟩
     have hok : ∀ q, ok q → ok q ∧ (w.setRow g (splice cur.toList i (a.eval y).cells.toList).toArray).heap[q]? = w.heap[q]? := fun q hq' => ⟨hq', setRow_other w g q _ fun e => (hm.fresh b g hg).2.2 (e ▸ hq')⟩
     cases v0 with
     | u => trivial
     | undef => exact hr
     | x y0 => exact htr y0 u hr
     | tup l =>
      obtain ⟨vs, hv, hs⟩ := hr
      exact ⟨vs, hv, ARs.mono hok hs⟩
     | agg l =>
      obtain ⟨cs, hv, hs, hc'⟩ := hr
      refine ⟨cs, hv, by simpa using hs, fun t' c ht' => ?_⟩
      rw [List.getElem?_map, List.getElem?_map] at ht'
      cases hq3 : l[t']? with
      | none => rw [hq3] at ht'; cases ht'
      | some c0 =>
       rw [hq3] at ht'
       cases ht'
       obtain ⟨u', hu', hr'⟩ := hc' t' c0 hq3
       exact ⟨u', hu', htr c0 u' hr'⟩
   ·exact he.glob.mono fun q hq' => ⟨hq', setRow_other w g q _ fun e => (hm.fresh b g hg).2.2 (e ▸ hq')⟩
  ·cases h
 ·cases h
end
end Go.Eng
